/- Layer 1's reference: Node, split, Root by their contracts. -/
import Derived.Test.YtcgdojdiihdkeaaDoorRoot
import Derived.Test.YtcgdojdiihdkeaaDoorRefB
namespace Go.Proofs.YtcgdojdiihdkeaaDoor
open Go Go.RowKit Go.Isth

theorem rsum_hv (A : Option Addr) (c m : Nat) (bs : List UInt8) (cs : List Value) (w : World) (hm : m = bs.length) (hcs : cs = (sumF bs).map B) (hr : Rd w A (bs.map B)) (hl : m ≤ 140737488355200) :
    Calls Tryd.prog 30 #[.slice A m c] w fun e w' => e = .returned (.agg cs.toArray) ∧ Below w.heap.size w w' := by
  subst hm
  subst hcs
  exact refsum_any A c bs w hl hr
set_option maxRecDepth 100000 in
set_option maxHeartbeats 2000000 in
theorem rnode_any (a b : List UInt8) (csa csb cso : List Value) (hca : csa = a.map B) (hcb : csb = b.map B) (hco : cso = (nodeF a b).map B) (ha : a.length = 32) (hb : b.length = 32) (w : World) :
    Calls Tryd.prog 45 #[.agg csa.toArray, .agg csb.toArray] w fun e w' => e = .returned (.agg cso.toArray) ∧ Below w.heap.size w w' := by
  have hal : csa.length = 32 := by rw [hca, List.length_map]; exact ha
  have hbl : csb.length = 32 := by rw [hcb, List.length_map]; exact hb
  have hol : cso.length = 32 := by rw [hco, List.length_map]; exact nodeF_length _ _
  have HT := Lib.hid (And.intro hca (And.intro hcb (And.intro hco (And.intro hal (And.intro hbl hol)))))
  have ha1 : ∀ u ∈ csa, u.oneCell' = true := by rw [hca]; exact one_bytes
  have hb1 : ∀ u ∈ csb, u.oneCell' = true := by rw [hcb]; exact one_bytes
  have ho1 : ∀ u ∈ cso, u.oneCell' = true := by rw [hco]; exact one_bytes
  have HAB := Lib.hid (And.intro ha hb)
  clear hca hcb hco ha hb hal hbl
  go_enter Tryd.func45, Tryd.ntmps45
  have hb0 : Below w.heap.size w (((w.alloc (.cells csa.toArray 28)).alloc (.cells csb.toArray 28)).alloc (.cells (List.replicate 32 (B 0)).toArray 28)) := (((Below.refl _ _).alloc (Nat.le_refl _) _).alloc (by simp) _).alloc (by simp; omega) _
  have hz1 : Blk (((w.alloc (.cells csa.toArray 28)).alloc (.cells csb.toArray 28)).alloc (.cells (List.replicate 32 (B 0)).toArray 28)) w.heap.size 28 csa := ((Blk_new w _ _).alloc _).alloc _
  have hz2 : Blk (((w.alloc (.cells csa.toArray 28)).alloc (.cells csb.toArray 28)).alloc (.cells (List.replicate 32 (B 0)).toArray 28)) (w.heap.size + 1) 28 csb := by
    have h := (Blk_new (w.alloc (.cells csa.toArray 28)) csb 28).alloc (.cells (List.replicate 32 (B 0)).toArray 28)
    rwa [World.size_alloc] at h
  have hz3 : Blk (((w.alloc (.cells csa.toArray 28)).alloc (.cells csb.toArray 28)).alloc (.cells (List.replicate 32 (B 0)).toArray 28)) (w.heap.size + 1 + 1) 28 (List.replicate 32 (B 0)) := by
    have h := Blk_new ((w.alloc (.cells csa.toArray 28)).alloc (.cells csb.toArray 28)) (List.replicate 32 (B 0)) 28
    rwa [World.size_alloc, World.size_alloc] at h
  go_upto_region 1 with fail
  change Code.wp _ _ _ _ (((w.alloc (.cells csa.toArray 28)).alloc (.cells csb.toArray 28)).alloc (.cells (List.replicate 32 (B 0)).toArray 28))
  generalize (((w.alloc (.cells csa.toArray 28)).alloc (.cells csb.toArray 28)).alloc (.cells (List.replicate 32 (B 0)).toArray 28)) = w3 at *
  have H3 := Lib.hid (And.intro hz3.lt (World.ownsRow_lit (base := w3.heap.size) (e := 5) (size := 1) w3 #[B 1] 1 (Nat.le_refl _) (by decide) rfl))
  have H4 := Lib.hid (And.intro (hb0.alloc hb0.size (.cells #[B 1] 5)) (And.intro (hz1.alloc (.cells #[B 1] 5)) (And.intro (hz2.alloc (.cells #[B 1] 5)) (And.intro (hz3.alloc (.cells #[B 1] 5)) hb0))))
  clear hb0 hz1 hz2 hz3
  have HLD := Lib.hid (show (1 + 32 ≤ maxLen ∧ (1 + 32) * 1 ≤ 140737488355328 ∧ csa.length = 32 * 1 ∧ csb.length = 32 * 1 ∧ 1 + 32 + 32 ≤ maxLen ∧ (1 + 32 + 32) * 1 ≤ 140737488355328) from ⟨by unfold maxLen; omega, by omega, HT.out.2.2.2.1, HT.out.2.2.2.2.1, by unfold maxLen; omega, by omega⟩)
  go_wp2_with (at_builtin; refine wpList_app tBs rfl _ _ rfl w3.heap.size (.slice (some ⟨w3.heap.size, 0, none⟩) 1 1) 1 [B 1] rfl H3.out.2 (some ⟨w.heap.size, 0, none⟩) 32 32 csa rfl H4.out.2.1.rd0 HLD.out.2.2.1 ha1 HLD.out.1 HLD.out.2.1 (by simp) ?_)
  intro v1 w1 ho1 hx1
  have hne1 : some (w.heap.size + 1) ≠ some w3.heap.size ∧ some (w.heap.size + 1 + 1) ≠ some w3.heap.size := by have := H3.out.1; simp; omega
  obtain ⟨A1, c1, rfl, _⟩ := own_slice ho1
  have hx1g : (w3.alloc (.cells #[B 1] 5)).grownBy w1 (some w3.heap.size) := hx1.grown
  have HX := Lib.hid (And.intro (show Below w.heap.size w w1 from H4.out.1.grown hx1g H4.out.1.size (fun k e => by injection e with e; have := H3.out.1; omega)) (And.intro ho1 (And.intro (H4.out.2.2.1.grown hx1g (fun e => hne1.1 e.symm)) (H4.out.2.2.2.1.grown hx1g (fun e => hne1.2 e.symm)))))
  have hs1 : w3.heap.size ≤ w1.heap.size := by have := hx1g.size; rw [World.size_alloc] at this; omega
  clear ho1 hx1 hx1g hne1
  go_wp2_with (at_builtin; refine wpList_app tBs rfl _ _ rfl w3.heap.size (.slice A1 (1 + 32) c1) (1 + 32) ([B 1] ++ csa) rfl HX.out.2.1 (some ⟨w.heap.size + 1, 0, none⟩) 32 32 csb rfl HX.out.2.2.1.rd0 HLD.out.2.2.2.1 hb1 HLD.out.2.2.2.2.1 HLD.out.2.2.2.2.2 hs1 ?_)
  intro v2 w2 ho2 hx2
  obtain ⟨A2, c2, rfl, _, hrd, _⟩ := own_slice ho2
  have hlow : ∀ k, (Value.slice A1 (1 + 32) c1).ownBlock = some k → w3.heap.size ≤ k := fun k e => (HX.out.2.1.lt k e).1
  have hne2 : some (w.heap.size + 1 + 1) ≠ (Value.slice A1 (1 + 32) c1).ownBlock := fun e => by have := hlow _ e.symm; have := H3.out.1; omega
  have HY := Lib.hid (And.intro (HX.out.1.grown hx2.grown HX.out.1.size (fun k e => by have := hlow k e; have := H4.out.2.2.2.2.size; omega)) (And.intro (HX.out.2.2.2.grown hx2.grown (fun e => hne2 e.symm)) hrd))
  clear ho2 hx2 hlow hne2 hrd hs1
  go_wp2_with fail
  refine (rsum_hv A2 c2 (1 + 32 + 32) (1 :: (a ++ b)) cso w2 (by have := HAB.out; simp; omega) HT.out.2.2.1 (by have h := HY.out.2.2; rw [HT.out.1, HT.out.2.1] at h; simpa using h) (by decide)).mono ?_
  rintro e w4 ⟨rfl, hb4⟩
  have HZ := Lib.hid (And.intro (below_then HY.out.1 HY.out.1.size hb4) (HY.out.2.1.below hb4))
  have HLL := Lib.hid (show (some 32 : Option Nat) = some cso.length by rw [hol])
  clear hb4
  go_wp2_with (refine wpList_store_blk rfl 28 (.tmp 4) (.tmp 13) rfl (w.heap.size + 1 + 1) cso rfl rfl 28 _ HZ.out.2 (Eq.trans (by kernel_rfl) HLL.out) (by rw [hol, List.length_replicate]) ho1 ?_; intro w5 hw5 hg5)
  refine bodyPost_ret (results_blk rfl _ _ (w.heap.size + 1 + 1) 28 cso _ rfl hw5 Tryd.underlying28 rfl (Eq.trans (by kernel_rfl) HLL.out)) rfl ⟨rfl, ?_⟩
  exact HZ.out.1.grown hg5 HZ.out.1.size (fun k e => by injection e with e; omega)
/-- The loop of split. -/
theorem split_step {n k e : Nat} (h1 : 1 < n) (h2 : n ≤ 1000000) (hk : k = 2 ^ e) (hle : k ≤ halfN n) : (k < n - k → 2 * k = 2 ^ (e + 1) ∧ 2 * k ≤ halfN n) ∧ (¬ k < n - k → k = halfN n) := by
  have h3 := halfN_lt h1
  have h4 := halfN_two h1 (by omega)
  have hp : halfN n = 2 ^ (Lib.bitLen (n - 1) - 1) := rfl
  generalize Lib.bitLen (n - 1) - 1 = f at hp
  have h5 : 2 * k = 2 ^ (e + 1) := by rw [hk, Nat.pow_succ]; omega
  refine ⟨fun h => ⟨h5, ?_⟩, fun h => ?_⟩
  · have h6 : 2 ^ (e + 1) < 2 ^ (f + 1) := by rw [← h5, Nat.pow_succ, ← hp]; omega
    have h7 := (Nat.pow_lt_pow_iff_right (by decide : 1 < 2)).1 h6
    rw [h5, hp]
    exact Nat.pow_le_pow_right (by decide) (by omega)
  · have h6 : 2 ^ f < 2 ^ (e + 1) := by rw [← h5, ← hp]; omega
    have h7 := (Nat.pow_lt_pow_iff_right (by decide : 1 < 2)).1 h6
    have h8 : 2 ^ f ≤ 2 ^ e := Nat.pow_le_pow_right (by decide) (by omega)
    omega
set_option maxHeartbeats 1000000 in
theorem rsplit_any (n : Nat) (h1 : 1 < n) (h2 : n ≤ 1000000) (w : World) :
    Calls Tryd.prog 73 #[.int .i64 n] w fun e w' => e = .returned (.int .i64 (halfN n)) ∧ w = w' := by
  have HT := Lib.hid (And.intro h1 h2)
  have hn : (n : Int) ≤ 1000000 := by omega
  clear h1 h2
  go_enter Tryd.func73, Tryd.ntmps73
  go_wp2_with fail
  go_loopw [3] (fun v3 wr => w = wr ∧ ∃ k e : Nat, v3 = .int .i64 (k : Nat) ∧ k = 2 ^ e ∧ k ≤ halfN n) (fun v3 _ => n - (intOf v3).toNat)
  case atStart => exact ⟨rfl, 1, 0, rfl, rfl, halfN_pos n⟩
  case round =>
    obtain ⟨rfl, k, e, rfl, hk, hle⟩ := hrel
    have hs := split_step HT.out.1 HT.out.2 hk hle
    have hlt := halfN_lt HT.out.1
    have hk0 : 0 < k := by rw [hk]; exact Nat.pow_pos (by decide)
    have HK := Lib.hid (And.intro hs (And.intro hk0 (And.intro hk (And.intro hle hlt))))
    have hkn : (k : Int) ≤ 1000000 := by have := HT.out; omega
    by_cases h : k < n - k
    · have hlt2 : (k : Int) < (n : Int) - (k : Int) := by omega
      have H := Lib.hid h
      clear hs hlt hk0 hk hle h
      go_wp2_with fail
      go_roundw
      case rel => exact ⟨trivial, 2 * k, e + 1, by go_num, (HK.out.1.1 H.out).1, (HK.out.1.1 H.out).2⟩
      case measure => have := HK.out; have := H.out; simp [intOf]; omega
    · have hlt2 : ¬ (k : Int) < (n : Int) - (k : Int) := by omega
      have he := hs.2 h
      clear hs hlt hk0 hk hle h
      have HE := Lib.hid he
      clear he
      go_wp2_with fail
      go_ret
      exact ⟨by rw [HE.out]; rfl, rfl⟩
def RRootCalls (n : Nat) : Prop := ∀ (A : Option Addr) (c : Nat) (l : List (List UInt8)) (cs : List Value) (w : World), l.length = n → n ≤ c → n ≤ 1000 → All32 l → Rd w A (cellsH l) → cs = (rootH l).map B →
    Calls Tryd.prog 46 #[.slice A n c] w fun e w' => e = .returned (.agg cs.toArray) ∧ Below w.heap.size w w'
set_option maxRecDepth 100000 in
set_option maxHeartbeats 2000000 in
theorem rroot_any : ∀ n, RRootCalls n := by
  intro n
  induction n using Nat.strongRecOn with
  | _ n ih =>
    intro A c l cs w hl hc hn h32 hr hcs
    have hcl : cs.length = 32 := by rw [hcs, List.length_map, rootH_length _ h32]
    have hc1 : ∀ u ∈ cs, u.oneCell' = true := by rw [hcs]; exact one_bytes
    have HT := Lib.hid (And.intro hl (And.intro hc (And.intro hn (And.intro h32 (And.intro hr hcs)))))
    have IH := Lib.hid ih
    have HLL := Lib.hid (show (some 32 : Option Nat) = some cs.length by rw [hcl])
    clear hl hc hn h32 hr hcs ih
    have hcase : (n = 0 ∨ n = 1) ∨ 1 < n := by omega
    rcases hcase with (rfl | rfl) | h1
    · have h0 := HT.out.1
      obtain rfl := List.eq_nil_of_length_eq_zero h0
      clear h0
      go_enter Tryd.func46, Tryd.ntmps46
      have hb0 : Below w.heap.size w (w.alloc (.cells (List.replicate 32 (B 0)).toArray 28)) := (Below.refl _ _).alloc (Nat.le_refl _) _
      have hz0 := Blk_new w (List.replicate 32 (B 0)) 28
      go_upto_region 1 with fail
      change Code.wp _ _ _ _ (w.alloc (.cells (List.replicate 32 (B 0)).toArray 28))
      generalize w.alloc (.cells (List.replicate 32 (B 0)).toArray 28) = w0 at *
      go_wp2_with fail
      refine (rsum_hv none 0 0 [] cs w0 rfl (by rw [HT.out.2.2.2.2.2]; unfold rootH; rw [rootG_one (by simp)]; rfl) (Rd.nil _ _) (by decide)).mono ?_
      rintro e w1 ⟨rfl, hb⟩
      have HB := Lib.hid (And.intro (below_then hb0 hb0.size hb) (hz0.below hb))
      clear hb hb0 hz0
      go_wp2_with (refine wpList_store_blk rfl 28 (.tmp 2) (.tmp 7) rfl w.heap.size cs rfl rfl 28 _ HB.out.2 (Eq.trans (by kernel_rfl) HLL.out) (by rw [hcl, List.length_replicate]) hc1 ?_; intro w5 hw5 hg5)
      refine bodyPost_ret (results_blk rfl _ _ w.heap.size 28 cs _ rfl hw5 Tryd.underlying28 rfl (Eq.trans (by kernel_rfl) HLL.out)) rfl ⟨rfl, ?_⟩
      exact HB.out.1.grown hg5 HB.out.1.size (fun k e => by injection e with e; omega)
    · obtain ⟨x, rfl⟩ : ∃ x, l = [x] := by
        match l, HT.out.1 with
        | [x], _ => exact ⟨x, rfl⟩
      obtain ⟨b, o, rfl⟩ := rdH_some HT.out.2.2.2.2.1 HT.out.2.2.2.1 (by simp)
      have hcx : cs = x.map B := by rw [HT.out.2.2.2.2.2]; unfold rootH; rw [rootG_one (by simp)]; rfl
      have hb0 : Below w.heap.size w (w.alloc (.cells (List.replicate 32 (B 0)).toArray 28)) := (Below.refl _ _).alloc (Nat.le_refl _) _
      have hz0 := Blk_new w (List.replicate 32 (B 0)) 28
      have hld := load_hash (P := Tryd.prog) Tryd.underlying28 rfl (by kernel_rfl) (k := 0) (x := x) (HT.out.2.2.2.2.1.below hb0) HT.out.2.2.2.1 rfl
      rw [← hcx, show o + 0 * 32 = o by omega] at hld
      go_enter Tryd.func46, Tryd.ntmps46
      go_upto_region 1 with fail
      change Code.wp _ _ _ _ (w.alloc (.cells (List.replicate 32 (B 0)).toArray 28))
      generalize w.alloc (.cells (List.replicate 32 (B 0)).toArray 28) = w0 at *
      have HB := Lib.hid (And.intro hb0 hz0)
      have HLD := Lib.hid hld
      clear hb0 hz0 hld hcx
      go_wp2_with (first
        | refine wpList_load rfl (.tmp 12) rfl _ _ rfl HLD.out ?_
        | (refine wpList_store_blk rfl 28 (.tmp 2) (.tmp 13) rfl w.heap.size cs rfl rfl 28 _ HB.out.2 (Eq.trans (by kernel_rfl) HLL.out) (by rw [hcl, List.length_replicate]) hc1 ?_; intro w5 hw5 hg5))
      refine bodyPost_ret (results_blk rfl _ _ w.heap.size 28 cs _ rfl hw5 Tryd.underlying28 rfl (Eq.trans (by kernel_rfl) HLL.out)) rfl ⟨rfl, ?_⟩
      exact HB.out.1.grown hg5 HB.out.1.size (fun k e => by injection e with e; omega)
    · have hn0 : ((n : Int) == 0) = false := by simp; omega
      have hn1 : ((n : Int) == 1) = false := by simp; omega
      have HN := Lib.hid h1
      clear h1
      go_enter Tryd.func46, Tryd.ntmps46
      have hb0 : Below w.heap.size w (w.alloc (.cells (List.replicate 32 (B 0)).toArray 28)) := (Below.refl _ _).alloc (Nat.le_refl _) _
      have hz0 := Blk_new w (List.replicate 32 (B 0)) 28
      go_upto_region 1 with fail
      change Code.wp _ _ _ _ (w.alloc (.cells (List.replicate 32 (B 0)).toArray 28))
      generalize w.alloc (.cells (List.replicate 32 (B 0)).toArray 28) = w0 at *
      go_wp2_with (go_at_call 73; refine (rsplit_any n HN.out (by have := HT.out.2.2.1; omega) _).mono ?_; rintro e w' ⟨rfl, rfl⟩)
      have hk1 := halfN_lt HN.out
      have hk0 := halfN_pos n
      generalize hk : halfN n = k at *
      have hct : ∀ wx, _ := fun wx => run_cut_to tHs A n c (k : Int) (by omega) (by have := HT.out; omega) wx
      have hcf : ∀ wx, _ := fun wx => run_cut_from tHs A n c (k : Int) (by omega) (by omega) wx
      simp only [Int.toNat_natCast] at hct hcf
      have H0 := Lib.hid (And.intro hb0.drew (And.intro hz0.drew (And.intro (show 0 < k ∧ k < n from ⟨hk0, hk1⟩) (show halfN l.length = k by rw [HT.out.1]; exact hk))))
      clear hb0 hz0 hk0 hk1 hk hn0 hn1
      obtain ⟨ca, hca⟩ : ∃ cs, cs = (rootH (l.take k)).map B := ⟨_, rfl⟩
      obtain ⟨cb, hcb⟩ : ∃ cs, cs = (rootH (l.drop k)).map B := ⟨_, rfl⟩
      have hi28 : (Tryd.prog.info? 28).map (·.size) = some cs.length := by rw [hcl]; kernel_rfl
      have HEQ := Lib.hid (And.intro hca (And.intro hcb (show cs = (nodeF (rootH (l.take k)) (rootH (l.drop k))).map B by
        have h1 : 1 < l.length := by rw [HT.out.1]; exact HN.out
        rw [HT.out.2.2.2.2.2]
        unfold rootH; rw [rootG_two h1, H0.out.2.2.2])))
      clear hca hcb
      go_region_held3 (fun w' => w'.there w.heap.size 0 32)
        (first | exact H0.out.2.1.there (by simp) | exact HX.out.2.there (by simp) | exact HY.out.2.there (by simp) | exact HZ.out.2.there (by simp) | exact World.there_setCells (HZ.out.2.there (by simp)) _ _ _)
        (first
          | (go_at_call 46; have HXX := HX.out; clear HXX; refine (IH.out (n - k) (by have := H0.out.2.2.1; omega) (cutA A c k 32) (c - k) (l.drop k) cb w1 (by have := HT.out.1; simp; omega) (by have := HT.out; omega) (by have := HT.out; omega) (HT.out.2.2.2.1.drop k) ((rdH_from c k HT.out.2.2.2.2.1 HT.out.2.2.2.1 (by have := HT.out.1; have := H0.out.2.2.1; omega) (by have := HT.out; omega)).below HX.out.1) HEQ.out.2.1).mono ?_
             rintro e w2 ⟨rfl, hb2⟩
             have HY := Lib.hid (And.intro (below_then HX.out.1 HX.out.1.size hb2) (HX.out.2.below hb2))
             clear hb2)
          | (go_at_call 46; refine (IH.out k H0.out.2.2.1.2 A c (l.take k) ca w0.drew (by have := HT.out.1; have := H0.out.2.2.1; simp; omega) (by have := HT.out; have := H0.out.2.2.1; omega) (by have := HT.out; have := H0.out.2.2.1; omega) (HT.out.2.2.2.1.take k) ((rdH_to k HT.out.2.2.2.2.1 HT.out.2.2.2.1).below H0.out.1) HEQ.out.1).mono ?_
             rintro e w1 ⟨rfl, hb1⟩
             have HX := Lib.hid (And.intro (below_then H0.out.1 H0.out.1.size hb1) (H0.out.2.1.below hb1))
             clear hb1)
          | (go_at_call 45; refine (rnode_any (rootH (l.take k)) (rootH (l.drop k)) ca cb cs HEQ.out.1 HEQ.out.2.1 HEQ.out.2.2 (rootH_length _ (HT.out.2.2.2.1.take k)) (rootH_length _ (HT.out.2.2.2.1.drop k)) w2).mono ?_
             rintro e w4 ⟨rfl, hb4⟩
             have HZ := Lib.hid (And.intro (below_then HY.out.1 HY.out.1.size hb4) (HY.out.2.below hb4))
             clear hb4))
      have hw5 := HZ.out.2.setCells0 (vs := cs) (by rw [hcl, List.length_replicate])
      have hb5 : Below w.heap.size w (w4.setCells w.heap.size 0 cs) := HZ.out.1.grown (grown_setCells _ _ _ _) HZ.out.1.size (fun k e => by injection e with e; omega)
      generalize w4.setCells w.heap.size 0 cs = w5 at *
      have H5 := Lib.hid (And.intro hw5 hb5)
      clear hw5 hb5
      go_wp2
      refine bodyPost_ret (results_blk rfl _ _ w.heap.size 28 cs _ rfl H5.out.1 Tryd.underlying28 rfl hi28) rfl ⟨rfl, H5.out.2⟩
end Go.Proofs.YtcgdojdiihdkeaaDoor
