/- ShaTrees: hashes, Leaf of the reference, and the walk. -/
import Derived.Test.YtcgdojdiihdkeaaDoorTrees1
namespace Go.Proofs.YtcgdojdiihdkeaaDoor
open Go Go.RowKit Go.Isth

set_option maxRecDepth 100000 in
set_option maxHeartbeats 1000000 in
theorem hashes_same (A1 A2 : Option Addr) (c1 c2 n : Nat) (L : List (List UInt8)) (w : World) (hn : L.length = n) (hl : n ≤ 1000) (h32 : All32 L) (h1 : Rd w A1 (cellsH L)) (h2 : Rd w A2 (cellsH L)) :
    Calls Tryd.prog 47 #[.slice A1 n c1, .slice A2 n c2] w fun e w' => e = .returned (.bool true) ∧ Below w.heap.size w w' := by
  have HT := Lib.hid (And.intro hn (And.intro h32 (And.intro h1 h2)))
  clear hn h32 h1 h2
  go_enter Tryd.func47, Tryd.ntmps47
  go_wp2_with fail
  go_loopw [5] (fun v5 wr => (∃ k : Nat, k ≤ n ∧ v5 = .int .i64 (k : Nat)) ∧ Below w.heap.size w wr) (fun v5 _ => n - (intOf v5).toNat)
  case atStart => exact ⟨⟨0, Nat.zero_le _, rfl⟩, Below.refl _ _⟩
  case round =>
    obtain ⟨⟨k, hk, rfl⟩, hB⟩ := hrel
    have HS := Lib.hid hB
    by_cases hlt : k < n
    · obtain ⟨b1, o1, rfl⟩ := rdH_some HT.out.2.2.1 HT.out.2.1 (by rw [HT.out.1]; omega)
      obtain ⟨b2, o2, rfl⟩ := rdH_some HT.out.2.2.2 HT.out.2.1 (by rw [HT.out.1]; omega)
      obtain ⟨x, hx⟩ : ∃ x, L[k]? = some x := ⟨_, List.getElem?_eq_getElem (by rw [HT.out.1]; exact hlt)⟩
      have hx32 : x.length = 32 := HT.out.2.1 x (List.mem_of_getElem? hx)
      obtain ⟨cs, hcs⟩ : ∃ cs, cs = x.map B := ⟨_, rfl⟩
      have hcl : cs.length = 32 := by rw [hcs, List.length_map]; exact hx32
      have hi28 : (Tryd.prog.info? 28).map (·.size) = some cs.length := by rw [hcl]; kernel_rfl
      have hu28 := Tryd.underlying28
      have hne : ∀ wx, (binOp .neq 28 (.agg cs.toArray) (.agg cs.toArray)).run Tryd.prog wx = .ok (.bool false) wx := by
        intro wx
        have h := run_neq_bytes aHash wx x x hx32 hx32
        rw [← hcs] at h
        simpa using h
      have HTS : Hid (∀ w', Below w.heap.size w w' → w'.rangeAt b1 (o1 + k * 32) cs ∧ w'.rangeAt b2 (o2 + k * 32) cs) := Lib.hid (fun w' hw' =>
        ⟨fun j u hj => by rw [hcs] at hj; exact rdH_cell (HT.out.2.2.1.below hw') HT.out.2.1 hx rfl j u hj,
         fun j u hj => by rw [hcs] at hj; exact rdH_cell (HT.out.2.2.2.below hw') HT.out.2.1 hx rfl j u hj⟩)
      have HK := Lib.hid hlt
      have hkI : (k : Int) < (n : Int) := by omega
      have hnI : (n : Int) ≤ 1000 := by omega
      have hk0 : (0 : Int) ≤ (k : Int) := by omega
      clear hB hx hx32 hcs hcl hk
      go_wp2_with fail
      refine wp_region_held_drew (S := (fun w' => w'.rangeAt b1 (o1 + k * 32) cs ∧ w'.rangeAt b2 (o2 + k * 32) cs)) (by kernel_rfl) ?qs0 (fun hHeld => ?_)
      case qs0 => exact HTS.out _ HS.out.drew
      refine held_take (i := 0) (v := ?qv0) rfl (by kernel_rfl) (by kernel_rfl) (by kernel_rfl) (fun _ _ _ h => h) (by rfl) ?qy0 hHeld ?_
      case qy0 => ((intro w _hSw; (try dsimp only at _hSw); go_simp); try (with_reducible rfl))
      try simp only [Act.put, List.setIfInBounds_toArray, List.set_cons_zero, List.set_cons_succ]
      refine held_take (i := 1) (v := ?qv1) rfl (by kernel_rfl) (by kernel_rfl) (by kernel_rfl) (fun _ _ _ h => h) (by rfl) ?qy1 hHeld ?_
      case qy1 => ((intro w _hSw; (try dsimp only at _hSw); go_simp); try (with_reducible rfl))
      try simp only [Act.put, List.setIfInBounds_toArray, List.set_cons_zero, List.set_cons_succ]
      refine held_take (i := 2) (v := ?qv2) rfl (by kernel_rfl) (by kernel_rfl) (by kernel_rfl) (fun _ _ _ h => h) (by rfl) ?qy2 hHeld ?_
      case qy2 => ((intro w _hSw; (try dsimp only at _hSw); go_simp); try (with_reducible rfl))
      try simp only [Act.put, List.setIfInBounds_toArray, List.set_cons_zero, List.set_cons_succ]
      refine held_take (i := 4) (v := ?qv4) rfl (by kernel_rfl) (by kernel_rfl) (by kernel_rfl) (fun _ _ _ h => h) (by rfl) ?qy4 hHeld ?_
      case qy4 => ((intro w _hSw; (try dsimp only at _hSw); go_simp); try (with_reducible rfl))
      try simp only [Act.put, List.setIfInBounds_toArray, List.set_cons_zero, List.set_cons_succ]
      refine held_take (i := 5) (v := ?qv5) rfl (by kernel_rfl) (by kernel_rfl) (by kernel_rfl) (fun _ _ _ h => h) (by rfl) ?qy5 hHeld ?_
      case qy5 => ((intro w _hSw; (try dsimp only at _hSw); go_simp); try (with_reducible rfl))
      try simp only [Act.put, List.setIfInBounds_toArray, List.set_cons_zero, List.set_cons_succ]
      refine held_take (i := 6) (v := ?qv6) rfl (by kernel_rfl) (by kernel_rfl) (by kernel_rfl) (fun _ _ _ h => h) (by rfl) ?qy6 hHeld ?_
      case qy6 => ((intro w _hSw; (try dsimp only at _hSw); go_simp); try (with_reducible rfl))
      try simp only [Act.put, List.setIfInBounds_toArray, List.set_cons_zero, List.set_cons_succ]
      refine held_row (i := 3) rfl (by kernel_rfl) (by kernel_rfl) (by kernel_rfl) _ _ rfl _ _ rfl ?qC3 ?qD3 (fun _ _ _ h => h) (by rfl) ?qa3 ?qb3 ?qc3 ?qd3 hHeld ?_
      case qa3 => (intro w hSw; (try dsimp only at hSw); go_split_ands; assumption)
      case qb3 => assumption
      case qc3 => rfl
      case qd3 => first | assumption | (simp only [*]; done)
      try simp only [Act.put, List.setIfInBounds_toArray, List.set_cons_zero, List.set_cons_succ]
      refine held_row (i := 7) rfl (by kernel_rfl) (by kernel_rfl) (by kernel_rfl) _ _ rfl _ _ rfl ?qC7 ?qD7 (fun _ _ _ h => h) (by rfl) ?qa7 ?qb7 ?qc7 ?qd7 hHeld ?_
      case qa7 => (intro w hSw; (try dsimp only at hSw); go_split_ands; assumption)
      case qb7 => assumption
      case qc7 => rfl
      case qd7 => first | assumption | (simp only [*]; done)
      try simp only [Act.put, List.setIfInBounds_toArray, List.set_cons_zero, List.set_cons_succ]
      refine held_take (i := 8) (v := ?qv8) rfl (by kernel_rfl) (by kernel_rfl) (by kernel_rfl) (fun _ _ _ h => h) (by rfl) ?qy8 hHeld ?_
      case qy8 => ((intro w _hSw; (try dsimp only at _hSw); go_simp); try (with_reducible rfl))
      try simp only [Act.put, List.setIfInBounds_toArray, List.set_cons_zero, List.set_cons_succ]
      refine wpAnyH_done (by kernel_rfl) ?_ _
      go_wp2_with fail
      go_roundw
      case rel => exact ⟨⟨k + 1, HK.out, by go_num⟩, HS.out.drew⟩
      case measure => have := HK.out; simp [intOf]; omega
    · clear hB
      go_wp2_with fail
      go_ret
      exact ⟨rfl, HS.out⟩
set_option maxRecDepth 100000 in
set_option maxHeartbeats 1000000 in
theorem rleaf1_any (A : Option Addr) (c m : Nat) (bs : List UInt8) (cv : List Value) (w : World) (hmm : bs.length = m) (hm : m ≤ 140737488351232) (hcv : cv = (leafF bs).map B) (hr : Rd w A (bs.map B)) :
    Calls Tryd.prog 41 #[.slice A m c] w fun e w' => e = .returned (.agg cv.toArray) ∧ Below w.heap.size w w' := by
  have HT := Lib.hid (And.intro hm (And.intro hr (And.intro hmm hcv)))
  have hcl : cv.length = 32 := by rw [hcv, List.length_map, leafF_length]
  have hc1 : ∀ u ∈ cv, u.oneCell' = true := by rw [hcv]; exact one_bytes
  clear hm hr hmm hcv
  go_enter Tryd.func41, Tryd.ntmps41
  have hb0 : Below w.heap.size w (w.alloc (.cells (List.replicate 32 (B 0)).toArray 28)) := (Below.refl _ _).alloc (Nat.le_refl _) _
  have hz0 := Blk_new w (List.replicate 32 (B 0)) 28
  go_upto_region 1 with fail
  change Code.wp _ _ _ _ (w.alloc (.cells (List.replicate 32 (B 0)).toArray 28))
  generalize w.alloc (.cells (List.replicate 32 (B 0)).toArray 28) = w0 at *
  have hb1 := hb0.alloc hb0.size (.cells #[B 0] 5)
  have hz1 := hz0.alloc (.cells #[B 0] 5)
  have ho1 := World.ownsRow_lit (base := w0.heap.size) (e := 5) (size := 1) w0 #[B 0] 1 (Nat.le_refl _) (by decide) rfl
  have H1 := Lib.hid (And.intro hb1 (And.intro hz1 ho1))
  have HZ := Lib.hid hz0.lt
  clear hb0 hz0 hb1 hz1 ho1
  have HL := Lib.hid (show (1 + m ≤ maxLen ∧ (1 + m) * 1 ≤ 140737488355328) by have := HT.out.1; unfold maxLen; omega)
  go_wp2_with (at_builtin; refine wpList_app tBs rfl _ _ rfl w0.heap.size _ 1 [B 0] rfl H1.out.2.2 A m c (bs.map B) rfl (HT.out.2.1.below H1.out.1) (by have := HT.out.2.2.1; simp; omega) one_bytes HL.out.1 HL.out.2 (by simp) ?_)
  intro v1 w1 ho1 hx1
  have ho1' : w1.ownsRow w0.heap.size 5 1 v1 (1 + m) ((0 :: bs).map B) := ho1
  obtain ⟨A1, c1, rfl, hfit, hrd, _, _⟩ := own_slice ho1'
  have hb2 : Below w.heap.size w w1 := H1.out.1.grown hx1.grown H1.out.1.size (fun k e => by simp [Value.ownBlock] at e; have := HZ.out; omega)
  have hz2 := H1.out.2.1.grown hx1.grown (by simp [Value.ownBlock]; have := HZ.out; omega)
  have H2 := Lib.hid (And.intro hb2 (And.intro hz2 (And.intro hfit hrd)))
  clear hb2 hz2 hfit hrd ho1 ho1' hx1
  go_wp2_with fail
  refine (rsum_hv A1 c1 (1 + m) (0 :: bs) cv w1 (by have := HT.out.2.2.1; simp; omega) HT.out.2.2.2 H2.out.2.2.2 (by have := HT.out.1; omega)).mono ?_
  rintro e w2 ⟨rfl, hb⟩
  have hz3 := H2.out.2.1.below hb
  have H3 := Lib.hid (below_then H2.out.1 H2.out.1.size hb)
  have HLL := Lib.hid (show (some 32 : Option Nat) = some cv.length by rw [hcl])
  clear hb
  go_wp2_with (refine wpList_store_blk rfl 28 (.tmp 2) (.tmp 6) rfl w.heap.size cv rfl rfl 28 _ hz3 (Eq.trans (by kernel_rfl) HLL.out) (by rw [hcl, List.length_replicate]) hc1 ?_; intro w5 hw5 hg5)
  refine bodyPost_ret (results_blk rfl _ _ w.heap.size 28 cv _ rfl hw5 Tryd.underlying28 rfl (Eq.trans (by kernel_rfl) HLL.out)) rfl ⟨rfl, ?_⟩
  exact H3.out.grown hg5 H3.out.size (fun k e => by injection e with e; omega)
theorem wleaf_to (A : Option Addr) (c m : Nat) (bs : List UInt8) (cv : List Value) (w w0 : World) (hmm : bs.length = m) (hm : m ≤ 140737488351232) (hcv : cv = (leafF bs).map B) (hr : Rd w A (bs.map B)) (hw : Below w0.heap.size w0 w) (ht : TabLaid w0) :
    Calls Tryd.prog 43 #[.slice A m c] w fun e w' => e = .returned (.agg cv.toArray) ∧ Below w.heap.size w w' := by
  subst hcv
  subst hmm
  exact leaf_any A c bs w (by omega) hr (ht.below hw ht.lt)
theorem wnode_to (csa csb cso : List Value) (a b : List UInt8) (w w0 : World) (hca : csa = a.map B) (hcb : csb = List.replicate 32 (B 0)) (hco : cso = (nodeF a b).map B) (ha : a.length = 32) (hb : b = Y32) (hw : Below w0.heap.size w0 w) (ht : TabLaid w0) :
    Calls Tryd.prog 44 #[.agg csa.toArray, .agg csb.toArray] w fun e w' => e = .returned (.agg cso.toArray) ∧ Below w.heap.size w w' := by
  subst hca
  subst hco
  have h := node_any a b ha (by rw [hb]; rfl) w (ht.below hw ht.lt)
  rw [show HV b = .agg csb.toArray by rw [hb, hcb]; rfl] at h
  exact h
theorem wroot_to (A : Option Addr) (c n : Nat) (l : List (List UInt8)) (cs : List Value) (w w0 : World) (hl : l.length = n) (hc : n ≤ c) (hn : n ≤ 1000) (h32 : All32 l) (hr : Rd w A (cellsH l)) (hcs : cs = (rootH l).map B) (hw : Below w0.heap.size w0 w) (ht : TabLaid w0) :
    Calls Tryd.prog 27 #[.slice A n c] w fun e w' => e = .returned (.agg cs.toArray) ∧ Below w.heap.size w w' := by
  subst hcs
  exact root_any n A c l w hl hc (by omega) h32 hr (ht.below hw ht.lt)
end Go.Proofs.YtcgdojdiihdkeaaDoor
