/- Layer 1: Leaf, Node by their contracts. -/
import Derived.Test.YtcgdojdiihdkeaaDoorText
import Derived.Test.YtcgdojdiihdkeaaDoorEqH
import Derived.Test.YtcgdojdiihdkeaaDoorTreeP
namespace Go.Proofs.YtcgdojdiihdkeaaDoor
open Go Go.RowKit Go.Isth

def leafF (b : List UInt8) : List UInt8 := sumF (0 :: b)
def nodeF (a b : List UInt8) : List UInt8 := sumF (1 :: (a ++ b))
theorem leafF_length (b : List UInt8) : (leafF b).length = 32 := sumF_length _
theorem nodeF_length (a b : List UInt8) : (nodeF a b).length = 32 := sumF_length _

theorem sum_to (A : Option Addr) (c m : Nat) (bs : List UInt8) (w w0 : World) (h0 : m = bs.length) (hw : Below w0.heap.size w0 w) (hc : m ≤ c) (hm : m ≤ 140737488355328) (hr : Rd w A (bs.map B)) (ht : TabLaid w0) :
    Calls Tryd.prog 17 #[.slice A m c] w fun e w' => e = .returned (HV (sumF bs)) ∧ Below w.heap.size w w' := by
  subst h0
  exact sum_any A c bs w hc hm hr (ht.below hw ht.lt)
set_option maxRecDepth 100000 in
set_option maxHeartbeats 2000000 in
theorem leaf_any (A : Option Addr) (c : Nat) (bs : List UInt8) (w : World) (hm : bs.length < 140737488355328) (hr : Rd w A (bs.map B)) (ht : TabLaid w) :
    Calls Tryd.prog 43 #[.slice A bs.length c] w fun e w' => e = .returned (HV (leafF bs)) ∧ Below w.heap.size w w' := by
  have HT := Lib.hid (And.intro hm (And.intro hr ht))
  clear hm hr ht
  go_enter Tryd.func43, Tryd.ntmps43
  go_upto_region 1 with fail
  have hb0 : Below w.heap.size w (w.alloc (.cells (List.replicate 32 (B 0)).toArray 28)) := (Below.refl _ _).alloc (Nat.le_refl _) _
  have hz0 := Blk_new w (List.replicate 32 (B 0)) 28
  change Code.wp _ _ _ _ (w.alloc (.cells (List.replicate 32 (B 0)).toArray 28))
  generalize w.alloc (.cells (List.replicate 32 (B 0)).toArray 28) = w0 at *
  have hb1 := hb0.alloc hb0.size (.cells #[B 0] 5)
  have hz1 := hz0.alloc (.cells #[B 0] 5)
  have ho1 := World.ownsRow_lit (base := w0.heap.size) (e := 5) (size := 1) w0 #[B 0] 1 (Nat.le_refl _) (by decide) rfl
  have H1 := Lib.hid (And.intro hb1 (And.intro hz1 ho1))
  have HZ := Lib.hid hz0.lt
  clear hb0 hz0 hb1 hz1 ho1
  have HL := Lib.hid (show (1 + bs.length ≤ maxLen ∧ (1 + bs.length) * 1 ≤ 140737488355328) by have := HT.out.1; unfold maxLen; omega)
  go_wp2_with (at_builtin; refine wpList_app tBs rfl _ _ rfl w0.heap.size _ 1 [B 0] rfl H1.out.2.2 A bs.length c (bs.map B) rfl (HT.out.2.1.below H1.out.1) (by simp) one_bytes HL.out.1 HL.out.2 (by simp) ?_)
  intro v1 w1 ho1 hx1
  have ho1' : w1.ownsRow w0.heap.size 5 1 v1 (1 + bs.length) ((0 :: bs).map B) := ho1
  obtain ⟨A1, c1, rfl, hfit, hrd, _, _⟩ := own_slice ho1'
  have hb2 : Below w.heap.size w w1 := H1.out.1.grown hx1.grown H1.out.1.size (fun k e => by simp [Value.ownBlock] at e; have := HZ.out; omega)
  have hz2 := H1.out.2.1.grown hx1.grown (by simp [Value.ownBlock]; have := HZ.out; omega)
  have H2 := Lib.hid (And.intro hb2 (And.intro hz2 (And.intro hfit hrd)))
  clear hb2 hz2 hfit hrd ho1 ho1' hx1
  go_wp2_with fail
  refine (sum_to A1 c1 (1 + bs.length) (0 :: bs) w1 w (by simp; omega) H2.out.1 H2.out.2.2.1 (by have := HT.out.1; omega) H2.out.2.2.2 HT.out.2.2).mono ?_
  rintro e w2 ⟨rfl, hb⟩
  have hz3 := H2.out.2.1.below hb
  have H3 := Lib.hid (below_then H2.out.1 H2.out.1.size hb)
  have HLL := Lib.hid (show (some 32 : Option Nat) = some ((sumF (0 :: bs)).map B).length by rw [List.length_map, sumF_length])
  clear hb
  go_wp2_with (refine wpList_store_blk rfl 28 (.tmp 2) (.tmp 6) rfl w.heap.size ((sumF (0 :: bs)).map B) rfl rfl 28 _ hz3 (Eq.trans (by kernel_rfl) HLL.out) (by rw [List.length_map, sumF_length, List.length_replicate]) one_bytes ?_; intro w5 hw5 hg5)
  refine bodyPost_ret (results_blk rfl _ _ w.heap.size 28 ((sumF (0 :: bs)).map B) _ rfl hw5 Tryd.underlying28 rfl (Eq.trans (by kernel_rfl) HLL.out)) rfl ⟨rfl, ?_⟩
  exact H3.out.grown hg5 H3.out.size (fun k e => by injection e with e; omega)
#print axioms leaf_any
set_option maxRecDepth 100000 in
set_option maxHeartbeats 2000000 in
theorem node_any (a b : List UInt8) (ha : a.length = 32) (hb : b.length = 32) (w : World) (ht : TabLaid w) :
    Calls Tryd.prog 44 #[HV a, HV b] w fun e w' => e = .returned (HV (nodeF a b)) ∧ Below w.heap.size w w' := by
  have HT := Lib.hid (And.intro ha (And.intro hb ht))
  clear ha hb ht
  go_enter Tryd.func44, Tryd.ntmps44
  go_wp2_with fail
  have hb0 : Below w.heap.size w (((w.alloc (.cells (a.map B).toArray 28)).alloc (.cells (b.map B).toArray 28)).alloc (.cells (List.replicate 32 (B 0)).toArray 28)) := (((Below.refl _ _).alloc (Nat.le_refl _) _).alloc (by simp) _).alloc (by simp; omega) _
  have hz1 : Blk (((w.alloc (.cells (a.map B).toArray 28)).alloc (.cells (b.map B).toArray 28)).alloc (.cells (List.replicate 32 (B 0)).toArray 28)) w.heap.size 28 (a.map B) := ((Blk_new w _ _).alloc _).alloc _
  have hz2 : Blk (((w.alloc (.cells (a.map B).toArray 28)).alloc (.cells (b.map B).toArray 28)).alloc (.cells (List.replicate 32 (B 0)).toArray 28)) (w.heap.size + 1) 28 (b.map B) := by
    have h := (Blk_new (w.alloc (.cells (a.map B).toArray 28)) (b.map B) 28).alloc (.cells (List.replicate 32 (B 0)).toArray 28)
    rwa [World.size_alloc] at h
  have hz3 : Blk (((w.alloc (.cells (a.map B).toArray 28)).alloc (.cells (b.map B).toArray 28)).alloc (.cells (List.replicate 32 (B 0)).toArray 28)) (w.heap.size + 1 + 1) 28 (List.replicate 32 (B 0)) := by
    have h := Blk_new ((w.alloc (.cells (a.map B).toArray 28)).alloc (.cells (b.map B).toArray 28)) (List.replicate 32 (B 0)) 28
    rwa [World.size_alloc, World.size_alloc] at h
  change Code.wp _ _ _ _ (((w.alloc (.cells (a.map B).toArray 28)).alloc (.cells (b.map B).toArray 28)).alloc (.cells (List.replicate 32 (B 0)).toArray 28))
  generalize (((w.alloc (.cells (a.map B).toArray 28)).alloc (.cells (b.map B).toArray 28)).alloc (.cells (List.replicate 32 (B 0)).toArray 28)) = w3 at *
  have H3 := Lib.hid (And.intro hb0 (And.intro hz1 (And.intro hz2 (And.intro hz3 hz3.lt))))
  clear hb0 hz1 hz2 hz3
  have H4 := Lib.hid (And.intro (H3.out.1.alloc H3.out.1.size (.cells #[B 1] 5)) (And.intro (World.ownsRow_lit (base := w3.heap.size) (e := 5) (size := 1) w3 #[B 1] 1 (Nat.le_refl _) (by decide) rfl) (And.intro (H3.out.2.1.alloc (.cells #[B 1] 5)) (And.intro (H3.out.2.2.1.alloc (.cells #[B 1] 5)) (And.intro (H3.out.2.2.2.1.alloc (.cells #[B 1] 5)) (show w3.heap.size ≤ (w3.alloc (.cells #[B 1] 5)).drew.heap.size by simp))))))
  have HLD := Lib.hid (show (1 + 32 ≤ maxLen ∧ (1 + 32) * 1 ≤ 140737488355328 ∧ (a.map B).length = 32 * 1 ∧ (b.map B).length = 32 * 1 ∧ 1 + 32 + 32 ≤ maxLen ∧ (1 + 32 + 32) * 1 ≤ 140737488355328) from ⟨by unfold maxLen; omega, by omega, by rw [List.length_map]; exact HT.out.1, by rw [List.length_map]; exact HT.out.2.1, by unfold maxLen; omega, by omega⟩)
  obtain ⟨cs, hcs⟩ : ∃ cs, cs = (nodeF a b).map B := ⟨_, rfl⟩
  have hcl : cs.length = 32 := by rw [hcs, List.length_map, nodeF_length]
  have hc1 : ∀ u ∈ cs, u.oneCell' = true := by rw [hcs]; exact one_bytes
  have hi28 : (Tryd.prog.info? 28).map (·.size) = some cs.length := by rw [hcl]; kernel_rfl
  have HCS := Lib.hid hcs
  clear hcs
  go_region_held3 (fun w' => w'.there (w.heap.size + 1 + 1) 0 32)
    (first | exact H3.out.2.2.2.1.there (by simp) | exact H4.out.2.2.2.2.1.drew.there (by simp) | exact HX.out.2.2.2.1.there (by simp) | exact HY.out.2.1.there (by simp) | exact HZ.out.2.there (by simp) | exact World.there_setCells (HZ.out.2.there (by simp)) _ _ _)
    (first
      | (refine step_app0 tBs rfl (.tmp 5) (.tmp 6) rfl w3.heap.size (.slice (some ⟨w3.heap.size, 0, none⟩) 1 1) 1 [B 1] rfl H4.out.2.1.drew (some ⟨w.heap.size, 0, none⟩) 32 32 (a.map B) rfl H4.out.2.2.1.drew.rd0 HLD.out.2.2.1 one_bytes HLD.out.1 HLD.out.2.1 H4.out.2.2.2.2.2 ?_
         intro v1 w1 ho1 hx1
         have hne1 : some (w.heap.size + 1) ≠ some w3.heap.size ∧ some (w.heap.size + 1 + 1) ≠ some w3.heap.size := by have := H3.out.2.2.2.2; simp; omega
         have HX := Lib.hid (And.intro (show Below w.heap.size w w1 from H4.out.1.drew.grown hx1.grown H4.out.1.size (fun k e => by simp [Value.ownBlock] at e; have := H3.out.2.2.2.2; omega)) (And.intro ho1 (And.intro (H4.out.2.2.2.1.drew.grown hx1.grown (fun e => hne1.1 e.symm)) (And.intro (H4.out.2.2.2.2.1.drew.grown hx1.grown (fun e => hne1.2 e.symm)) (Nat.le_trans H4.out.2.2.2.2.2 hx1.grown.size)))))
         obtain ⟨A1, c1, rfl, _⟩ := own_slice ho1
         clear ho1 hx1 hne1)
      | (refine step_app0 tBs rfl (.tmp 7) (.tmp 8) rfl w3.heap.size (.slice A1 (1 + 32) c1) (1 + 32) ([B 1] ++ a.map B) rfl HX.out.2.1 (some ⟨w.heap.size + 1, 0, none⟩) 32 32 (b.map B) rfl HX.out.2.2.1.rd0 HLD.out.2.2.2.1 one_bytes HLD.out.2.2.2.2.1 HLD.out.2.2.2.2.2 HX.out.2.2.2.2 ?_
         intro v2 w2 ho2 hx2
         obtain ⟨A2, c2, rfl, hfit, hrd, _, hat⟩ := own_slice ho2
         have hlow : ∀ k, (Value.slice A1 (1 + 32) c1).ownBlock = some k → w3.heap.size ≤ k := fun k e => (HX.out.2.1.lt k e).1
         have hne2 : some (w.heap.size + 1 + 1) ≠ (Value.slice A1 (1 + 32) c1).ownBlock := fun e => by have := hlow _ e.symm; have := H3.out.2.2.2.2; omega
         have HY := Lib.hid (And.intro (HX.out.1.grown hx2.grown HX.out.1.size (fun k e => by have := hlow k e; have := H3.out.1.size; omega)) (And.intro (HX.out.2.2.2.1.grown hx2.grown (fun e => hne2 e.symm)) (And.intro hfit hrd)))
         clear ho2 hx2 hlow hne2 hfit hrd hat)
      | (go_at_call 17; refine (sum_to A2 c2 (1 + 32 + 32) (1 :: (a ++ b)) w2 w (by have := HT.out; simp; omega) HY.out.1 HY.out.2.2.1 (by decide) (by have h := HY.out.2.2.2; simpa using h) HT.out.2.2).mono ?_
         rintro e w4 ⟨rfl, hb4⟩
         have HZ := Lib.hid (And.intro (below_then HY.out.1 HY.out.1.size hb4) (HY.out.2.1.below hb4))
         rw [show HV (sumF (1 :: (a ++ b))) = Value.agg cs.toArray by rw [HCS.out]; rfl]
         clear hb4))
  have hw5 := HZ.out.2.setCells0 (vs := cs) (by rw [hcl, List.length_replicate])
  have hb5 : Below w.heap.size w (w4.setCells (w.heap.size + 1 + 1) 0 cs) := HZ.out.1.grown (grown_setCells _ _ _ _) HZ.out.1.size (fun k e => by injection e with e; omega)
  generalize w4.setCells (w.heap.size + 1 + 1) 0 cs = w5 at *
  have H5 := Lib.hid (And.intro hw5 hb5)
  clear hw5 hb5
  go_wp2
  refine bodyPost_ret (results_blk rfl _ _ (w.heap.size + 1 + 1) 28 cs _ rfl H5.out.1 Tryd.underlying28 rfl hi28) rfl ⟨?_, H5.out.2⟩
  rw [HCS.out]
#print axioms node_any
end Go.Proofs.YtcgdojdiihdkeaaDoor
