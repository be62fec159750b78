/- WotsSigns: Digest of both sides by their contracts. -/
import Derived.Test.YtcgdojdiihdkeaaDoorRef5E
import Derived.Test.YtcgdojdiihdkeaaDoorBack2
import Derived.Test.YtcgdojdiihdkeaaDoorNum5
namespace Go.Proofs.YtcgdojdiihdkeaaDoor
open Go Go.RowKit Go.Isth

theorem rsum_len (A : Option Addr) (c m : Nat) (bs : List UInt8) (w : World) (hm : m = bs.length) (hr : Rd w A (bs.map B)) (hl : m ≤ 140737488355200) :
    Calls Tryd.prog 30 #[.slice A m c] w fun e w' => ∃ cv : List Value, e = .returned (.agg cv.toArray) ∧ cv = (sumF bs).map B ∧ cv.length = 32 ∧ Below w.heap.size w w' := by
  subst hm
  refine (refsum_any A c bs w hl hr).mono ?_
  rintro e w' ⟨rfl, hb⟩
  exact ⟨_, rfl, rfl, by rw [List.length_map, sumF_length], hb⟩
theorem wdigest_no (A : Option Addr) (m c : Nat) (n : Int) (w : World) (h : n < 1 ∨ 32 < n) :
    Calls Tryd.prog 48 #[.slice A m c, .int .i64 n] w fun e w' => ∃ v, e = .returned (.tuple #[.slice none 0 0, v]) ∧ FaultIs w' v 1 ∧ Below w.heap.size w w' := by
  have HT := Lib.hid h
  clear h
  go_enter Tryd.func48, Tryd.ntmps48
  go_wp2_with (go_at_call 60; refine (digest_no n _ HT.out).mono ?_; rintro e w1 ⟨rfl, rfl⟩)
  refine (fault05_any _ _ _).mono ?_
  rintro e w1 ⟨v, rfl, hv, hb1⟩
  have H1 := Lib.hid (And.intro hv hb1)
  obtain ⟨b, rfl⟩ := hv.shape
  clear hv hb1
  go_wp2
  go_ret2
  exact ⟨_, rfl, H1.out.1, H1.out.2⟩
theorem rdigest_no (A : Option Addr) (m c : Nat) (n : Int) (w : World) (h : n < 1 ∨ 32 < n) :
    Calls Tryd.prog 49 #[.slice A m c, .int .i64 n] w fun e w' => e = .returned (.tuple #[.slice none 0 0, I 1]) ∧ w = w' := by
  have hc : decide (n < 1) = true ∨ (decide (n < 1) = false ∧ decide (32 < n) = true) := by
    simp only [decide_eq_true_eq, decide_eq_false_iff_not]; omega
  clear h
  rcases hc with h | ⟨h, h'⟩
  all_goals
    go_enter Tryd.func49, Tryd.ntmps49
    go_wp2
    go_ret2
    exact ⟨rfl, rfl⟩
set_option maxRecDepth 100000 in
set_option maxHeartbeats 1000000 in
theorem rdigest_yes (A : Option Addr) (m c n : Nat) (bs : List UInt8) (w : World) (hmm : m = bs.length) (hm : m ≤ 140737488351232) (h1 : 1 ≤ n) (h2 : n ≤ 32) (hr : Rd w A (bs.map B)) :
    Calls Tryd.prog 49 #[.slice A m c, .int .i64 n] w fun e w' => ∃ A' c', e = .returned (.tuple #[.slice A' n c', I 0]) ∧ Rd w' A' (((sumF (4 :: bs)).take n).map B) ∧ Below w.heap.size w w' := by
  have HT := Lib.hid (And.intro hmm (And.intro hm (And.intro h1 (And.intro h2 hr))))
  have hd1 : decide ((n : Int) < 1) = false := by simp; omega
  have hd2 : decide (32 < (n : Int)) = false := by simp; omega
  clear hmm hm h1 h2 hr
  go_enter Tryd.func49, Tryd.ntmps49
  go_upto_region 3 with fail
  have ho1 := World.ownsRow_lit (base := w.heap.size) (e := 5) (size := 1) w #[B 4] 1 (Nat.le_refl _) (by decide) rfl
  have hb1 := (Below.refl w.heap.size w).alloc (Nat.le_refl _) (.cells #[B 4] 5)
  have H1 := Lib.hid (And.intro ho1 hb1)
  have HL := Lib.hid (show (1 + m ≤ maxLen ∧ (1 + m) * 1 ≤ 140737488355328) by have := HT.out.2.1; unfold maxLen; omega)
  clear ho1 hb1
  go_wp2_with (at_builtin; refine wpList_app tBp rfl _ _ rfl w.heap.size _ 1 [B 4] rfl H1.out.1 A m c (bs.map B) rfl (HT.out.2.2.2.2.below H1.out.2) (by have := HT.out.1; simp; omega) one_bytes HL.out.1 HL.out.2 (by simp) ?_)
  intro v1 w1 ho1 hx1
  have ho1' : w1.ownsRow w.heap.size 5 1 v1 (1 + m) ((4 :: bs).map B) := ho1
  obtain ⟨A1, c1, rfl, hfit, hrd, _, _⟩ := own_slice ho1'
  have hb2 : Below w.heap.size w w1 := H1.out.2.grown hx1.grown H1.out.2.size (fun k e => (H1.out.1.lt k e).1)
  have H2 := Lib.hid (And.intro hb2 hrd)
  clear hb2 hfit hrd ho1 ho1' hx1
  go_wp2_with fail
  refine (rsum_len A1 c1 (1 + m) (4 :: bs) w1 (by have := HT.out.1; simp; omega) H2.out.2 (by have := HT.out.2.1; omega)).mono ?_
  rintro e w2 ⟨cv, rfl, hcv, hcl, hb⟩
  have H3 := Lib.hid (And.intro (below_then H2.out.1 H2.out.1.size hb) hcv)
  have HLL := Lib.hid (And.intro (show (some 32 : Option Nat) = some cv.length by rw [hcl]) hcl)
  have H1s := Lib.hid (show ∀ u ∈ cv, u.oneCell' = true by rw [hcv]; exact one_bytes)
  have hn1 : (1 : Int) ≤ n := by have := HT.out; omega
  have hn2 : (n : Int) ≤ 32 := by have := HT.out; omega
  clear hb hcv hcl
  go_wp2_with (refine wpList_store_blk rfl 28 (.tmp 6) (.tmp 16) rfl w2.heap.size cv rfl rfl 28 _ (heap_alloc_new w2 _) (Eq.trans (by kernel_rfl) HLL.out.1) (by rw [HLL.out.2]; rfl) H1s.out ?_; intro w4 hw4 hg4
               have hb4 : Below w2.heap.size w2 w4 := ((Below.refl w2.heap.size w2).alloc (Nat.le_refl _) _).grown hg4 (by simp) (fun r e => by injection e with e; omega)
               have H4 := Lib.hid (And.intro hw4 (below_then H3.out.1 H3.out.1.size hb4))
               clear hw4 hg4 hb4)
  go_ret2
  refine ⟨_, _, rfl, ?_, H4.out.2⟩
  rw [List.map_take, ← H3.out.2]
  exact Rd.front H4.out.1.rd0 _
set_option maxRecDepth 100000 in
set_option maxHeartbeats 1000000 in
theorem wdigest_yes (A : Option Addr) (m c n : Nat) (bs : List UInt8) (w : World) (hmm : m = bs.length) (hm : m ≤ 140737488351232) (h1 : 1 ≤ n) (h2 : n ≤ 32) (hr : Rd w A (bs.map B)) (ht : TabLaid w) :
    Calls Tryd.prog 48 #[.slice A m c, .int .i64 n] w fun e w' => ∃ A' c', e = .returned (.tuple #[.slice A' n c', .nilIface]) ∧ Rd w' A' (((sumF (4 :: bs)).take n).map B) ∧ Below w.heap.size w w' := by
  have HT := Lib.hid (And.intro hmm (And.intro hm (And.intro h1 (And.intro h2 (And.intro hr ht)))))
  clear hmm hm h1 h2 hr ht
  go_enter Tryd.func48, Tryd.ntmps48
  go_upto_region 3 with (go_at_call 60; refine (digest_yes n _ (by have := HT.out; omega) (by have := HT.out; omega)).mono ?_; rintro e w1 ⟨rfl, rfl⟩)
  have ho1 := World.ownsRow_lit (base := w.heap.size) (e := 5) (size := 1) w #[B 4] 1 (Nat.le_refl _) (by decide) rfl
  have hb1 := (Below.refl w.heap.size w).alloc (Nat.le_refl _) (.cells #[B 4] 5)
  have H1 := Lib.hid (And.intro ho1 hb1)
  have HL := Lib.hid (show (1 + m ≤ maxLen ∧ (1 + m) * 1 ≤ 140737488355328) by have := HT.out.2.1; unfold maxLen; omega)
  clear ho1 hb1
  go_wp2_with (at_builtin; refine wpList_app tBp rfl _ _ rfl w.heap.size _ 1 [B 4] rfl H1.out.1 A m c (bs.map B) rfl (HT.out.2.2.2.2.1.below H1.out.2) (by have := HT.out.1; simp; omega) one_bytes HL.out.1 HL.out.2 (by simp) ?_)
  intro v1 w1 ho1 hx1
  have ho1' : w1.ownsRow w.heap.size 5 1 v1 (1 + m) ((4 :: bs).map B) := ho1
  obtain ⟨A1, c1, rfl, hfit, hrd, _, _⟩ := own_slice ho1'
  have hb2 : Below w.heap.size w w1 := H1.out.2.grown hx1.grown H1.out.2.size (fun k e => (H1.out.1.lt k e).1)
  have H2 := Lib.hid (And.intro hb2 (And.intro hrd hfit))
  clear hb2 hfit hrd ho1 ho1' hx1
  go_wp2_with fail
  refine (sum_to A1 c1 (1 + m) (4 :: bs) w1 w (by have := HT.out.1; simp; omega) H2.out.1 H2.out.2.2 (by have := HT.out.2.1; omega) H2.out.2.1 HT.out.2.2.2.2.2).mono ?_
  rintro e w2 ⟨rfl, hb⟩
  obtain ⟨cv, hcv⟩ : ∃ cv, cv = (sumF (4 :: bs)).map B := ⟨_, rfl⟩
  rw [show HV (sumF (4 :: bs)) = .agg cv.toArray by rw [hcv]]
  have hcl : cv.length = 32 := by rw [hcv, List.length_map, sumF_length]
  have H3 := Lib.hid (And.intro (below_then H2.out.1 H2.out.1.size hb) hcv)
  have HLL := Lib.hid (And.intro (show (some 32 : Option Nat) = some cv.length by rw [hcl]) hcl)
  have H1s := Lib.hid (show ∀ u ∈ cv, u.oneCell' = true by rw [hcv]; exact one_bytes)
  have hn1 : (1 : Int) ≤ n := by have := HT.out; omega
  have hn2 : (n : Int) ≤ 32 := by have := HT.out; omega
  clear hb hcv hcl
  go_wp2_with (first
    | (refine wpList_store_blk rfl 28 (.tmp 6) (.tmp 14) rfl w2.heap.size cv rfl rfl 28 _ (heap_alloc_new w2 _) (Eq.trans (by kernel_rfl) HLL.out.1) (by rw [HLL.out.2]; rfl) H1s.out ?_; intro w4 hw4 hg4
       have hb4 : Below w2.heap.size w2 w4 := ((Below.refl w2.heap.size w2).alloc (Nat.le_refl _) _).grown hg4 (by simp) (fun r e => by injection e with e; omega)
       have H4 := Lib.hid (And.intro hw4 (below_then H3.out.1 H3.out.1.size hb4))
       clear hw4 hg4 hb4)
    | (at_builtin; refine wpList_app tBp rfl _ _ rfl w.heap.size (.slice none 0 0) 0 [] rfl (World.ownsRow_nil _ _ _ _) (some ⟨w2.heap.size, 0, none⟩) n 32 (cv.take n) rfl (Rd.front H4.out.1.rd0 _) (by rw [List.length_take, HLL.out.2]; have := HT.out; omega) (fun u hu => H1s.out u (List.mem_of_mem_take hu)) (by have := HT.out; unfold maxLen; omega) (by have := HT.out; omega) H4.out.2.size ?_))
  intro v5 w5 ho5 hx5
  obtain ⟨A5, c5, rfl, _, hr5, _⟩ := own_slice ho5
  have H5 := Lib.hid (And.intro hr5 (H4.out.2.grown hx5.grown H4.out.2.size (fun k e => by cases e)))
  clear ho5 hx5 hr5
  go_wp2_with fail
  go_ret2
  refine ⟨_, _, rfl, ?_, H5.out.2⟩
  rw [List.map_take, ← H3.out.2]
  exact H5.out.1
end Go.Proofs.YtcgdojdiihdkeaaDoor
