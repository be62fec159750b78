/- Layer 1's reference: Path, Steps, fold, Fold by their contracts; sha.Path's and sha.Fold's errors. -/
import Derived.Test.YtcgdojdiihdkeaaDoorRTree
import Derived.Test.YtcgdojdiihdkeaaDoorFold
import Derived.Test.YtcgdojdiihdkeaaDoorParse
namespace Go.Proofs.YtcgdojdiihdkeaaDoor
open Go Go.RowKit Go.Isth

theorem rpath_no (A : Option Addr) (c n : Nat) (i : Int) (w : World) (h : i < 0 ∨ (n : Int) ≤ i) :
    Calls Tryd.prog 40 #[.slice A n c, .int .i64 i] w fun e w' => e = .returned (.tuple #[.slice none 0 0, .int .i64 1]) ∧ w = w' := by
  have hc : i < 0 ∨ (¬ i < 0 ∧ (n : Int) ≤ i) := by omega
  clear h
  rcases hc with h | ⟨h, h'⟩
  all_goals
    go_enter Tryd.func40, Tryd.ntmps40
    go_wp2
    go_ret2
    exact ⟨rfl, rfl⟩
theorem wpath_no (A : Option Addr) (c n : Nat) (i : Int) (w : World) (h : i < 0 ∨ (n : Int) ≤ i) :
    Calls Tryd.prog 28 #[.slice A n c, .int .i64 i] w fun e w' => ∃ v, e = .returned (.tuple #[.slice none 0 0, v]) ∧ FaultIs w' v 1 ∧ Below w.heap.size w w' := by
  have hc : i < 0 ∨ (¬ i < 0 ∧ (n : Int) ≤ i) := by omega
  clear h
  rcases hc with h | ⟨h, h'⟩
  all_goals
    go_enter Tryd.func28, Tryd.ntmps28
    go_wp2
    go_ret2
    exact ⟨_, rfl, FaultIs.new w _ 1, (Below.refl _ _).alloc (Nat.le_refl _) _⟩
def RPathCalls (n : Nat) : Prop := ∀ (A : Option Addr) (c : Nat) (l : List (List UInt8)) (i : Nat) (w : World), l.length = n → n ≤ c → n ≤ 1000 → i < n → All32 l → Rd w A (cellsH l) →
    Calls Tryd.prog 40 #[.slice A n c, .int .i64 i] w fun e w' => ∃ v, e = .returned (.tuple #[v, .int .i64 0]) ∧ w'.ownsRow w.heap.size 28 32 v (pathH l i).length (cellsH (pathH l i)) ∧ Below w.heap.size w w'
set_option maxRecDepth 100000 in
set_option maxHeartbeats 2000000 in
theorem rpath_any : ∀ n, RPathCalls n := by
  intro n
  induction n using Nat.strongRecOn with
  | _ n ih =>
    intro A c l i w hl hc hn hi h32 hr
    have HT := Lib.hid (And.intro hl (And.intro hc (And.intro hn (And.intro hi (And.intro h32 hr)))))
    have IH := Lib.hid ih
    clear hl hc hn hi h32 hr ih
    have hi0 : ¬ (i : Int) < 0 := by omega
    have hin : ¬ (n : Int) ≤ (i : Int) := by have := HT.out; omega
    have hcase : n = 1 ∨ 1 < n := by have := HT.out; omega
    rcases hcase with rfl | h1
    · go_enter Tryd.func40, Tryd.ntmps40
      go_wp2
      go_ret2
      refine ⟨_, rfl, ?_, Below.refl _ _⟩
      have e : pathH l i = [] := by unfold pathH; exact pathG_one (by have := HT.out.1; omega)
      rw [e]
      exact World.ownsRow_nil _ _ _ _
    · have hn1 : ((n : Int) == 1) = false := by simp; omega
      have HN := Lib.hid h1
      clear h1
      have hk1 := halfN_lt HN.out
      have hk0 := halfN_pos n
      obtain ⟨k, hk⟩ : ∃ k, halfN n = k := ⟨_, rfl⟩
      rw [hk] at hk1 hk0
      have hct : ∀ wx, _ := fun wx => run_cut_to tHs A n c (k : Int) (by omega) (by have := HT.out; omega) wx
      have hcf : ∀ wx, _ := fun wx => run_cut_from tHs A n c (k : Int) (by omega) (by omega) wx
      simp only [Int.toNat_natCast] at hct hcf
      have H0 := Lib.hid (And.intro (show 0 < k ∧ k < n from ⟨hk0, hk1⟩) (And.intro (show halfN l.length = k by rw [HT.out.1]; exact hk) hk))
      clear hk0 hk1 hk
      rcases Nat.lt_or_ge i k with hik | hik0
      · have hx : (i : Int) < (k : Int) := by omega
        have HK := Lib.hid hik
        go_enter Tryd.func40, Tryd.ntmps40
        go_wp2_with (go_at_call 73; refine (rsplit_any n HN.out (by have := HT.out; omega) _).mono ?_; rintro e w' ⟨rfl, rfl⟩; rw [H0.out.2.2])
        refine (IH.out k (by have := H0.out.1; omega) A c (l.take k) i w (by have := HT.out.1; have := H0.out.1; simp; try omega) (by have := HT.out; have := H0.out.1; omega) (by have := HT.out; have := H0.out.1; omega) (by have := HT.out; have := HK.out; omega) (HT.out.2.2.2.2.1.take k) (rdH_to k HT.out.2.2.2.2.2 HT.out.2.2.2.2.1)).mono ?_
        rintro e w1 ⟨v1, rfl, ho1, hb1⟩
        obtain ⟨A1, c1, rfl, _⟩ := own_slice ho1
        have H1 := Lib.hid (And.intro ho1 hb1)
        obtain ⟨cs, hcs⟩ : ∃ cs, cs = (rootH (l.drop k)).map B := ⟨_, rfl⟩
        have hcl : cs.length = 32 := by rw [hcs, List.length_map, rootH_length _ (HT.out.2.2.2.2.1.drop k)]
        have hc1 : ∀ u ∈ cs, u.oneCell' = true := by rw [hcs]; exact one_bytes
        have HC := Lib.hid (And.intro hcs (And.intro hcl hc1))
        clear ho1 hb1 hcs hcl hc1
        go_wp2_with fail
        refine (rroot_any (n - k) (cutA A c k 32) (c - k) (l.drop k) cs w1 (by have := HT.out.1; have := H0.out.1; simp; try omega) (by have := HT.out; have := H0.out.1; omega) (by have := HT.out; omega) (HT.out.2.2.2.2.1.drop k) ((rdH_from c k HT.out.2.2.2.2.2 HT.out.2.2.2.2.1 (by have := HT.out.1; have := H0.out.1; omega) (by have := HT.out; omega)).below H1.out.2) HC.out.1).mono ?_
        rintro e w2 ⟨rfl, hb2⟩
        have ho2 := own_block H1.out.1 (fun q e => hb2.block q (H1.out.1.lt q e).2)
        have H2 := Lib.hid (And.intro ho2 (below_then H1.out.2 H1.out.2.size hb2))
        clear ho2 hb2
        have HM := Lib.hid (show (pathH (l.take k) i).length + 1 ≤ maxLen ∧ ((pathH (l.take k) i).length + 1) * 32 ≤ 140737488355328 by
          have h1 := pathH_le _ (l.take k) i rfl
          have h2 : (l.take k).length ≤ n := by have := HT.out.1; simp; omega
          have := HT.out; unfold maxLen; omega)
        have hc32 := HC.out.2.1
        go_wp2_with (at_builtin; refine wpList_app tHs rfl _ _ rfl w.heap.size _ _ (cellsH (pathH (l.take k) i)) rfl (H2.out.1.alloc _) (some ⟨w2.heap.size, 0, none⟩) 1 1 cs rfl ?rd HC.out.2.1 HC.out.2.2 HM.out.1 HM.out.2 ?bz ?_)
        case rd => rw [fold_set cs HC.out.2.1]; exact (Blk_new w2 cs 28).rd0
        case bz => have := H2.out.2.size; simp; omega
        intro v3 w3 ho3 hx3
        have hb3 := (H2.out.2.alloc H2.out.2.size _).grown hx3.grown (by have := H2.out.2.size; rw [World.size_alloc]; omega) (fun q e => (H2.out.1.lt q e).1)
        have e : pathH l i = (pathH (l.take k) i) ++ [rootH (l.drop k)] := by unfold pathH rootH; rw [pathG_left (by rw [HT.out.1]; exact HN.out) (by rw [H0.out.2.1]; exact HK.out), H0.out.2.1]
        have ec : cellsH (pathH l i) = cellsH (pathH (l.take k) i) ++ cs := by rw [e, cellsH_append, HC.out.1]; simp [cellsH]
        have H3 := Lib.hid (And.intro ho3 (And.intro hb3 (And.intro e ec)))
        clear ho3 hx3 hb3 e ec hc32
        obtain ⟨A3, c3, rfl, _⟩ := own_slice H3.out.1
        go_wp2
        go_ret2
        refine ⟨_, rfl, ?_, H3.out.2.1⟩
        rw [H3.out.2.2.2, H3.out.2.2.1, List.length_append]
        exact H3.out.1
      · have hx : ¬ (i : Int) < (k : Int) := by omega
        have hik : ¬ i < k := by omega
        have hw64 : wrap64 ((i - k : Nat) : Int) = ((i - k : Nat) : Int) := IntWalk.wrap64_in _ ⟨by omega, by have := HT.out; omega⟩
        have hsub2 : (i : Int) - (k : Int) = ((i - k : Nat) : Int) := by omega
        clear hik0
        have HK := Lib.hid hik
        go_enter Tryd.func40, Tryd.ntmps40
        go_wp2_with (go_at_call 73; refine (rsplit_any n HN.out (by have := HT.out; omega) _).mono ?_; rintro e w' ⟨rfl, rfl⟩; rw [H0.out.2.2])
        refine (IH.out (n - k) (by have := H0.out.1; omega) (cutA A c k 32) (c - k) (l.drop k) (i - k) w (by have := HT.out.1; have := H0.out.1; simp; try omega) (by have := HT.out; have := H0.out.1; omega) (by have := HT.out; have := H0.out.1; omega) (by have := HT.out; have := HK.out; omega) (HT.out.2.2.2.2.1.drop k) (rdH_from c k HT.out.2.2.2.2.2 HT.out.2.2.2.2.1 (by have := HT.out.1; have := H0.out.1; omega) (by have := HT.out; omega))).mono ?_
        rintro e w1 ⟨v1, rfl, ho1, hb1⟩
        obtain ⟨A1, c1, rfl, _⟩ := own_slice ho1
        have H1 := Lib.hid (And.intro ho1 hb1)
        obtain ⟨cs, hcs⟩ : ∃ cs, cs = (rootH (l.take k)).map B := ⟨_, rfl⟩
        have hcl : cs.length = 32 := by rw [hcs, List.length_map, rootH_length _ (HT.out.2.2.2.2.1.take k)]
        have hc1 : ∀ u ∈ cs, u.oneCell' = true := by rw [hcs]; exact one_bytes
        have HC := Lib.hid (And.intro hcs (And.intro hcl hc1))
        clear ho1 hb1 hcs hcl hc1
        go_wp2_with fail
        refine (rroot_any k A c (l.take k) cs w1 (by have := HT.out.1; have := H0.out.1; simp; try omega) (by have := HT.out; have := H0.out.1; omega) (by have := HT.out; omega) (HT.out.2.2.2.2.1.take k) ((rdH_to k HT.out.2.2.2.2.2 HT.out.2.2.2.2.1).below H1.out.2) HC.out.1).mono ?_
        rintro e w2 ⟨rfl, hb2⟩
        have ho2 := own_block H1.out.1 (fun q e => hb2.block q (H1.out.1.lt q e).2)
        have H2 := Lib.hid (And.intro ho2 (below_then H1.out.2 H1.out.2.size hb2))
        clear ho2 hb2
        have HM := Lib.hid (show (pathH (l.drop k) (i - k)).length + 1 ≤ maxLen ∧ ((pathH (l.drop k) (i - k)).length + 1) * 32 ≤ 140737488355328 by
          have h1 := pathH_le _ (l.drop k) (i - k) rfl
          have h2 : (l.drop k).length ≤ n := by have := HT.out.1; simp; omega
          have := HT.out; unfold maxLen; omega)
        have hc32 := HC.out.2.1
        go_wp2_with (at_builtin; refine wpList_app tHs rfl _ _ rfl w.heap.size _ _ (cellsH (pathH (l.drop k) (i - k))) rfl (H2.out.1.alloc _) (some ⟨w2.heap.size, 0, none⟩) 1 1 cs rfl ?rd HC.out.2.1 HC.out.2.2 HM.out.1 HM.out.2 ?bz ?_)
        case rd => rw [fold_set cs HC.out.2.1]; exact (Blk_new w2 cs 28).rd0
        case bz => have := H2.out.2.size; simp; omega
        intro v3 w3 ho3 hx3
        have hb3 := (H2.out.2.alloc H2.out.2.size _).grown hx3.grown (by have := H2.out.2.size; rw [World.size_alloc]; omega) (fun q e => (H2.out.1.lt q e).1)
        have e : pathH l i = (pathH (l.drop k) (i - k)) ++ [rootH (l.take k)] := by unfold pathH rootH; rw [pathG_right (by rw [HT.out.1]; exact HN.out) (by rw [H0.out.2.1]; exact HK.out), H0.out.2.1]
        have ec : cellsH (pathH l i) = cellsH (pathH (l.drop k) (i - k)) ++ cs := by rw [e, cellsH_append, HC.out.1]; simp [cellsH]
        have H3 := Lib.hid (And.intro ho3 (And.intro hb3 (And.intro e ec)))
        clear ho3 hx3 hb3 e ec hc32
        obtain ⟨A3, c3, rfl, _⟩ := own_slice H3.out.1
        go_wp2
        go_ret2
        refine ⟨_, rfl, ?_, H3.out.2.1⟩
        rw [H3.out.2.2.2, H3.out.2.2.1, List.length_append]
        exact H3.out.1
end Go.Proofs.YtcgdojdiihdkeaaDoor
