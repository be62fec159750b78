/- Law 7: pairs by its contract, where both rows hold the same pairs. -/
import Derived.Test.YtdekealpachhmaaDoorRvG
namespace Go.Proofs.YtdekealpachhmaaDoor
open Go Go.RowKit Go.Isth

def SamePInv (w : World) (n : Nat) (i : Value) (wr : World) : Prop := ∃ k : Nat, i = .int .i64 (k : Nat) ∧ k ≤ n ∧ Below w.heap.size w wr
set_option maxRecDepth 100000 in
set_option maxHeartbeats 1000000 in
theorem pairs_same (A A' : Option Addr) (c c' n : Nat) (l : List (Str × Str)) (w : World) (hn : n = l.length) (hm : n ≤ 900000) (hr : Rd w A (pairsC l)) (hr' : Rd w A' (pairsC l)) :
    Calls Tryd.prog 32 #[.slice A n c, .slice A' n c'] w fun e w' => e = .returned (.bool true) ∧ Below w.heap.size w w' := by
  have HT := Lib.hid (And.intro hn (And.intro hm (And.intro hr hr')))
  clear hn hm hr hr'
  go_enter Tryd.func32, Tryd.ntmps32
  go_wp2_with fail
  go_loopw [5] (fun i wr => SamePInv w n i wr) (fun i _ => n - (intOf i).toNat)
  case atStart => exact ⟨0, rfl, Nat.zero_le _, Below.refl _ _⟩
  case round =>
    obtain ⟨k, rfl, hk, hb⟩ := hrel
    have HB := Lib.hid hb
    rcases Nat.lt_or_ge k n with hkn | hkn
    · obtain ⟨p, hp⟩ : ∃ p, l[k]? = some p := ⟨_, List.getElem?_eq_getElem (by rw [← HT.out.1]; exact hkn)⟩
      have hl0 : 0 < (pairsC l).length := by rw [pairsC_len]; have := HT.out.1; omega
      obtain ⟨b, o, rfl, hcl⟩ := HT.out.2.2.1 hl0
      obtain ⟨b', o', rfl, hcl'⟩ := HT.out.2.2.2 hl0
      have e1 := cell_below (hcl _ _ (pairsC_cells _ _ _ hp).1) hb
      have e2 := cell_below (hcl _ _ (pairsC_cells _ _ _ hp).2) hb
      have e3 := cell_below (hcl' _ _ (pairsC_cells _ _ _ hp).1) hb
      have e4 := cell_below (hcl' _ _ (pairsC_cells _ _ _ hp).2) hb
      rw [← Nat.add_assoc] at e2 e4
      have hk1 : (k : Int) < (n : Int) := by omega
      have hm9 := HT.out.2.1
      clear hp hcl hcl' hl0 hb
      go_upto_region 6 with fail
      go_quiet (fail)
      go_wp2
      refine ⟨⟨k + 1, by simp, by omega, below_drewN HB.out _⟩, ?_⟩
      show n - Int.toNat ((k : Int) + 1) < n - Int.toNat (k : Int)
      omega
    · have hk1 : ¬ (k : Int) < (n : Int) := by omega
      clear hb
      go_wp2
      go_ret
      exact ⟨rfl, HB.out⟩
end Go.Proofs.YtdekealpachhmaaDoor
