/- Layer 5's reference: check, Digits by their contracts. -/
import Derived.Test.YtcgdojdiihdkeaaDoorWots7
import Derived.Test.YtcgdojdiihdkeaaDoorPackE
namespace Go.Proofs.YtcgdojdiihdkeaaDoor
open Go Go.RowKit Go.Isth

theorem rcheck_yes (leaf n : Int) (w : World) (h0 : 0 ≤ leaf) (h3 : leaf < 1024) (h1 : 1 ≤ n) (h2 : n ≤ 32) : Calls Tryd.prog 70 #[.int .i64 leaf, .int .i64 n] w fun e w' => e = .returned (.bool true) ∧ w = w' := by
  go_enter Tryd.func70, Tryd.ntmps70
  go_wp2
  go_ret
  exact ⟨rfl, rfl⟩
theorem rcheck_no (leaf n : Int) (w : World) (h : Bad05 leaf n) : Calls Tryd.prog 70 #[.int .i64 leaf, .int .i64 n] w fun e w' => e = .returned (.bool false) ∧ w = w' := by
  have hc : decide (0 ≤ leaf) = false ∨ (decide (0 ≤ leaf) = true ∧ decide (leaf < 1024) = false) ∨ (decide (0 ≤ leaf) = true ∧ decide (leaf < 1024) = true ∧ decide (1 ≤ n) = false) ∨ (decide (0 ≤ leaf) = true ∧ decide (leaf < 1024) = true ∧ decide (1 ≤ n) = true ∧ decide (n ≤ 32) = false) := by
    unfold Bad05 at h
    simp only [decide_eq_true_eq, decide_eq_false_iff_not]
    omega
  clear h
  rcases hc with h | ⟨h, h'⟩ | ⟨h, h', h''⟩ | ⟨h, h', h'', h'''⟩
  all_goals
    go_enter Tryd.func70, Tryd.ntmps70
    go_wp2
    go_ret
    exact ⟨rfl, rfl⟩
theorem rdigits_none (A : Option Addr) (c n : Nat) (w : World) (h : n < 1 ∨ 32 < n) : Calls Tryd.prog 53 #[.slice A n c] w fun e w' => e = .returned (.slice none 0 0) ∧ w = w' := by
  have hc : decide ((n : Int) < 1) = true ∨ (decide ((n : Int) < 1) = false ∧ decide (32 < (n : Int)) = true) := by
    simp only [decide_eq_true_eq, decide_eq_false_iff_not]; omega
  clear h
  rcases hc with h | ⟨h, h'⟩
  all_goals
    go_enter Tryd.func53, Tryd.ntmps53
    go_wp2
    go_ret
    exact ⟨rfl, rfl⟩
def RDigInv (w : World) (d : List UInt8) (v3 v4 v5 : Value) (wr : World) : Prop :=
  ∃ k : Nat, k ≤ d.length ∧ v5 = I k ∧ v4 = I (lackL (dgs (d.take k))) ∧ wr.ownsRow w.heap.size 3 1 v3 (dgs (d.take k)).length ((dgs (d.take k)).map I) ∧ Below w.heap.size w wr
set_option maxRecDepth 100000 in
set_option maxHeartbeats 2000000 in
theorem rdigits_any (A : Option Addr) (c : Nat) (d : List UInt8) (w : World) (h1 : 1 ≤ d.length) (h2 : d.length ≤ 32) (hr : Rd w A (d.map B)) :
    Calls Tryd.prog 53 #[.slice A d.length c] w fun e w' => ∃ v, e = .returned v ∧ w'.ownsRow w.heap.size 3 1 v (digitsW d).length ((digitsW d).map I) ∧ Below w.heap.size w w' := by
  obtain ⟨b, o, rfl, hb, hcell⟩ := hr.at_ (by simp; omega)
  have HT := Lib.hid (And.intro h1 (And.intro h2 (And.intro hb hcell)))
  have h1' : ¬ (d.length : Int) < 1 := by omega
  have h2' : ¬ 32 < (d.length : Int) := by omega
  have hdl : d.length ≤ 32 := h2
  have hd1 : decide ((d.length : Int) < 1) = false := by simpa using h1'
  have hd2 : decide (32 < (d.length : Int)) = false := by simpa using h2'
  clear h1 h2 hr hb hcell
  go_enter Tryd.func53, Tryd.ntmps53
  go_wp2_with fail
  go_loopw [3, 4, 5] (fun v3 v4 v5 wr => RDigInv w d v3 v4 v5 wr) (fun _ _ v5 _ => d.length - (intOf v5).toNat)
  case atStart => exact ⟨0, Nat.zero_le _, rfl, rfl, World.ownsRow_nil _ _ _ _, Below.refl _ _⟩
  case round =>
    obtain ⟨k, hk, rfl, rfl, ho, hB⟩ := hrel
    obtain ⟨A3, c3, rfl, _⟩ := own_slice ho
    by_cases hlt : k < d.length
    · obtain ⟨cc, hcc⟩ : ∃ cc, d[k]? = some cc := ⟨_, List.getElem?_eq_getElem hlt⟩
      have hcl : wr.cell? ⟨b, o + k, none⟩ = some (B cc) := by
        have h := HT.out.2.2.2 k (by simpa using hlt)
        rw [(hB.cell (p := ⟨b, o + k, none⟩) HT.out.2.2.1), h]
        have := (List.getElem?_eq_some_iff.1 hcc).2
        simp [this]
      have hdk : dgs (d.take (k + 1)) = dgs (d.take k) ++ dg2 cc := by rw [List.take_add_one, hcc, dgs_append]; simp [dgs]
      have hle := lackL_le (dgs (d.take k))
      have hln := dgs_length (d.take k)
      have htk : (d.take k).length ≤ k := by simp; omega
      have hx1 : (cc.toNat : Int) / 16 = ((cc.toNat / 16 : Nat) : Int) := by omega
      have hx2 : (cc.toNat : Int) % 16 = ((cc.toNat % 16 : Nat) : Int) := by omega
      have hx : cc.toNat / 16 ≤ 15 ∧ cc.toNat % 16 ≤ 15 := by have := cc.toNat_lt; omega
      rw [show dg2 cc = [cc.toNat / 16, cc.toNat % 16] from rfl] at hdk
      generalize cc.toNat / 16 = x at *
      generalize cc.toNat % 16 = y at *
      generalize dgs (d.take k) = L at *
      obtain ⟨hxl, hyl⟩ := hx
      have HD := Lib.hid (And.intro hdk (And.intro ho hB))
      have HL := Lib.hid (show L.length + 2 ≤ maxLen ∧ (L.length + 2) * 8 ≤ 140737488355328 by unfold maxLen; omega)
      have HLK := Lib.hid (show lackL L ≤ 960 by omega)
      have hlk := HLK.out
      have HC := Lib.hid hcc
      clear hdk ho hB hle hln htk hcc
      go_wp2_with fail
      have hx3 : (cc.toNat : Int).tdiv 16 = (x : Int) := by rw [Int.tdiv_eq_ediv_of_nonneg (by omega)]; exact hx1
      have hx4 : (cc.toNat : Int).tmod 16 = (y : Int) := by rw [Int.tmod_eq_emod_of_nonneg (by omega)]; exact hx2
      go_quiet (fail)
      clear hx1 hx2 hx3 hx4
      have hq0 : (wr.drewN nq).ownsRow w.heap.size 3 1 (.slice A3 L.length c3) L.length (L.map I) ∧ Below w.heap.size w (wr.drewN nq) := ⟨HD.out.2.1, below_drewN HD.out.2.2 nq⟩
      generalize wr.drewN nq = w3 at *
      have HQ := Lib.hid hq0
      clear hq0
      go_wp2_with (at_builtin; refine wpList_app tIn rfl _ _ rfl w.heap.size _ _ (L.map I) rfl (HQ.out.1.alloc _) (some ⟨w3.heap.size, 0, none⟩) 2 2 [I x, I y] rfl (Rd_alloc _ _ _) rfl (one_nats (l := [x, y])) (by have := HL.out; omega) (by have := HL.out; omega) (by have := HQ.out.2.size; rw [World.size_alloc]; omega) ?_)
      intro v4 w4 ho4 hx4
      obtain ⟨A4, c4, rfl, _⟩ := own_slice ho4
      have hb4 := (HQ.out.2.alloc HQ.out.2.size (.cells #[I x, I y] 3)).grown hx4.grown (by have := HQ.out.2.size; rw [World.size_alloc]; omega) (fun q e => (HQ.out.1.lt q e).1)
      have H4 := Lib.hid (And.intro ho4 hb4)
      clear ho4 hx4 hb4
      go_wp2_with fail
      go_roundw
      case rel =>
        refine ⟨k + 1, hlt, by go_num, ?_, ?_, H4.out.2⟩
        · rw [HD.out.1, lackL_append]; show Value.int _ _ = Value.int _ _; simp only [lackL]; congr 1; omega
        · rw [HD.out.1]; simpa using H4.out.1
      case measure => simp [intOf]; omega
    · obtain rfl : k = d.length := by omega
      rw [List.take_length] at ho
      simp only [List.take_length]
      have hle := lackL_le (dgs d)
      have hln := dgs_length d
      have hdg : digitsW d = dgs d ++ [lackL (dgs d) / 256 % 16, lackL (dgs d) / 16 % 16, lackL (dgs d) % 16] := rfl
      generalize dgs d = L at *
      have hs : lackL L ≤ 960 := by omega
      have HL := Lib.hid (show L.length + 3 ≤ maxLen ∧ (L.length + 3) * 8 ≤ 140737488355328 by unfold maxLen; omega)
      generalize lackL L = s at *
      have q1 : (s : Int) / 256 % 16 = ((s / 256 % 16 : Nat) : Int) := by omega
      have q2 : (s : Int) / 16 % 16 = ((s / 16 % 16 : Nat) : Int) := by omega
      have q3 : (s : Int) % 16 = ((s % 16 : Nat) : Int) := by omega
      have q5 : (s : Int).tmod 16 = ((s % 16 : Nat) : Int) := by rw [Int.tmod_eq_emod_of_nonneg (by omega)]; rfl
      have HD := Lib.hid (And.intro hdg (And.intro ho hB))
      clear hdg ho hB hle hln hk hlt
      generalize s / 256 % 16 = x at *
      generalize s / 16 % 16 = y at *
      generalize s % 16 = z at *
      go_wp2_with (at_builtin; refine wpList_app tIn rfl _ _ rfl w.heap.size _ _ (L.map I) rfl (HD.out.2.1.alloc _) (some ⟨wr.heap.size, 0, none⟩) 3 3 [I x, I y, I z] rfl (Rd_alloc _ _ _) rfl (one_nats (l := [x, y, z])) (by have := HL.out; omega) (by have := HL.out; omega) (by have := HD.out.2.2.size; rw [World.size_alloc]; omega) ?_)
      intro v4 w4 ho4 hx4
      have hb4 := (HD.out.2.2.alloc HD.out.2.2.size (.cells #[I x, I y, I z] 3)).grown hx4.grown (by have := HD.out.2.2.size; rw [World.size_alloc]; omega) (fun q e => (HD.out.2.1.lt q e).1)
      have H4 := Lib.hid (And.intro ho4 hb4)
      clear ho4 hx4 hb4
      go_wp2_with fail
      go_ret
      refine ⟨_, rfl, ?_, H4.out.2⟩
      rw [HD.out.1]; simpa using H4.out.1
end Go.Proofs.YtcgdojdiihdkeaaDoor
