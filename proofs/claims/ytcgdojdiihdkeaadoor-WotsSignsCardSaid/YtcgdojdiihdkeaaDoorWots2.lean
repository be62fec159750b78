/- Layer 5: digest, Len, fault, check, twin, Digits by their contracts. -/
import Derived.Test.YtcgdojdiihdkeaaDoorWots1
import Derived.Test.YtcgdojdiihdkeaaDoorFault
namespace Go.Proofs.YtcgdojdiihdkeaaDoor
open Go Go.RowKit Go.Isth

theorem digest_yes (n : Int) (w : World) (h1 : 1 ≤ n) (h2 : n ≤ 32) : Calls Tryd.prog 60 #[.int .i64 n] w fun e w' => e = .returned (.bool true) ∧ w = w' := by
  go_enter Tryd.func60, Tryd.ntmps60
  go_wp2
  go_ret
  exact ⟨rfl, rfl⟩
theorem digest_no (n : Int) (w : World) (h : n < 1 ∨ 32 < n) : Calls Tryd.prog 60 #[.int .i64 n] w fun e w' => e = .returned (.bool false) ∧ w = w' := by
  rcases h with h | h
  · have h0 : decide (1 ≤ n) = false := by simp; omega
    go_enter Tryd.func60, Tryd.ntmps60
    go_wp2
    go_ret
    exact ⟨rfl, rfl⟩
  · have h0 : decide (1 ≤ n) = true := by simp; omega
    have h1 : decide (n ≤ 32) = false := by simp; omega
    go_enter Tryd.func60, Tryd.ntmps60
    go_wp2
    go_ret
    exact ⟨rfl, rfl⟩
theorem len_yes (n : Int) (w : World) (h1 : 1 ≤ n) (h2 : n ≤ 32) : Calls Tryd.prog 24 #[.int .i64 n] w fun e w' => e = .returned (.int .i64 (2 * n + 3)) ∧ w = w' := by
  go_enter Tryd.func24, Tryd.ntmps24
  go_wp2_with (go_at_call 60; refine (digest_yes n _ h1 h2).mono ?_; rintro e w' ⟨rfl, rfl⟩)
  go_ret
  exact ⟨rfl, rfl⟩
theorem len_no (n : Int) (w : World) (h : n < 1 ∨ 32 < n) : Calls Tryd.prog 24 #[.int .i64 n] w fun e w' => e = .returned (.int .i64 0) ∧ w = w' := by
  go_enter Tryd.func24, Tryd.ntmps24
  go_wp2_with (go_at_call 60; refine (digest_no n _ h).mono ?_; rintro e w' ⟨rfl, rfl⟩)
  go_ret
  exact ⟨rfl, rfl⟩
theorem fault05_any (s : ByteArray) (k : Int) (w : World) : Calls Tryd.prog 59 #[.string s, .int .i64 k] w fun e w' => ∃ v, e = .returned v ∧ FaultIs w' v k ∧ Below w.heap.size w w' := by
  go_enter Tryd.func59, Tryd.ntmps59
  go_wp2
  go_ret
  exact ⟨_, rfl, FaultIs.new _ _ _, (Below.refl _ _).alloc (Nat.le_refl _) _⟩
theorem check_yes (leaf n : Int) (w : World) (h0 : 0 ≤ leaf) (h3 : leaf < 1024) (h1 : 1 ≤ n) (h2 : n ≤ 32) : Calls Tryd.prog 57 #[.int .i64 leaf, .int .i64 n] w fun e w' => e = .returned .nilIface ∧ w = w' := by
  go_enter Tryd.func57, Tryd.ntmps57
  go_wp2_with (go_at_call 60; refine (digest_yes n _ h1 h2).mono ?_; rintro e w' ⟨rfl, rfl⟩)
  go_ret
  exact ⟨rfl, rfl⟩
def Bad05 (leaf n : Int) : Prop := leaf < 0 ∨ 1024 ≤ leaf ∨ n < 1 ∨ 32 < n
theorem check_no (leaf n : Int) (w : World) (h : Bad05 leaf n) : Calls Tryd.prog 57 #[.int .i64 leaf, .int .i64 n] w fun e w' => ∃ v, e = .returned v ∧ FaultIs w' v 1 ∧ Below w.heap.size w w' := by
  unfold Bad05 at h
  rcases h with h | h | h
  · have h0 : decide (leaf < 0) = true := by simpa using h
    go_enter Tryd.func57, Tryd.ntmps57
    go_wp2_with (go_at_call 59; refine (fault05_any _ _ _).mono ?_; rintro e w' ⟨v, rfl, hv, hb⟩)
    go_ret
    exact ⟨_, rfl, hv, hb⟩
  · have h0 : decide (leaf < 0) = false := by simp; omega
    have h1 : decide (1024 ≤ leaf) = true := by simpa using h
    go_enter Tryd.func57, Tryd.ntmps57
    go_wp2_with (go_at_call 59; refine (fault05_any _ _ _).mono ?_; rintro e w' ⟨v, rfl, hv, hb⟩)
    go_ret
    exact ⟨_, rfl, hv, hb⟩
  · by_cases h4 : 0 ≤ leaf ∧ leaf < 1024
    · obtain ⟨h5, h6⟩ := h4
      go_enter Tryd.func57, Tryd.ntmps57
      go_wp2_with (first
        | (go_at_call 60; refine (digest_no n _ h).mono ?_; rintro e w' ⟨rfl, rfl⟩)
        | (go_at_call 59; refine (fault05_any _ _ _).mono ?_; rintro e w' ⟨v, rfl, hv, hb⟩))
      go_ret
      exact ⟨_, rfl, hv, hb⟩
    · have h7 : leaf < 0 ∨ 1024 ≤ leaf := by omega
      clear h4 h
      rcases h7 with h | h
      · have h0 : decide (leaf < 0) = true := by simpa using h
        go_enter Tryd.func57, Tryd.ntmps57
        go_wp2_with (go_at_call 59; refine (fault05_any _ _ _).mono ?_; rintro e w' ⟨v, rfl, hv, hb⟩)
        go_ret
        exact ⟨_, rfl, hv, hb⟩
      · have h0 : decide (leaf < 0) = false := by simp; omega
        have h1 : decide (1024 ≤ leaf) = true := by simpa using h
        go_enter Tryd.func57, Tryd.ntmps57
        go_wp2_with (go_at_call 59; refine (fault05_any _ _ _).mono ?_; rintro e w' ⟨v, rfl, hv, hb⟩)
        go_ret
        exact ⟨_, rfl, hv, hb⟩
theorem twin05_any (A : Option Addr) (c : Nat) (bs : List UInt8) (w : World) (hm : bs.length ≤ 140737488355328) (hr : Rd w A (bs.map B)) :
    Calls Tryd.prog 20 #[.slice A bs.length c] w fun e w' => ∃ v, e = .returned v ∧ w'.ownsRow w.heap.size 5 1 v bs.length (bs.map B) ∧ Below w.heap.size w w' := by
  have HM := Lib.hid hm
  clear hm
  go_enter Tryd.func20, Tryd.ntmps20
  go_wp2_with (at_builtin; refine wpList_app tBs rfl _ _ rfl w.heap.size (.slice none 0 0) 0 [] rfl (World.ownsRow_nil _ _ _ _) A bs.length c (bs.map B) rfl hr (by simp) one_bytes (by have := HM.out; unfold maxLen; omega) (by have := HM.out; omega) (Nat.le_refl _) ?_)
  intro v1 w1 ho1 hx1
  have hb := hx1.below (B := w.heap.size) (Nat.le_refl _) (fun k e => by cases e)
  go_wp2
  go_ret
  exact ⟨_, rfl, by simpa using ho1, hb⟩
#print axioms check_no
#print axioms twin05_any
end Go.Proofs.YtcgdojdiihdkeaaDoor
