/- Layer 1: turns, Fold by their contracts. -/
import Derived.Test.YtcgdojdiihdkeaaDoorPath
namespace Go.Proofs.YtcgdojdiihdkeaaDoor
open Go Go.RowKit Go.Isth

theorem tBl : SlT Tryd.prog 98 4 (.bool false) 1 1 := ⟨Tryd.underlying98, by kernel_rfl, rfl, by decide⟩
theorem one_bools {l : List Bool} : ∀ u ∈ l.map Value.bool, u.oneCell' = true := by
  intro u hu; obtain ⟨b, _, rfl⟩ := List.mem_map.1 hu; rfl
theorem turnsG_le : ∀ (n i : Nat), (turnsG i n).length ≤ n := by
  intro n
  induction n using Nat.strongRecOn with
  | _ n ih =>
    intro i
    by_cases h1 : 1 < n
    · have h2 := halfN_lt h1
      have h3 := halfN_pos n
      by_cases hi : halfN n ≤ i
      · rw [turnsG_right h1 hi, List.length_cons]; have := ih (n - halfN n) (by omega) (i - halfN n); omega
      · rw [turnsG_left h1 hi, List.length_cons]; have := ih (halfN n) h2 i; omega
    · rw [turnsG_one h1]; simp
def TurnsInv (w : World) (i n : Nat) (vi vn vl : Value) (wr : World) : Prop :=
  ∃ (j m : Nat) (ts : List Bool), vi = .int .i64 j ∧ vn = .int .i64 m ∧ j < m ∧ m ≤ n ∧ ts ++ turnsG j m = turnsG i n ∧ wr.ownsRow w.heap.size 4 1 vl ts.length (ts.map Value.bool) ∧ Below w.heap.size w wr
set_option maxRecDepth 100000 in
set_option maxHeartbeats 2000000 in
theorem turns_any (i n : Nat) (hi : i < n) (hn : n ≤ 1000000) (w : World) :
    Calls Tryd.prog 63 #[.int .i64 i, .int .i64 n] w fun e w' => ∃ v, e = .returned v ∧ w'.ownsRow w.heap.size 4 1 v (turnsG i n).length ((turnsG i n).map Value.bool) ∧ Below w.heap.size w w' := by
  have HT := Lib.hid (And.intro hi hn)
  clear hi hn
  go_enter Tryd.func63, Tryd.ntmps63
  go_wp2_with fail
  go_loopw [0, 1, 5] (fun vi vn vl wr => TurnsInv w i n vi vn vl wr) (fun _ vn _ _ => (intOf vn).toNat)
  case atStart => exact ⟨i, n, [], rfl, rfl, HT.out.1, Nat.le_refl _, rfl, World.ownsRow_nil _ _ _ _, Below.refl _ _⟩
  case round =>
    obtain ⟨j, m, ts, rfl, rfl, hj, hm, heq, ho, hB⟩ := hrel
    obtain ⟨A5, c5, rfl, _⟩ := own_slice ho
    by_cases h1 : 1 < m
    · have h1i : (1 : Int) < (m : Int) := by omega
      have hlen : (turnsG i n).length = ts.length + (turnsG j m).length := by rw [← heq, List.length_append]
      have hle := turnsG_le n i
      have HM := Lib.hid (show ts.length + 1 ≤ maxLen ∧ (ts.length + 1) * 1 ≤ 140737488355328 by have := HT.out; unfold maxLen; omega)
      have HS := Lib.hid (And.intro hj (And.intro hm (And.intro heq (And.intro ho hB))))
      have HN := Lib.hid h1
      clear hj hm heq ho hB h1 hlen hle
      go_wp2_with (first
        | (go_at_call 62; refine (half_any m HN.out (by have := HT.out; have := HS.out.2.1; omega) _).mono ?_; rintro e w' ⟨rfl, hw'⟩; obtain rfl : wr = w' := hw'.symm)
        | (at_builtin; refine wpList_app tBl rfl _ _ rfl w.heap.size _ _ (ts.map Value.bool) rfl (HS.out.2.2.2.1.alloc _) (some ⟨wr.heap.size, 0, none⟩) 1 1 [Value.bool (decide (halfN m ≤ j))] rfl (Blk_new wr _ 4).rd0 rfl (by intro u hu; simp at hu; subst hu; rfl) HM.out.1 HM.out.2 (by have := HS.out.2.2.2.2.size; simp; omega) ?_))
      intro v3 w3 ho3 hx3
      have hb3 := (HS.out.2.2.2.2.alloc HS.out.2.2.2.2.size _).grown hx3.grown (by have := HS.out.2.2.2.2.size; rw [World.size_alloc]; omega) (fun q e => (HS.out.2.2.2.1.lt q e).1)
      obtain ⟨A3, c3, rfl, _⟩ := own_slice ho3
      have H3 := Lib.hid (And.intro ho3 hb3)
      have hk1 := halfN_lt HN.out
      have hk0 := halfN_pos m
      have HKK := Lib.hid (And.intro hk0 hk1)
      clear ho3 hx3 hb3
      generalize hgen : halfN m = q at *
      have HG := Lib.hid hgen
      clear hgen
      by_cases hk : q ≤ j
      · have HK := Lib.hid hk
        have e1 : (j : Int) - (q : Int) = ((j - q : Nat) : Int) := by omega
        have e2 : (m : Int) - (q : Int) = ((m - q : Nat) : Int) := by omega
        have e3 : wrap64 ((j - q : Nat) : Int) = ((j - q : Nat) : Int) := IntWalk.wrap64_in _ ⟨by omega, by have := HT.out; have := HS.out; omega⟩
        have e4 : wrap64 ((m - q : Nat) : Int) = ((m - q : Nat) : Int) := IntWalk.wrap64_in _ ⟨by omega, by have := HT.out; have := HS.out; omega⟩
        have hd : decide (q ≤ j) = true := by simp [hk]
        rw [hd] at H3
        simp only [hd]
        clear hk0 hk1
        go_wp2_with fail
        go_roundw
        case rel =>
          refine ⟨j - q, m - q, ts ++ [true], by rw [e3], by rw [e4], by have := HS.out; omega, by have := HS.out; omega, ?_, ?_, H3.out.2⟩
          · rw [← HS.out.2.2.1, turnsG_right HN.out (by rw [HG.out]; exact HK.out), HG.out, List.append_assoc, List.singleton_append]
          · have h := H3.out.1; rw [List.length_append, List.map_append]; exact h
        case measure => have := HKK.out; rw [e4]; show ((m - q : Nat) : Int).toNat < ((m : Nat) : Int).toNat; omega
      · have HK := Lib.hid hk
        have hd : decide (q ≤ j) = false := by simp [hk]
        rw [hd] at H3
        simp only [hd]
        clear hk0 hk1
        go_wp2_with fail
        go_roundw
        case rel =>
          refine ⟨j, q, ts ++ [false], by go_num, by go_num, by have := HK.out; omega, by have := HS.out; have := HKK.out; omega, ?_, ?_, H3.out.2⟩
          · rw [← HS.out.2.2.1, turnsG_left HN.out (by rw [HG.out]; exact HK.out), HG.out, List.append_assoc, List.singleton_append]
          · have h := H3.out.1; rw [List.length_append, List.map_append]; exact h
        case measure => have := HKK.out; simp [intOf]; omega
    · have h1i : ¬ (1 : Int) < (m : Int) := by omega
      rw [turnsG_one h1, List.append_nil] at heq
      rw [heq] at ho
      have HS := Lib.hid (And.intro ho hB)
      clear hj hm ho hB h1
      have HEQ := Lib.hid heq
      clear heq
      go_wp2_with fail
      go_ret
      rw [HEQ.out]
      exact ⟨_, rfl, HS.out.1, HS.out.2⟩
#print axioms turns_any
end Go.Proofs.YtcgdojdiihdkeaaDoor
