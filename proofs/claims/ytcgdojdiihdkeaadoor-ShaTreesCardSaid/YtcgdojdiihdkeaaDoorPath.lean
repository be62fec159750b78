/- Layer 1: Path, turns, Fold by their contracts. -/
import Derived.Test.YtcgdojdiihdkeaaDoorRoot
namespace Go.Proofs.YtcgdojdiihdkeaaDoor
open Go Go.RowKit Go.Isth

def pathH (l : List (List UInt8)) (i : Nat) : List (List UInt8) := pathG nodeF (sumF []) l i
theorem pathH_32 : ∀ (n : Nat) (l : List (List UInt8)) (i : Nat), l.length = n → All32 l → All32 (pathH l i) := by
  intro n
  induction n using Nat.strongRecOn with
  | _ n ih =>
    intro l i hl h
    unfold pathH at *
    by_cases h1 : 1 < l.length
    · have h2 := halfN_lt h1
      have h3 := halfN_pos l.length
      by_cases hi : i < halfN l.length
      · rw [pathG_left h1 hi]
        exact (ih (halfN l.length) (by omega) _ _ (by simp; omega) (h.take _)).snoc (rootH_length _ (h.drop _))
      · rw [pathG_right h1 hi]
        exact (ih (l.length - halfN l.length) (by omega) _ _ (by simp) (h.drop _)).snoc (rootH_length _ (h.take _))
    · rw [pathG_one h1]; intro x hx; simp at hx
theorem pathH_le : ∀ (n : Nat) (l : List (List UInt8)) (i : Nat), l.length = n → (pathH l i).length ≤ n := by
  intro n
  induction n using Nat.strongRecOn with
  | _ n ih =>
    intro l i hl
    subst hl
    unfold pathH at *
    by_cases h1 : 1 < l.length
    · have h2 := halfN_lt h1
      have h3 := halfN_pos l.length
      by_cases hi : i < halfN l.length
      · rw [pathG_left h1 hi, List.length_append]
        have := ih (halfN l.length) (by omega) (l.take (halfN l.length)) i (by simp; omega)
        simp only [List.length_cons, List.length_nil]; omega
      · rw [pathG_right h1 hi, List.length_append]
        have := ih (l.length - halfN l.length) (by omega) (l.drop (halfN l.length)) (i - halfN l.length) (by simp)
        simp only [List.length_cons, List.length_nil]; omega
    · rw [pathG_one h1]; simp
theorem fold_put : ∀ (cs : List Value) (pre mid post : List Value), mid.length = cs.length → (cs.zipIdx pre.length).foldl (fun arr x => arr.setIfInBounds x.snd x.fst) (pre ++ mid ++ post).toArray = (pre ++ cs ++ post).toArray
  | [], pre, mid, post, h => by simp at h; subst h; rfl
  | c :: cs, pre, [], post, h => by simp at h
  | c :: cs, pre, m :: mid, post, h => by
    rw [List.zipIdx_cons, List.foldl_cons]
    have e : ((pre ++ m :: mid ++ post).toArray.setIfInBounds pre.length c) = ((pre ++ [c]) ++ mid ++ post).toArray := by
      simp
    simp only [e]
    have ih := fold_put cs (pre ++ [c]) mid post (by simpa using h)
    rw [List.length_append] at ih
    simp only [List.length_cons, List.length_nil, Nat.zero_add] at ih
    rw [ih]; simp
theorem fold_set (cs : List Value) (hl : cs.length = 32) : List.foldl (fun cs x => cs.setIfInBounds x.snd x.fst) #[Value.int IntKind.u8 0, Value.int IntKind.u8 0, Value.int IntKind.u8 0, Value.int IntKind.u8 0, Value.int IntKind.u8 0, Value.int IntKind.u8 0, Value.int IntKind.u8 0, Value.int IntKind.u8 0, Value.int IntKind.u8 0, Value.int IntKind.u8 0, Value.int IntKind.u8 0, Value.int IntKind.u8 0, Value.int IntKind.u8 0, Value.int IntKind.u8 0, Value.int IntKind.u8 0, Value.int IntKind.u8 0, Value.int IntKind.u8 0, Value.int IntKind.u8 0, Value.int IntKind.u8 0, Value.int IntKind.u8 0, Value.int IntKind.u8 0, Value.int IntKind.u8 0, Value.int IntKind.u8 0, Value.int IntKind.u8 0, Value.int IntKind.u8 0, Value.int IntKind.u8 0, Value.int IntKind.u8 0, Value.int IntKind.u8 0, Value.int IntKind.u8 0, Value.int IntKind.u8 0, Value.int IntKind.u8 0, Value.int IntKind.u8 0] cs.zipIdx = cs.toArray := by
  have h := fold_put cs [] (List.replicate 32 (B 0)) [] (by rw [List.length_replicate, hl])
  rw [List.append_nil, List.append_nil, List.nil_append, List.nil_append] at h
  exact h
/-- 'place', the argument is wrong: no path. -/
def PathCalls (n : Nat) : Prop := ∀ (A : Option Addr) (c : Nat) (l : List (List UInt8)) (i : Nat) (w : World), l.length = n → n ≤ c → n ≤ 1000 → i < n → All32 l → Rd w A (cellsH l) → TabLaid w →
    Calls Tryd.prog 28 #[.slice A n c, .int .i64 i] w fun e w' => ∃ v, e = .returned (.tuple #[v, .nilIface]) ∧ w'.ownsRow w.heap.size 28 32 v (pathH l i).length (cellsH (pathH l i)) ∧ Below w.heap.size w w'
set_option maxRecDepth 100000 in
set_option maxHeartbeats 2000000 in
theorem path_any : ∀ n, PathCalls n := by
  intro n
  induction n using Nat.strongRecOn with
  | _ n ih =>
    intro A c l i w hl hc hn hi h32 hr ht
    have HT := Lib.hid (And.intro hl (And.intro hc (And.intro hn (And.intro hi (And.intro h32 (And.intro hr ht))))))
    have IH := Lib.hid ih
    clear hl hc hn hi h32 hr ht ih
    have hi0 : ¬ (i : Int) < 0 := by omega
    have hin : ¬ (n : Int) ≤ (i : Int) := by have := HT.out; omega
    have hcase : n = 1 ∨ 1 < n := by have := HT.out; omega
    rcases hcase with rfl | h1
    · go_enter Tryd.func28, Tryd.ntmps28
      go_wp2
      go_ret2
      refine ⟨_, rfl, ?_, Below.refl _ _⟩
      have e : pathH l i = [] := by unfold pathH; exact pathG_one (by have := HT.out.1; omega)
      rw [e]
      exact World.ownsRow_nil _ _ _ _
    · have hn1 : ((n : Int) == 1) = false := by simp; omega
      have HN := Lib.hid h1
      clear h1
      go_enter Tryd.func28, Tryd.ntmps28
      go_wp2_with (go_at_call 62; refine (half_any n HN.out (by have := HT.out; omega) _).mono ?_; rintro e w' ⟨rfl, hw'⟩; obtain rfl : w = w' := hw'.symm)
      have hk1 := halfN_lt HN.out
      have hk0 := halfN_pos n
      generalize hk : halfN n = k at *
      have hct : ∀ wx, _ := fun wx => run_cut_to tHs A n c (k : Int) (by omega) (by have := HT.out; omega) wx
      have hcf : ∀ wx, _ := fun wx => run_cut_from tHs A n c (k : Int) (by omega) (by omega) wx
      simp only [Int.toNat_natCast] at hct hcf
      have H0 := Lib.hid (And.intro (show 0 < k ∧ k < n from ⟨hk0, hk1⟩) (show halfN l.length = k by rw [HT.out.1]; exact hk))
      clear hk0 hk1 hk hn1 hi0 hin
      go_region
      clear hct hcf
      rcases Nat.lt_or_ge i k with hik | hik
      · have hx : ¬ (k : Int) ≤ (i : Int) := by omega
        have hxx := hx
        clear hxx
        revert hx
        intro hx
        have HK := Lib.hid hik
        go_wp2_with fail
        refine (IH.out k H0.out.1.2 A c (l.take k) i _ (by have := HT.out.1; have := H0.out.1; simp; omega) (by have := HT.out; have := H0.out.1; omega) (by have := HT.out; have := H0.out.1; omega) HK.out (HT.out.2.2.2.2.1.take k) ((rdH_to k HT.out.2.2.2.2.2.1 HT.out.2.2.2.2.1).drew) HT.out.2.2.2.2.2.2).mono ?_
        rintro e w1 ⟨v1, rfl, ho1, hb1⟩
        obtain ⟨A1, c1, rfl, _⟩ := own_slice ho1
        have H1 := Lib.hid (And.intro ho1 (show Below w.heap.size w w1 from ⟨hb1.os, hb1.tape, hb1.output, hb1.size, hb1.block⟩))
        clear ho1 hb1
        go_wp2_with fail
        refine (root_any (n - k) (cutA A c k 32) (c - k) (l.drop k) w1 (by have := HT.out.1; simp; omega) (by have := HT.out; omega) (by have := HT.out; omega) (HT.out.2.2.2.2.1.drop k) ((rdH_from c k HT.out.2.2.2.2.2.1 HT.out.2.2.2.2.1 (by have := HT.out.1; have := H0.out.1; omega) (by have := HT.out; omega)).below H1.out.2) (HT.out.2.2.2.2.2.2.below H1.out.2 HT.out.2.2.2.2.2.2.lt)).mono ?_
        rintro e w2 ⟨rfl, hb2⟩
        have ho2 := own_block H1.out.1 (fun q e => hb2.block q (H1.out.1.lt q e).2)
        have H2 := Lib.hid (And.intro ho2 (below_then H1.out.2 H1.out.2.size hb2))
        clear ho2 hb2
        obtain ⟨cs, hcs⟩ : ∃ cs, cs = (rootH (l.drop k)).map B := ⟨_, rfl⟩
        rw [show HV (rootH (l.drop k)) = Value.agg cs.toArray by rw [hcs]]
        have hcl : cs.length = 32 := by rw [hcs, List.length_map, rootH_length _ (HT.out.2.2.2.2.1.drop k)]
        have hc1 : ∀ u ∈ cs, u.oneCell' = true := by rw [hcs]; exact one_bytes
        have HC := Lib.hid (And.intro hcs (And.intro hcl hc1))
        clear hcs hcl hc1
        have HM := Lib.hid (show (pathH (l.take k) i).length + 1 ≤ maxLen ∧ ((pathH (l.take k) i).length + 1) * 32 ≤ 140737488355328 by
          have h1 := pathH_le _ (l.take k) i rfl
          have h2 : (l.take k).length ≤ n := by have := HT.out.1; simp; omega
          have := HT.out; unfold maxLen; omega)
        have hc32 := HC.out.2.1
        go_wp2_with (at_builtin; refine wpList_app tHs rfl _ _ rfl w.heap.size _ _ (cellsH (pathH (l.take k) i)) rfl (H2.out.1.alloc _) (some ⟨w2.heap.size, 0, none⟩) 1 1 cs rfl ?rd HC.out.2.1 HC.out.2.2 HM.out.1 HM.out.2 ?bz ?_)
        case rd => rw [fold_set cs HC.out.2.1]; exact (Blk_new w2 cs 28).rd0
        case bz => have := H2.out.2.size; simp; omega
        intro v3 w3 ho3 hx3
        have hb3 := (H2.out.2.alloc H2.out.2.size _).grown hx3.grown (by have := H2.out.2.size; rw [World.size_alloc]; omega) (fun q e => (H2.out.1.lt q e).1)
        have e : pathH l i = (pathH (l.take k) i) ++ [rootH (l.drop k)] := by unfold pathH rootH; rw [pathG_left (by rw [HT.out.1]; exact HN.out) (by rw [H0.out.2]; exact HK.out), H0.out.2]
        have ec : cellsH (pathH l i) = cellsH (pathH (l.take k) i) ++ cs := by rw [e, cellsH_append, HC.out.1]; simp [cellsH]
        have H3 := Lib.hid (And.intro ho3 (And.intro hb3 (And.intro e ec)))
        clear ho3 hx3 hb3 e ec hc32
        obtain ⟨A3, c3, rfl, _⟩ := own_slice H3.out.1
        go_wp2
        go_ret2
        refine ⟨_, rfl, ?_, H3.out.2.1⟩
        rw [H3.out.2.2.2, H3.out.2.2.1, List.length_append]
        exact H3.out.1
      · have hx : (k : Int) ≤ (i : Int) := by omega
        have hxn : ¬ i < k := by omega
        have HK := Lib.hid hxn
        have hw64 : wrap64 ((i - k : Nat) : Int) = ((i - k : Nat) : Int) := IntWalk.wrap64_in _ ⟨by omega, by have := HT.out; omega⟩
        have hsub2 : (i : Int) - (k : Int) = ((i - k : Nat) : Int) := by omega
        go_wp2_with fail
        refine (IH.out (n - k) (by have := H0.out.1; omega) (cutA A c k 32) (c - k) (l.drop k) (i - k) _ (by have := HT.out.1; simp; omega) (by have := HT.out; omega) (by have := HT.out; omega) (by have := HT.out; have := HK.out; omega) (HT.out.2.2.2.2.1.drop k) ((rdH_from c k HT.out.2.2.2.2.2.1 HT.out.2.2.2.2.1 (by have := HT.out.1; have := H0.out.1; omega) (by have := HT.out; omega)).drew) HT.out.2.2.2.2.2.2).mono ?_
        rintro e w1 ⟨v1, rfl, ho1, hb1⟩
        obtain ⟨A1, c1, rfl, _⟩ := own_slice ho1
        have H1 := Lib.hid (And.intro ho1 (show Below w.heap.size w w1 from ⟨hb1.os, hb1.tape, hb1.output, hb1.size, hb1.block⟩))
        clear ho1 hb1
        go_wp2_with fail
        refine (root_any k A c (l.take k) w1 (by have := HT.out.1; have := H0.out.1; simp; omega) (by have := HT.out; have := H0.out.1; omega) (by have := HT.out; omega) (HT.out.2.2.2.2.1.take k) ((rdH_to k HT.out.2.2.2.2.2.1 HT.out.2.2.2.2.1).below H1.out.2) (HT.out.2.2.2.2.2.2.below H1.out.2 HT.out.2.2.2.2.2.2.lt)).mono ?_
        rintro e w2 ⟨rfl, hb2⟩
        have ho2 := own_block H1.out.1 (fun q e => hb2.block q (H1.out.1.lt q e).2)
        have H2 := Lib.hid (And.intro ho2 (below_then H1.out.2 H1.out.2.size hb2))
        clear ho2 hb2
        obtain ⟨cs, hcs⟩ : ∃ cs, cs = (rootH (l.take k)).map B := ⟨_, rfl⟩
        rw [show HV (rootH (l.take k)) = Value.agg cs.toArray by rw [hcs]]
        have hcl : cs.length = 32 := by rw [hcs, List.length_map, rootH_length _ (HT.out.2.2.2.2.1.take k)]
        have hc1 : ∀ u ∈ cs, u.oneCell' = true := by rw [hcs]; exact one_bytes
        have HC := Lib.hid (And.intro hcs (And.intro hcl hc1))
        clear hcs hcl hc1
        have HM := Lib.hid (show (pathH (l.drop k) (i - k)).length + 1 ≤ maxLen ∧ ((pathH (l.drop k) (i - k)).length + 1) * 32 ≤ 140737488355328 by
          have h1 := pathH_le _ (l.drop k) (i - k) rfl
          have h2 : (l.drop k).length ≤ n := by have := HT.out.1; simp; omega
          have := HT.out; unfold maxLen; omega)
        have hc32 := HC.out.2.1
        go_wp2_with (at_builtin; refine wpList_app tHs rfl _ _ rfl w.heap.size _ _ (cellsH (pathH (l.drop k) (i - k))) rfl (H2.out.1.alloc _) (some ⟨w2.heap.size, 0, none⟩) 1 1 cs rfl ?rd HC.out.2.1 HC.out.2.2 HM.out.1 HM.out.2 ?bz ?_)
        case rd => rw [fold_set cs HC.out.2.1]; exact (Blk_new w2 cs 28).rd0
        case bz => have := H2.out.2.size; simp; omega
        intro v3 w3 ho3 hx3
        have hb3 := (H2.out.2.alloc H2.out.2.size _).grown hx3.grown (by have := H2.out.2.size; rw [World.size_alloc]; omega) (fun q e => (H2.out.1.lt q e).1)
        have e : pathH l i = (pathH (l.drop k) (i - k)) ++ [rootH (l.take k)] := by unfold pathH rootH; rw [pathG_right (by rw [HT.out.1]; exact HN.out) (by rw [H0.out.2]; exact HK.out), H0.out.2]
        have ec : cellsH (pathH l i) = cellsH (pathH (l.drop k) (i - k)) ++ cs := by rw [e, cellsH_append, HC.out.1]; simp [cellsH]
        have H3 := Lib.hid (And.intro ho3 (And.intro hb3 (And.intro e ec)))
        clear ho3 hx3 hb3 e ec hc32
        obtain ⟨A3, c3, rfl, _⟩ := own_slice H3.out.1
        go_wp2
        go_ret2
        refine ⟨_, rfl, ?_, H3.out.2.1⟩
        rw [H3.out.2.2.2, H3.out.2.2.1, List.length_append]
        exact H3.out.1
#print axioms path_any
end Go.Proofs.YtcgdojdiihdkeaaDoor
