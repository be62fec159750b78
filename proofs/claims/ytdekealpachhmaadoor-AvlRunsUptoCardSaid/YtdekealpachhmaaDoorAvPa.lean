/- Layer 7: path, Path by their contracts. -/
import Derived.Test.YtdekealpachhmaaDoorAvDr
import Derived.Test.YtdekealpachhmaaDoorRow
import Derived.Test.YtdekealpachhmaaDoorFault
namespace Go.Proofs.YtdekealpachhmaaDoor
open Go Go.RowKit Go.Isth

theorem tSt : SlT Tryd.prog 30 67 (.agg (.bool false :: .int .i64 0 :: List.replicate 32 (B 0)).toArray) 34 48 := ⟨Tryd.underlying30, by kernel_rfl, rfl, by decide⟩
theorem built_step (s : Bool) (m : Int) (cs : List Value) (hl : cs.length = 32) :
    Tryd.prog.built 67 [(0, .bool s), (1, .int .i64 m), (2, .agg cs.toArray)] = some (.bool s :: .int .i64 m :: cs).toArray := by
  rw [built_struct (P := Tryd.prog) (t := 67) (zs := [.bool false, .int .i64 0] ++ List.replicate 32 (B 0)) (by kernel_rfl) Tryd.underlying67 (places := [(0, 1), (1, 1), (2, 32)]) (by kernel_rfl)]
  refine (fill_part _ 0 0 (.bool s) [.bool s] [] [.bool false] (.int .i64 0 :: List.replicate 32 (B 0)) _ rfl rfl rfl rfl).trans ?_
  refine (fill_part _ 1 1 (.int .i64 m) [.int .i64 m] [.bool s] [.int .i64 0] (List.replicate 32 (B 0)) _ rfl rfl rfl rfl).trans ?_
  refine (fill_part _ 2 2 (.agg cs.toArray) cs [.bool s, .int .i64 m] (List.replicate 32 (B 0)) [] _ (by rw [hl]; rfl) rfl rfl (by rw [hl]; rfl)).trans ?_
  rw [fill_nil, List.append_nil]
  rfl
/-- The cells of a step, of steps. -/
def stepC (s : StepV) : List Value := .bool s.second :: .int .i64 (s.many : Nat) :: s.other.map B
def stepsC (l : List StepV) : List Value := l.flatMap stepC
theorem stepC_len {s : StepV} (h : s.other.length = 32) : (stepC s).length = 34 := by simp [stepC, h]
theorem stepC_one (s : StepV) : ∀ u ∈ stepC s, u.oneCell' = true := by
  intro u hu
  simp only [stepC, List.mem_cons] at hu
  rcases hu with rfl | rfl | hu
  · rfl
  · rfl
  · exact one_bytes u hu
theorem stepsC_append (l m : List StepV) : stepsC (l ++ m) = stepsC l ++ stepsC m := by simp [stepsC]
theorem blk_new_at {b : Nat} {w0 w : World} (_h : Below b w0 w) (cs : List Value) (t : TypeId) : Blk (w.alloc (.cells cs.toArray t)) w.heap.size t cs := Blk_new w cs t
def PathCalls (t : Av) : Prop := ∀ (i g : Nat) (w : World), TreeAt w t g → i < t.many → t.many ≤ 900000 →
    Calls Tryd.prog 68 #[Ptr g, .int .i64 (i : Nat)] w fun e w' => ∃ v, e = .returned v ∧ w'.ownsRow w.heap.size 67 34 v (t.path i).length (stepsC (t.path i)) ∧ Below w.heap.size w w'
theorem path_len_le (t : Av) (i : Nat) : (t.path i).length ≤ t.many := by
  have h1 := t.path_height i
  have h2 := t.height_many
  omega
theorem path_leaf (k v : Str) : PathCalls (.leaf k v) := by
  intro i g w h hi hm
  have HT := Lib.hid h
  clear h hm hi
  go_enter Tryd.func68, Tryd.ntmps68
  go_wp2_with fail
  refine (isleaf_any _ g w HT.out).mono ?_
  rintro e w1 ⟨rfl, rfl⟩
  have hnot : Av.isLeaf (.leaf k v) = true := rfl
  go_wp2
  go_ret
  exact ⟨_, rfl, World.ownsRow_nil _ _ _ _, Below.refl _ _⟩
set_option maxRecDepth 100000 in
set_option maxHeartbeats 2000000 in
theorem path_left (a b : Av) (IHa : Hid (PathCalls a)) (i g : Nat) (w : World) (h : TreeAt w (.node a b) g) (hi : i < a.many) (hm : a.many + b.many ≤ 900000) :
    Calls Tryd.prog 68 #[Ptr g, .int .i64 (i : Nat)] w fun e w' => ∃ v, e = .returned v ∧ w'.ownsRow w.heap.size 67 34 v ((Av.node a b).path i).length (stepsC ((Av.node a b).path i)) ∧ Below w.heap.size w w' := by
  obtain ⟨ga, gb, c2, c3, ha, hb⟩ := node_cells h
  obtain ⟨_, _, b4, b5, csb, hcb, b6⟩ := tree_cells hb
  have a4 := (tree_cells ha).2.2.1
  have hlb : csb.length = 32 := by rw [hcb, List.length_map]; exact b.sum_length
  obtain ⟨am, ham⟩ : ∃ n, a.many = n := ⟨_, rfl⟩
  obtain ⟨bm, hbm⟩ : ∃ n, b.many = n := ⟨_, rfl⟩
  rw [ham] at a4
  rw [hbm] at b4
  have HI := Lib.hid hi
  rw [ham] at hi
  have HTS : Hid (∀ w', Below w.heap.size w w' → w'.cell? ⟨g, 2, none⟩ = some (Ptr ga) ∧ w'.cell? ⟨g, 3, none⟩ = some (Ptr gb)) := Lib.hid fun w' h => ⟨cell_below c2 h, cell_below c3 h⟩
  have HTB : Hid (∀ w', Below w.heap.size w w' → w'.cell? ⟨gb, 4, none⟩ = some (.int .i64 (bm : Nat)) ∧ w'.rangeAt gb 6 csb) := Lib.hid fun w' h => ⟨cell_below b4 h, fun j u hu => cell_below (b6 j u hu) h⟩
  obtain ⟨st, hst⟩ : ∃ st, st = stepC ⟨false, b.many, b.sum⟩ := ⟨_, rfl⟩
  have hst' : Value.bool false :: .int .i64 (bm : Nat) :: csb = st := by rw [hst, hcb, ← hbm]; rfl
  have HBU := Lib.hid (show Tryd.prog.built 67 [(0, .bool false), (1, .int .i64 (bm : Nat)), (2, .agg csb.toArray)] = some st.toArray by rw [← hst']; exact built_step false bm csb hlb)
  have HSL := Lib.hid (show st.length = 34 by rw [hst]; exact stepC_len b.sum_length)
  have HS1 := Lib.hid (show ∀ u ∈ st, u.oneCell' = true by rw [hst]; exact stepC_one _)
  have HML := Lib.hid (show (a.path i).length + 1 ≤ maxLen ∧ ((a.path i).length + 1) * 48 ≤ 140737488355328 by have := path_len_le a i; unfold maxLen; omega)
  have HP : (Av.node a b).path i = a.path i ++ [⟨false, b.many, b.sum⟩] := by rw [Av.path, if_pos HI.out]
  have HEnd : Hid (∀ (w' : World) (v : Value), w'.ownsRow w.heap.size 67 34 v ((a.path i).length + 1) (stepsC (a.path i) ++ st) → w'.ownsRow w.heap.size 67 34 v ((Av.node a b).path i).length (stepsC ((Av.node a b).path i))) := Lib.hid fun w' v ho => by
    rw [HP, stepsC_append, List.length_append]
    rw [hst] at ho
    simpa [stepsC] using ho
  have H0 := Lib.hid h
  have HT := Lib.hid (And.intro ha hb)
  have HM := Lib.hid hm
  have HB : Hid (Below w.heap.size w (w.drewN 1)) := Lib.hid (refl_drewN w 1)
  have j46 : (Tryd.prog.info? 46).map (·.size) = some csb.length := by rw [hlb]; kernel_rfl
  have u46 := Tryd.underlying46
  have hnl : ¬ (am : Int) ≤ (i : Int) := by omega
  have a4' : Hid (w.cell? ⟨ga, 4, none⟩ = some (.int .i64 (am : Nat))) := Lib.hid a4
  clear h hm ha hb c2 c3 b4 b5 b6 hcb hst hst' HP hbm ham hi
  clear hlb a4
  go_enter Tryd.func68, Tryd.ntmps68
  go_wp2_with fail
  refine (isleaf_any _ g w H0.out).mono ?_
  rintro e w1 ⟨rfl, rfl⟩
  have hnot : Av.isLeaf (.node a b) = false := rfl
  go_wp2_with fail
  refine wp_region_held_drew (S := (fun w' => w'.cell? ⟨g, 2, none⟩ = some (Ptr ga) ∧ w'.cell? ⟨g, 3, none⟩ = some (Ptr gb))) (by kernel_rfl) ?qs0 (fun hHeld => ?_)
  case qs0 => exact HTS.out _ HB.out
  refine held_take (i := 0) (v := ?q1v) rfl (by kernel_rfl) (by kernel_rfl) (by kernel_rfl) (fun _ _ _ h => h) (by rfl) ?q1y hHeld ?_
  case q1y => ((intro w _hSw; (try dsimp only at _hSw); go_simp); try (with_reducible rfl))
  try simp only [Act.put, List.setIfInBounds_toArray, List.set_cons_zero, List.set_cons_succ]
  refine held_take (i := 1) (v := ?q2v) rfl (by kernel_rfl) (by kernel_rfl) (by kernel_rfl) (fun _ _ _ h => h) (by rfl) ?q2y hHeld ?_
  case q2y => ((intro w _hSw; (try dsimp only at _hSw); go_simp); try (with_reducible rfl))
  try simp only [Act.put, List.setIfInBounds_toArray, List.set_cons_zero, List.set_cons_succ]
  refine held_take (i := 2) (v := ?q3v) rfl (by kernel_rfl) (by kernel_rfl) (by kernel_rfl) (fun _ _ _ h => h) (by rfl) ?q3y hHeld ?_
  case q3y => ((intro w _hSw; (try dsimp only at _hSw); go_simp); try (with_reducible rfl))
  try simp only [Act.put, List.setIfInBounds_toArray, List.set_cons_zero, List.set_cons_succ]
  refine held_take (i := 3) (v := ?q4v) rfl (by kernel_rfl) (by kernel_rfl) (by kernel_rfl) (fun _ _ _ h => h) (by rfl) ?q4y hHeld ?_
  case q4y => ((intro w _hSw; (try dsimp only at _hSw); go_simp); try (with_reducible rfl))
  try simp only [Act.put, List.setIfInBounds_toArray, List.set_cons_zero, List.set_cons_succ]
  refine held_take (i := 4) (v := ?q5v) rfl (by kernel_rfl) (by kernel_rfl) (by kernel_rfl) (fun _ _ _ h => h) (by rfl) ?q5y hHeld ?_
  case q5y => ((intro w _hSw; (try dsimp only at _hSw); go_simp); try (with_reducible rfl))
  try simp only [Act.put, List.setIfInBounds_toArray, List.set_cons_zero, List.set_cons_succ]
  refine held_take (i := 5) (v := ?q6v) rfl (by kernel_rfl) (by kernel_rfl) (by kernel_rfl) (fun _ _ _ h => h) (by rfl) ?q6y hHeld ?_
  case q6y => ((intro w _hSw; (try dsimp only at _hSw); go_simp); try (with_reducible rfl))
  try simp only [Act.put, List.setIfInBounds_toArray, List.set_cons_zero, List.set_cons_succ]
  refine held_take (i := 6) (v := ?q7v) rfl (by kernel_rfl) (by kernel_rfl) (by kernel_rfl) (fun _ _ _ h => h) (by rfl) ?q7y hHeld ?_
  case q7y => ((intro w _hSw; (try dsimp only at _hSw); go_simp); try (with_reducible rfl))
  try simp only [Act.put, List.setIfInBounds_toArray, List.set_cons_zero, List.set_cons_succ]
  refine held_take (i := 7) (v := ?q8v) rfl (by kernel_rfl) (by kernel_rfl) (by kernel_rfl) (fun _ _ _ h => h) (by rfl) ?q8y hHeld ?_
  case q8y => ((intro w _hSw; (try dsimp only at _hSw); go_simp); try (with_reducible rfl))
  try simp only [Act.put, List.setIfInBounds_toArray, List.set_cons_zero, List.set_cons_succ]
  refine held_take (i := 8) (v := ?q9v) rfl (by kernel_rfl) (by kernel_rfl) (by kernel_rfl) (fun _ _ _ h => h) (by rfl) ?q9y hHeld ?_
  case q9y => ((intro w _hSw; (try dsimp only at _hSw); go_simp); try (with_reducible rfl))
  try simp only [Act.put, List.setIfInBounds_toArray, List.set_cons_zero, List.set_cons_succ]
  refine held_take (i := 9) (v := ?q10v) rfl (by kernel_rfl) (by kernel_rfl) (by kernel_rfl) (fun _ _ _ h => h) (by rfl) ?q10y hHeld ?_
  case q10y => ((intro w _hSw; (try dsimp only at _hSw); go_simp); try (with_reducible rfl))
  try simp only [Act.put, List.setIfInBounds_toArray, List.set_cons_zero, List.set_cons_succ]
  refine held_take (i := 10) (v := ?q11v) rfl (by kernel_rfl) (by kernel_rfl) (by kernel_rfl) (fun _ _ _ h => h) (by rfl) ?q11y hHeld ?_
  case q11y => ((intro w _hSw; (try dsimp only at _hSw); go_simp); try (with_reducible rfl))
  try simp only [Act.put, List.setIfInBounds_toArray, List.set_cons_zero, List.set_cons_succ]
  refine wpAnyH_done (by kernel_rfl) ?_ _
  clear hHeld
  have a4 := a4'.out
  go_wp2_with fail
  clear a4
  have HB := Lib.hid (below_then HB.out HB.out.size (refl_drewN _ 1))
  refine wp_region_held_drew (S := (fun w' => w'.cell? ⟨gb, 4, none⟩ = some (.int .i64 (bm : Nat)) ∧ w'.rangeAt gb 6 csb)) (by kernel_rfl) ?rs0 (fun hHeld => ?_)
  case rs0 => exact HTB.out _ HB.out
  refine held_take (i := 0) (v := ?r1v) rfl (by kernel_rfl) (by kernel_rfl) (by kernel_rfl) (fun _ _ _ h => h) (by rfl) ?r1y hHeld ?_
  case r1y => ((intro w _hSw; (try dsimp only at _hSw); go_simp); try (with_reducible rfl))
  try simp only [Act.put, List.setIfInBounds_toArray, List.set_cons_zero, List.set_cons_succ]
  refine held_take (i := 1) (v := ?r2v) rfl (by kernel_rfl) (by kernel_rfl) (by kernel_rfl) (fun _ _ _ h => h) (by rfl) ?r2y hHeld ?_
  case r2y => ((intro w _hSw; (try dsimp only at _hSw); go_simp); try (with_reducible rfl))
  try simp only [Act.put, List.setIfInBounds_toArray, List.set_cons_zero, List.set_cons_succ]
  refine held_take (i := 3) (v := ?r3v) rfl (by kernel_rfl) (by kernel_rfl) (by kernel_rfl) (fun _ _ _ h => h) (by rfl) ?r3y hHeld ?_
  case r3y => ((intro w _hSw; (try dsimp only at _hSw); go_simp); try (with_reducible rfl))
  try simp only [Act.put, List.setIfInBounds_toArray, List.set_cons_zero, List.set_cons_succ]
  refine held_take (i := 4) (v := ?r4v) rfl (by kernel_rfl) (by kernel_rfl) (by kernel_rfl) (fun _ _ _ h => h) (by rfl) ?r4y hHeld ?_
  case r4y => ((intro w _hSw; (try dsimp only at _hSw); go_simp); try (with_reducible rfl))
  try simp only [Act.put, List.setIfInBounds_toArray, List.set_cons_zero, List.set_cons_succ]
  refine held_take (i := 5) (v := ?r5v) rfl (by kernel_rfl) (by kernel_rfl) (by kernel_rfl) (fun _ _ _ h => h) (by rfl) ?r5y hHeld ?_
  case r5y => ((intro w _hSw; (try dsimp only at _hSw); go_simp); try (with_reducible rfl))
  try simp only [Act.put, List.setIfInBounds_toArray, List.set_cons_zero, List.set_cons_succ]
  refine held_take (i := 6) (v := ?r6v) rfl (by kernel_rfl) (by kernel_rfl) (by kernel_rfl) (fun _ _ _ h => h) (by rfl) ?r6y hHeld ?_
  case r6y => ((intro w _hSw; (try dsimp only at _hSw); go_simp); try (with_reducible rfl))
  try simp only [Act.put, List.setIfInBounds_toArray, List.set_cons_zero, List.set_cons_succ]
  refine held_take (i := 7) (v := ?r7v) rfl (by kernel_rfl) (by kernel_rfl) (by kernel_rfl) (fun _ _ _ h => h) (by rfl) ?r7y hHeld ?_
  case r7y => ((intro w _hSw; (try dsimp only at _hSw); go_simp); try (with_reducible rfl))
  try simp only [Act.put, List.setIfInBounds_toArray, List.set_cons_zero, List.set_cons_succ]
  refine held_take (i := 8) (v := ?r8v) rfl (by kernel_rfl) (by kernel_rfl) (by kernel_rfl) (fun _ _ _ h => h) (by rfl) ?r8y hHeld ?_
  case r8y => ((intro w _hSw; (try dsimp only at _hSw); go_simp); try (with_reducible rfl))
  try simp only [Act.put, List.setIfInBounds_toArray, List.set_cons_zero, List.set_cons_succ]
  refine held_take (i := 9) (v := ?r9v) rfl (by kernel_rfl) (by kernel_rfl) (by kernel_rfl) (fun _ _ _ h => h) (by rfl) ?r9y hHeld ?_
  case r9y => ((intro w _hSw; (try dsimp only at _hSw); go_simp); try (with_reducible rfl))
  try simp only [Act.put, List.setIfInBounds_toArray, List.set_cons_zero, List.set_cons_succ]
  refine held_take (i := 10) (v := ?r10v) rfl (by kernel_rfl) (by kernel_rfl) (by kernel_rfl) (fun _ _ _ h => h) (by rfl) ?r10y hHeld ?_
  case r10y => ((intro w _hSw; (try dsimp only at _hSw); go_simp); try (with_reducible rfl))
  try simp only [Act.put, List.setIfInBounds_toArray, List.set_cons_zero, List.set_cons_succ]
  refine held_row (i := 11) rfl (by kernel_rfl) (by kernel_rfl) (by kernel_rfl) _ _ rfl _ _ rfl ?r11C ?r11D (fun _ _ _ h => h) (by rfl) ?r11a ?r11b ?r11c ?r11d hHeld ?_
  case r11a => (intro w hSw; (try dsimp only at hSw); go_split_ands; assumption)
  case r11b => assumption
  case r11c => rfl
  case r11d => first | assumption | (simp only [*]; done)
  try simp only [Act.put, List.setIfInBounds_toArray, List.set_cons_zero, List.set_cons_succ]
  refine held_take (i := 12) (v := (.agg st.toArray)) rfl (by kernel_rfl) (by kernel_rfl) (by kernel_rfl) (fun _ _ _ h => h) (by rfl) ?r12y hHeld ?_
  case r12y => (intro w _hSw; exact exec_built 67 _ rfl _ _ HBU.out (by rfl))
  try simp only [Act.put, List.setIfInBounds_toArray, List.set_cons_zero, List.set_cons_succ]
  refine held_two (i := 2) (j := 13) rfl rfl (by kernel_rfl) (by rfl) (by rfl) (fun K hK => ?_) (fun K hK => ?_)
  · skip
    go_simp
    refine (IHa.out i ga _ (HT.out.1.below HB.out) HI.out (by have := HM.out; omega)).mono ?_
    rintro e wc ⟨v, rfl, ho, hb⟩
    have HO := Lib.hid (own_mono ho HB.out.size)
    try have HR := Lib.hid (HR.out.below hb)
    have HB := Lib.hid (below_then HB.out HB.out.size hb)
    clear ho hb
    go_wp2_with fail
    have hHeld := HTB.out _ HB.out
    refine hK.out _ _ (HTB.out _ HB.out) ?_
    clear hK K
    try simp only [Act.put, List.setIfInBounds_toArray, List.set_cons_zero, List.set_cons_succ]
    refine held_step (i := 13) rfl (by kernel_rfl) (by rfl) (fun K hK => ?_)
    refine wp_row1 tSt (.tmp 44) rfl st rfl HSL.out (by decide) ?_
    have HR := Lib.hid (blk_new_at HB.out st 67)
    try have HO := Lib.hid (own_below HO.out ((Below.refl _ _).alloc (Nat.le_refl _) (.cells st.toArray 67)))
    have HB := Lib.hid (HB.out.alloc HB.out.size (.cells st.toArray 67))
    have hHeld := HTB.out _ HB.out
    refine hK.out _ _ (HTB.out _ HB.out) ?_
    clear hK K
    (try simp only [Act.put]); (try simp only [List.setIfInBounds_toArray]); (try simp only [List.set_cons_succ]); (try simp only [List.set_cons_zero])
    refine held_step (i := 14) rfl (by kernel_rfl) (by rfl) (fun K hK => ?_)
    refine wp_app0 tSt (.tmp 34) (.tmp 45) rfl _ _ _ (stepsC (a.path i)) rfl HO.out _ 1 1 st rfl HR.out.rd0 HSL.out HS1.out HML.out.1 HML.out.2 HB.out.size ?_
    intro v6 wc ho6 hx6
    have HB := Lib.hid (HB.out.grown hx6.grown HB.out.size (fun q e => (HO.out.lt q e).1))
    have HR6 := Lib.hid ho6
    clear ho6 hx6
    have hHeld := HTB.out _ HB.out
    refine hK.out _ _ (HTB.out _ HB.out) ?_
    clear hK K
    (try simp only [Act.put]); (try simp only [List.setIfInBounds_toArray]); (try simp only [List.set_cons_succ]); (try simp only [List.set_cons_zero])
    refine held_take (i := 15) (v := ?r13v) rfl (by kernel_rfl) (by kernel_rfl) (by kernel_rfl) (fun _ _ _ h => h) (by rfl) ?r13y hHeld ?_
    case r13y => ((intro w _hSw; (try dsimp only at _hSw); go_simp); try (with_reducible rfl))
    try simp only [Act.put, List.setIfInBounds_toArray, List.set_cons_zero, List.set_cons_succ]
    refine wpAnyH_done (by kernel_rfl) ?_ _
    go_wp2
    go_ret
    exact ⟨_, rfl, HEnd.out _ _ HR6.out, HB.out⟩
  · skip
    refine wp_row1 tSt (.tmp 44) rfl st rfl HSL.out (by decide) ?_
    have HR := Lib.hid (blk_new_at HB.out st 67)
    try have HO := Lib.hid (own_below HO.out ((Below.refl _ _).alloc (Nat.le_refl _) (.cells st.toArray 67)))
    have HB := Lib.hid (HB.out.alloc HB.out.size (.cells st.toArray 67))
    have hHeld := HTB.out _ HB.out
    refine hK.out _ _ (HTB.out _ HB.out) ?_
    clear hK K
    (try simp only [Act.put]); (try simp only [List.setIfInBounds_toArray]); (try simp only [List.set_cons_succ]); (try simp only [List.set_cons_zero])
    refine held_step (i := 2) rfl (by kernel_rfl) (by rfl) (fun K hK => ?_)
    go_simp
    refine (IHa.out i ga _ (HT.out.1.below HB.out) HI.out (by have := HM.out; omega)).mono ?_
    rintro e wc ⟨v, rfl, ho, hb⟩
    have HO := Lib.hid (own_mono ho HB.out.size)
    try have HR := Lib.hid (HR.out.below hb)
    have HB := Lib.hid (below_then HB.out HB.out.size hb)
    clear ho hb
    go_wp2_with fail
    have hHeld := HTB.out _ HB.out
    refine hK.out _ _ (HTB.out _ HB.out) ?_
    clear hK K
    try simp only [Act.put, List.setIfInBounds_toArray, List.set_cons_zero, List.set_cons_succ]
    refine held_step (i := 14) rfl (by kernel_rfl) (by rfl) (fun K hK => ?_)
    refine wp_app0 tSt (.tmp 34) (.tmp 45) rfl _ _ _ (stepsC (a.path i)) rfl HO.out _ 1 1 st rfl HR.out.rd0 HSL.out HS1.out HML.out.1 HML.out.2 HB.out.size ?_
    intro v6 wc ho6 hx6
    have HB := Lib.hid (HB.out.grown hx6.grown HB.out.size (fun q e => (HO.out.lt q e).1))
    have HR6 := Lib.hid ho6
    clear ho6 hx6
    have hHeld := HTB.out _ HB.out
    refine hK.out _ _ (HTB.out _ HB.out) ?_
    clear hK K
    (try simp only [Act.put]); (try simp only [List.setIfInBounds_toArray]); (try simp only [List.set_cons_succ]); (try simp only [List.set_cons_zero])
    refine held_take (i := 15) (v := ?r14v) rfl (by kernel_rfl) (by kernel_rfl) (by kernel_rfl) (fun _ _ _ h => h) (by rfl) ?r14y hHeld ?_
    case r14y => ((intro w _hSw; (try dsimp only at _hSw); go_simp); try (with_reducible rfl))
    try simp only [Act.put, List.setIfInBounds_toArray, List.set_cons_zero, List.set_cons_succ]
    refine wpAnyH_done (by kernel_rfl) ?_ _
    go_wp2
    go_ret
    exact ⟨_, rfl, HEnd.out _ _ HR6.out, HB.out⟩
set_option maxRecDepth 100000 in
set_option maxHeartbeats 2000000 in
theorem path_right (a b : Av) (IHb : Hid (PathCalls b)) (i g : Nat) (w : World) (h : TreeAt w (.node a b) g) (hi : ¬ i < a.many) (hi2 : i - a.many < b.many) (hm : a.many + b.many ≤ 900000) :
    Calls Tryd.prog 68 #[Ptr g, .int .i64 (i : Nat)] w fun e w' => ∃ v, e = .returned v ∧ w'.ownsRow w.heap.size 67 34 v ((Av.node a b).path i).length (stepsC ((Av.node a b).path i)) ∧ Below w.heap.size w w' := by
  obtain ⟨ga, gb, c2, c3, ha, hb⟩ := node_cells h
  obtain ⟨_, _, a4, a5, csa, hca, a6⟩ := tree_cells ha
  have hla : csa.length = 32 := by rw [hca, List.length_map]; exact a.sum_length
  have hpe : (Av.node a b).path i = b.path (i - a.many) ++ [⟨true, a.many, a.sum⟩] := by rw [Av.path, if_neg hi]
  obtain ⟨st, hst⟩ : ∃ st, st = stepC ⟨true, a.many, a.sum⟩ := ⟨_, rfl⟩
  obtain ⟨am, ham⟩ : ∃ n, a.many = n := ⟨_, rfl⟩
  rw [ham] at a4 hi hi2 hpe hst hm
  have HI := Lib.hid hi2
  have HTS : Hid (∀ w', Below w.heap.size w w' → w'.cell? ⟨g, 2, none⟩ = some (Ptr ga) ∧ w'.cell? ⟨g, 3, none⟩ = some (Ptr gb)) := Lib.hid fun w' h => ⟨cell_below c2 h, cell_below c3 h⟩
  have HTB : Hid (∀ w', Below w.heap.size w w' → w'.cell? ⟨ga, 4, none⟩ = some (.int .i64 (am : Nat)) ∧ w'.rangeAt ga 6 csa) := Lib.hid fun w' h => ⟨cell_below a4 h, fun j u hu => cell_below (a6 j u hu) h⟩
  have hst' : Value.bool true :: .int .i64 (am : Nat) :: csa = st := by rw [hst, hca]; rfl
  have HBU := Lib.hid (show Tryd.prog.built 67 [(0, .bool true), (1, .int .i64 (am : Nat)), (2, .agg csa.toArray)] = some st.toArray by rw [← hst']; exact built_step true am csa hla)
  have HSL := Lib.hid (show st.length = 34 by rw [hst]; exact stepC_len a.sum_length)
  have HS1 := Lib.hid (show ∀ u ∈ st, u.oneCell' = true by rw [hst]; exact stepC_one _)
  have HML := Lib.hid (show (b.path (i - am)).length + 1 ≤ maxLen ∧ ((b.path (i - am)).length + 1) * 48 ≤ 140737488355328 by have := path_len_le b (i - am); unfold maxLen; omega)
  have HEnd : Hid (∀ (w' : World) (v : Value), w'.ownsRow w.heap.size 67 34 v ((b.path (i - am)).length + 1) (stepsC (b.path (i - am)) ++ st) → w'.ownsRow w.heap.size 67 34 v ((Av.node a b).path i).length (stepsC ((Av.node a b).path i))) := Lib.hid fun w' v ho => by
    rw [hpe, stepsC_append, List.length_append]
    rw [hst] at ho
    simpa [stepsC] using ho
  have H0 := Lib.hid h
  have HT := Lib.hid (And.intro ha hb)
  have HM := Lib.hid hm
  have HB : Hid (Below w.heap.size w (w.drewN 1)) := Lib.hid (refl_drewN w 1)
  have j46 : (Tryd.prog.info? 46).map (·.size) = some csa.length := by rw [hla]; kernel_rfl
  have u46 := Tryd.underlying46
  have hnl : (am : Int) ≤ (i : Int) := by omega
  have hsub : wrap64 ((i : Int) - (am : Int)) = ((i - am : Nat) : Int) := by rw [IntWalk.wrap64_in _ ⟨by omega, by omega⟩]; omega
  have HSB := Lib.hid hsub
  have a4' : Hid (w.cell? ⟨ga, 4, none⟩ = some (.int .i64 (am : Nat))) := Lib.hid a4
  clear h hm ha hb c2 c3 a4 a5 a6 hca hst hst' hpe ham hi hi2 hsub hla
  go_enter Tryd.func68, Tryd.ntmps68
  go_wp2_with fail
  refine (isleaf_any _ g w H0.out).mono ?_
  rintro e w1 ⟨rfl, rfl⟩
  have hnot : Av.isLeaf (.node a b) = false := rfl
  go_wp2_with fail
  refine wp_region_held_drew (S := (fun w' => w'.cell? ⟨g, 2, none⟩ = some (Ptr ga) ∧ w'.cell? ⟨g, 3, none⟩ = some (Ptr gb))) (by kernel_rfl) ?qs0 (fun hHeld => ?_)
  case qs0 => exact HTS.out _ HB.out
  refine held_take (i := 0) (v := ?q1v) rfl (by kernel_rfl) (by kernel_rfl) (by kernel_rfl) (fun _ _ _ h => h) (by rfl) ?q1y hHeld ?_
  case q1y => ((intro w _hSw; (try dsimp only at _hSw); go_simp); try (with_reducible rfl))
  try simp only [Act.put, List.setIfInBounds_toArray, List.set_cons_zero, List.set_cons_succ]
  refine held_take (i := 1) (v := ?q2v) rfl (by kernel_rfl) (by kernel_rfl) (by kernel_rfl) (fun _ _ _ h => h) (by rfl) ?q2y hHeld ?_
  case q2y => ((intro w _hSw; (try dsimp only at _hSw); go_simp); try (with_reducible rfl))
  try simp only [Act.put, List.setIfInBounds_toArray, List.set_cons_zero, List.set_cons_succ]
  refine held_take (i := 2) (v := ?q3v) rfl (by kernel_rfl) (by kernel_rfl) (by kernel_rfl) (fun _ _ _ h => h) (by rfl) ?q3y hHeld ?_
  case q3y => ((intro w _hSw; (try dsimp only at _hSw); go_simp); try (with_reducible rfl))
  try simp only [Act.put, List.setIfInBounds_toArray, List.set_cons_zero, List.set_cons_succ]
  refine held_take (i := 3) (v := ?q4v) rfl (by kernel_rfl) (by kernel_rfl) (by kernel_rfl) (fun _ _ _ h => h) (by rfl) ?q4y hHeld ?_
  case q4y => ((intro w _hSw; (try dsimp only at _hSw); go_simp); try (with_reducible rfl))
  try simp only [Act.put, List.setIfInBounds_toArray, List.set_cons_zero, List.set_cons_succ]
  refine held_take (i := 4) (v := ?q5v) rfl (by kernel_rfl) (by kernel_rfl) (by kernel_rfl) (fun _ _ _ h => h) (by rfl) ?q5y hHeld ?_
  case q5y => ((intro w _hSw; (try dsimp only at _hSw); go_simp); try (with_reducible rfl))
  try simp only [Act.put, List.setIfInBounds_toArray, List.set_cons_zero, List.set_cons_succ]
  refine held_take (i := 5) (v := ?q6v) rfl (by kernel_rfl) (by kernel_rfl) (by kernel_rfl) (fun _ _ _ h => h) (by rfl) ?q6y hHeld ?_
  case q6y => ((intro w _hSw; (try dsimp only at _hSw); go_simp); try (with_reducible rfl))
  try simp only [Act.put, List.setIfInBounds_toArray, List.set_cons_zero, List.set_cons_succ]
  refine held_take (i := 6) (v := ?q7v) rfl (by kernel_rfl) (by kernel_rfl) (by kernel_rfl) (fun _ _ _ h => h) (by rfl) ?q7y hHeld ?_
  case q7y => ((intro w _hSw; (try dsimp only at _hSw); go_simp); try (with_reducible rfl))
  try simp only [Act.put, List.setIfInBounds_toArray, List.set_cons_zero, List.set_cons_succ]
  refine held_take (i := 7) (v := ?q8v) rfl (by kernel_rfl) (by kernel_rfl) (by kernel_rfl) (fun _ _ _ h => h) (by rfl) ?q8y hHeld ?_
  case q8y => ((intro w _hSw; (try dsimp only at _hSw); go_simp); try (with_reducible rfl))
  try simp only [Act.put, List.setIfInBounds_toArray, List.set_cons_zero, List.set_cons_succ]
  refine held_take (i := 8) (v := ?q9v) rfl (by kernel_rfl) (by kernel_rfl) (by kernel_rfl) (fun _ _ _ h => h) (by rfl) ?q9y hHeld ?_
  case q9y => ((intro w _hSw; (try dsimp only at _hSw); go_simp); try (with_reducible rfl))
  try simp only [Act.put, List.setIfInBounds_toArray, List.set_cons_zero, List.set_cons_succ]
  refine held_take (i := 9) (v := ?q10v) rfl (by kernel_rfl) (by kernel_rfl) (by kernel_rfl) (fun _ _ _ h => h) (by rfl) ?q10y hHeld ?_
  case q10y => ((intro w _hSw; (try dsimp only at _hSw); go_simp); try (with_reducible rfl))
  try simp only [Act.put, List.setIfInBounds_toArray, List.set_cons_zero, List.set_cons_succ]
  refine held_take (i := 10) (v := ?q11v) rfl (by kernel_rfl) (by kernel_rfl) (by kernel_rfl) (fun _ _ _ h => h) (by rfl) ?q11y hHeld ?_
  case q11y => ((intro w _hSw; (try dsimp only at _hSw); go_simp); try (with_reducible rfl))
  try simp only [Act.put, List.setIfInBounds_toArray, List.set_cons_zero, List.set_cons_succ]
  refine wpAnyH_done (by kernel_rfl) ?_ _
  clear hHeld
  have a4 := a4'.out
  go_wp2_with fail
  rw [HSB.out]
  clear a4
  have HB := Lib.hid (below_then HB.out HB.out.size (refl_drewN _ 1))
  refine wp_region_held_drew (S := (fun w' => w'.cell? ⟨ga, 4, none⟩ = some (.int .i64 (am : Nat)) ∧ w'.rangeAt ga 6 csa)) (by kernel_rfl) ?rs0 (fun hHeld => ?_)
  case rs0 => exact HTB.out _ HB.out
  refine held_take (i := 0) (v := ?r1v) rfl (by kernel_rfl) (by kernel_rfl) (by kernel_rfl) (fun _ _ _ h => h) (by rfl) ?r1y hHeld ?_
  case r1y => ((intro w _hSw; (try dsimp only at _hSw); go_simp); try (with_reducible rfl))
  try simp only [Act.put, List.setIfInBounds_toArray, List.set_cons_zero, List.set_cons_succ]
  refine held_take (i := 1) (v := ?r2v) rfl (by kernel_rfl) (by kernel_rfl) (by kernel_rfl) (fun _ _ _ h => h) (by rfl) ?r2y hHeld ?_
  case r2y => ((intro w _hSw; (try dsimp only at _hSw); go_simp); try (with_reducible rfl))
  try simp only [Act.put, List.setIfInBounds_toArray, List.set_cons_zero, List.set_cons_succ]
  refine held_take (i := 3) (v := ?r3v) rfl (by kernel_rfl) (by kernel_rfl) (by kernel_rfl) (fun _ _ _ h => h) (by rfl) ?r3y hHeld ?_
  case r3y => ((intro w _hSw; (try dsimp only at _hSw); go_simp); try (with_reducible rfl))
  try simp only [Act.put, List.setIfInBounds_toArray, List.set_cons_zero, List.set_cons_succ]
  refine held_take (i := 4) (v := ?r4v) rfl (by kernel_rfl) (by kernel_rfl) (by kernel_rfl) (fun _ _ _ h => h) (by rfl) ?r4y hHeld ?_
  case r4y => ((intro w _hSw; (try dsimp only at _hSw); go_simp); try (with_reducible rfl))
  try simp only [Act.put, List.setIfInBounds_toArray, List.set_cons_zero, List.set_cons_succ]
  refine held_take (i := 5) (v := ?r5v) rfl (by kernel_rfl) (by kernel_rfl) (by kernel_rfl) (fun _ _ _ h => h) (by rfl) ?r5y hHeld ?_
  case r5y => ((intro w _hSw; (try dsimp only at _hSw); go_simp); try (with_reducible rfl))
  try simp only [Act.put, List.setIfInBounds_toArray, List.set_cons_zero, List.set_cons_succ]
  refine held_take (i := 6) (v := ?r6v) rfl (by kernel_rfl) (by kernel_rfl) (by kernel_rfl) (fun _ _ _ h => h) (by rfl) ?r6y hHeld ?_
  case r6y => ((intro w _hSw; (try dsimp only at _hSw); go_simp); try (with_reducible rfl))
  try simp only [Act.put, List.setIfInBounds_toArray, List.set_cons_zero, List.set_cons_succ]
  refine held_take (i := 7) (v := ?r7v) rfl (by kernel_rfl) (by kernel_rfl) (by kernel_rfl) (fun _ _ _ h => h) (by rfl) ?r7y hHeld ?_
  case r7y => ((intro w _hSw; (try dsimp only at _hSw); go_simp); try (with_reducible rfl))
  try simp only [Act.put, List.setIfInBounds_toArray, List.set_cons_zero, List.set_cons_succ]
  refine held_take (i := 8) (v := ?r8v) rfl (by kernel_rfl) (by kernel_rfl) (by kernel_rfl) (fun _ _ _ h => h) (by rfl) ?r8y hHeld ?_
  case r8y => ((intro w _hSw; (try dsimp only at _hSw); go_simp); try (with_reducible rfl))
  try simp only [Act.put, List.setIfInBounds_toArray, List.set_cons_zero, List.set_cons_succ]
  refine held_take (i := 9) (v := ?r9v) rfl (by kernel_rfl) (by kernel_rfl) (by kernel_rfl) (fun _ _ _ h => h) (by rfl) ?r9y hHeld ?_
  case r9y => ((intro w _hSw; (try dsimp only at _hSw); go_simp); try (with_reducible rfl))
  try simp only [Act.put, List.setIfInBounds_toArray, List.set_cons_zero, List.set_cons_succ]
  refine held_take (i := 10) (v := ?r10v) rfl (by kernel_rfl) (by kernel_rfl) (by kernel_rfl) (fun _ _ _ h => h) (by rfl) ?r10y hHeld ?_
  case r10y => ((intro w _hSw; (try dsimp only at _hSw); go_simp); try (with_reducible rfl))
  try simp only [Act.put, List.setIfInBounds_toArray, List.set_cons_zero, List.set_cons_succ]
  refine held_row (i := 11) rfl (by kernel_rfl) (by kernel_rfl) (by kernel_rfl) _ _ rfl _ _ rfl ?r11C ?r11D (fun _ _ _ h => h) (by rfl) ?r11a ?r11b ?r11c ?r11d hHeld ?_
  case r11a => (intro w hSw; (try dsimp only at hSw); go_split_ands; assumption)
  case r11b => assumption
  case r11c => rfl
  case r11d => first | assumption | (simp only [*]; done)
  try simp only [Act.put, List.setIfInBounds_toArray, List.set_cons_zero, List.set_cons_succ]
  refine held_take (i := 12) (v := (.agg st.toArray)) rfl (by kernel_rfl) (by kernel_rfl) (by kernel_rfl) (fun _ _ _ h => h) (by rfl) ?r12y hHeld ?_
  case r12y => (intro w _hSw; exact exec_built 67 _ rfl _ _ HBU.out (by rfl))
  try simp only [Act.put, List.setIfInBounds_toArray, List.set_cons_zero, List.set_cons_succ]
  refine held_two (i := 2) (j := 13) rfl rfl (by kernel_rfl) (by rfl) (by rfl) (fun K hK => ?_) (fun K hK => ?_)
  · skip
    go_simp
    refine (IHb.out (i - am) gb _ (HT.out.2.below HB.out) HI.out (by have := HM.out; omega)).mono ?_
    rintro e wc ⟨v, rfl, ho, hb⟩
    have HO := Lib.hid (own_mono ho HB.out.size)
    try have HR := Lib.hid (HR.out.below hb)
    have HB := Lib.hid (below_then HB.out HB.out.size hb)
    clear ho hb
    go_wp2_with fail
    have hHeld := HTB.out _ HB.out
    refine hK.out _ _ (HTB.out _ HB.out) ?_
    clear hK K
    try simp only [Act.put, List.setIfInBounds_toArray, List.set_cons_zero, List.set_cons_succ]
    refine held_step (i := 13) rfl (by kernel_rfl) (by rfl) (fun K hK => ?_)
    refine wp_row1 tSt (.tmp 44) rfl st rfl HSL.out (by decide) ?_
    have HR := Lib.hid (blk_new_at HB.out st 67)
    try have HO := Lib.hid (own_below HO.out ((Below.refl _ _).alloc (Nat.le_refl _) (.cells st.toArray 67)))
    have HB := Lib.hid (HB.out.alloc HB.out.size (.cells st.toArray 67))
    have hHeld := HTB.out _ HB.out
    refine hK.out _ _ (HTB.out _ HB.out) ?_
    clear hK K
    (try simp only [Act.put]); (try simp only [List.setIfInBounds_toArray]); (try simp only [List.set_cons_succ]); (try simp only [List.set_cons_zero])
    refine held_step (i := 14) rfl (by kernel_rfl) (by rfl) (fun K hK => ?_)
    refine wp_app0 tSt (.tmp 34) (.tmp 45) rfl _ _ _ (stepsC (b.path (i - am))) rfl HO.out _ 1 1 st rfl HR.out.rd0 HSL.out HS1.out HML.out.1 HML.out.2 HB.out.size ?_
    intro v6 wc ho6 hx6
    have HB := Lib.hid (HB.out.grown hx6.grown HB.out.size (fun q e => (HO.out.lt q e).1))
    have HR6 := Lib.hid ho6
    clear ho6 hx6
    have hHeld := HTB.out _ HB.out
    refine hK.out _ _ (HTB.out _ HB.out) ?_
    clear hK K
    (try simp only [Act.put]); (try simp only [List.setIfInBounds_toArray]); (try simp only [List.set_cons_succ]); (try simp only [List.set_cons_zero])
    refine held_take (i := 15) (v := ?r13v) rfl (by kernel_rfl) (by kernel_rfl) (by kernel_rfl) (fun _ _ _ h => h) (by rfl) ?r13y hHeld ?_
    case r13y => ((intro w _hSw; (try dsimp only at _hSw); go_simp); try (with_reducible rfl))
    try simp only [Act.put, List.setIfInBounds_toArray, List.set_cons_zero, List.set_cons_succ]
    refine wpAnyH_done (by kernel_rfl) ?_ _
    go_wp2
    go_ret
    exact ⟨_, rfl, HEnd.out _ _ HR6.out, HB.out⟩
  · skip
    refine wp_row1 tSt (.tmp 44) rfl st rfl HSL.out (by decide) ?_
    have HR := Lib.hid (blk_new_at HB.out st 67)
    try have HO := Lib.hid (own_below HO.out ((Below.refl _ _).alloc (Nat.le_refl _) (.cells st.toArray 67)))
    have HB := Lib.hid (HB.out.alloc HB.out.size (.cells st.toArray 67))
    have hHeld := HTB.out _ HB.out
    refine hK.out _ _ (HTB.out _ HB.out) ?_
    clear hK K
    (try simp only [Act.put]); (try simp only [List.setIfInBounds_toArray]); (try simp only [List.set_cons_succ]); (try simp only [List.set_cons_zero])
    refine held_step (i := 2) rfl (by kernel_rfl) (by rfl) (fun K hK => ?_)
    go_simp
    refine (IHb.out (i - am) gb _ (HT.out.2.below HB.out) HI.out (by have := HM.out; omega)).mono ?_
    rintro e wc ⟨v, rfl, ho, hb⟩
    have HO := Lib.hid (own_mono ho HB.out.size)
    try have HR := Lib.hid (HR.out.below hb)
    have HB := Lib.hid (below_then HB.out HB.out.size hb)
    clear ho hb
    go_wp2_with fail
    have hHeld := HTB.out _ HB.out
    refine hK.out _ _ (HTB.out _ HB.out) ?_
    clear hK K
    try simp only [Act.put, List.setIfInBounds_toArray, List.set_cons_zero, List.set_cons_succ]
    refine held_step (i := 14) rfl (by kernel_rfl) (by rfl) (fun K hK => ?_)
    refine wp_app0 tSt (.tmp 34) (.tmp 45) rfl _ _ _ (stepsC (b.path (i - am))) rfl HO.out _ 1 1 st rfl HR.out.rd0 HSL.out HS1.out HML.out.1 HML.out.2 HB.out.size ?_
    intro v6 wc ho6 hx6
    have HB := Lib.hid (HB.out.grown hx6.grown HB.out.size (fun q e => (HO.out.lt q e).1))
    have HR6 := Lib.hid ho6
    clear ho6 hx6
    have hHeld := HTB.out _ HB.out
    refine hK.out _ _ (HTB.out _ HB.out) ?_
    clear hK K
    (try simp only [Act.put]); (try simp only [List.setIfInBounds_toArray]); (try simp only [List.set_cons_succ]); (try simp only [List.set_cons_zero])
    refine held_take (i := 15) (v := ?r14v) rfl (by kernel_rfl) (by kernel_rfl) (by kernel_rfl) (fun _ _ _ h => h) (by rfl) ?r14y hHeld ?_
    case r14y => ((intro w _hSw; (try dsimp only at _hSw); go_simp); try (with_reducible rfl))
    try simp only [Act.put, List.setIfInBounds_toArray, List.set_cons_zero, List.set_cons_succ]
    refine wpAnyH_done (by kernel_rfl) ?_ _
    go_wp2
    go_ret
    exact ⟨_, rfl, HEnd.out _ _ HR6.out, HB.out⟩
theorem path_tree : ∀ t : Av, PathCalls t
  | .leaf k v => path_leaf k v
  | .node a b => fun i g w h hi hm => by
    simp only [Av.many] at hi hm
    by_cases hl : i < a.many
    · exact path_left a b (Lib.hid (path_tree a)) i g w h hl hm
    · exact path_right a b (Lib.hid (path_tree b)) i g w h hl (by omega) hm
end Go.Proofs.YtdekealpachhmaaDoor
