/- Layer 7: node by its contract. -/
import Derived.Test.YtdekealpachhmaaDoorAvN
namespace Go.Proofs.YtdekealpachhmaaDoor
open Go Go.RowKit Go.Isth

set_option maxRecDepth 100000 in
set_option maxHeartbeats 4000000 in
theorem node_any (a b : Av) (ga gb : Nat) (w : World) (ha : TreeAt w a ga) (hb : TreeAt w b gb) (hma : a.many ≤ 1000000) (hmb : b.many ≤ 1000000) (hha : a.height ≤ 1000000) (hhb : b.height ≤ 1000000) (ht : TabLaid w) :
    Calls Tryd.prog 75 #[Ptr ga, Ptr gb] w fun e w' => ∃ g, e = .returned (Ptr g) ∧ TreeAt w' (.node a b) g ∧ w.heap.size ≤ g ∧ Below w.heap.size w w' := by
  obtain ⟨_, _, a4, a5, csa, hca, a6⟩ := tree_cells ha
  obtain ⟨_, _, b4, b5, csb, hcb, b6⟩ := tree_cells hb
  obtain ⟨am, ham⟩ : ∃ n, a.many = n := ⟨_, rfl⟩
  obtain ⟨bm, hbm⟩ : ∃ n, b.many = n := ⟨_, rfl⟩
  obtain ⟨ah, hah⟩ : ∃ n, a.height = n := ⟨_, rfl⟩
  obtain ⟨bh, hbh⟩ : ∃ n, b.height = n := ⟨_, rfl⟩
  rw [ham] at a4 hma
  rw [hbm] at b4 hmb
  rw [hah] at a5 hha
  rw [hbh] at b5 hhb
  obtain ⟨cs, hcs⟩ : ∃ cs, cs = (avNode am a.sum bm b.sum).map B := ⟨_, rfl⟩
  have hla : csa.length = 32 := by rw [hca, List.length_map]; exact a.sum_length
  have hlb : csb.length = 32 := by rw [hcb, List.length_map]; exact b.sum_length
  have hcl : cs.length = 32 := by rw [hcs, List.length_map, avNode_length]
  have HTS : Hid (∀ w', Below w.heap.size w w' → w'.cell? ⟨ga, 4, none⟩ = some (.int .i64 (am : Nat)) ∧ w'.cell? ⟨ga, 5, none⟩ = some (.int .i64 (ah : Nat)) ∧ w'.cell? ⟨gb, 4, none⟩ = some (.int .i64 (bm : Nat)) ∧ w'.cell? ⟨gb, 5, none⟩ = some (.int .i64 (bh : Nat)) ∧ w'.rangeAt ga 6 csa ∧ w'.rangeAt gb 6 csb) := Lib.hid fun w' h => by
    have h1 := tree_cells (ha.below h)
    have h2 := tree_cells (hb.below h)
    rw [ham, hah, ← hca] at h1
    rw [hbm, hbh, ← hcb] at h2
    obtain ⟨_, _, x4, x5, _, rfl, x6⟩ := h1
    obtain ⟨_, _, y4, y5, _, rfl, y6⟩ := h2
    exact ⟨x4, x5, y4, y5, x6, y6⟩
  obtain ⟨mx, hmx⟩ : ∃ n, n = max ah bh := ⟨_, rfl⟩
  obtain ⟨ab, hab⟩ : ∃ n, n = am + bm := ⟨_, rfl⟩
  obtain ⟨hh, hhh⟩ : ∃ n, n = 1 + mx := ⟨_, rfl⟩
  have HW := Lib.hid (And.intro (show IntKind.i64.wrap ((am : Int) + (bm : Int)) = ((ab : Nat) : Int) by rw [IntWalk.i64_in ((am : Int) + (bm : Int)) ⟨by omega, by omega⟩]; omega) (And.intro (show IntKind.i64.wrap (1 + (mx : Int)) = ((hh : Nat) : Int) by rw [IntWalk.i64_in (1 + (mx : Int)) ⟨by omega, by omega⟩]; omega) (show (if ah < bh then (bh : Int) else (ah : Int)) = (mx : Int) by split <;> omega)))
  have HBU := Lib.hid (built_tree ⟨b.least.toArray⟩ (some ⟨ga, 0, none⟩) (some ⟨gb, 0, none⟩) ((ab : Nat) : Int) ((hh : Nat) : Int) cs hcl)
  have HE := Lib.hid (And.intro hab (And.intro hhh hmx))
  clear hab hhh
  clear hmx
  have HT := Lib.hid (And.intro ha (And.intro hb ht))
  have HC := Lib.hid (And.intro hca (And.intro hcb (And.intro hcs (And.intro hma (And.intro hmb (And.intro hha (And.intro hhb (And.intro ham (And.intro hbm (And.intro hah hbh))))))))))
  have i46 : (Tryd.prog.info? 46).map (·.size) = some csa.length := by rw [hla]; kernel_rfl
  have j46 : (Tryd.prog.info? 46).map (·.size) = some csb.length := by rw [hlb]; kernel_rfl
  have u46 := Tryd.underlying46
  have HB : Hid (Below w.heap.size w (w.drewN 1)) := Lib.hid (refl_drewN w 1)
  clear ha hb ht hca hcb hcs hma hmb hha hhb ham hbm hah hbh a4 a5 a6 b4 b5 b6
  go_enter Tryd.func75, Tryd.ntmps75
  go_wp2_with fail
  refine wp_region_held_drew (S := (fun w' => w'.cell? ⟨ga, 4, none⟩ = some (.int .i64 (am : Nat)) ∧ w'.cell? ⟨ga, 5, none⟩ = some (.int .i64 (ah : Nat)) ∧ w'.cell? ⟨gb, 4, none⟩ = some (.int .i64 (bm : Nat)) ∧ w'.cell? ⟨gb, 5, none⟩ = some (.int .i64 (bh : Nat)) ∧ w'.rangeAt ga 6 csa ∧ w'.rangeAt gb 6 csb)) (by kernel_rfl) ?qs0 (fun hHeld => ?_)
  case qs0 => exact HTS.out _ (refl_drewN _ 1)
  refine held_take (i := 0) (v := ?q1v) rfl (by kernel_rfl) (by kernel_rfl) (by kernel_rfl) (fun _ _ _ h => h) (by rfl) ?q1y hHeld ?_
  case q1y => ((intro w _hSw; (try dsimp only at _hSw); go_simp); try (with_reducible rfl))
  try simp only [Act.put, List.setIfInBounds_toArray, List.set_cons_zero, List.set_cons_succ]
  refine held_take (i := 2) (v := ?q2v) rfl (by kernel_rfl) (by kernel_rfl) (by kernel_rfl) (fun _ _ _ h => h) (by rfl) ?q2y hHeld ?_
  case q2y => ((intro w _hSw; (try dsimp only at _hSw); go_simp); try (with_reducible rfl))
  try simp only [Act.put, List.setIfInBounds_toArray, List.set_cons_zero, List.set_cons_succ]
  refine held_take (i := 3) (v := ?q3v) rfl (by kernel_rfl) (by kernel_rfl) (by kernel_rfl) (fun _ _ _ h => h) (by rfl) ?q3y hHeld ?_
  case q3y => ((intro w _hSw; (try dsimp only at _hSw); go_simp); try (with_reducible rfl))
  try simp only [Act.put, List.setIfInBounds_toArray, List.set_cons_zero, List.set_cons_succ]
  refine held_take (i := 4) (v := ?q4v) rfl (by kernel_rfl) (by kernel_rfl) (by kernel_rfl) (fun _ _ _ h => h) (by rfl) ?q4y hHeld ?_
  case q4y => ((intro w _hSw; (try dsimp only at _hSw); go_simp); try (with_reducible rfl))
  try simp only [Act.put, List.setIfInBounds_toArray, List.set_cons_zero, List.set_cons_succ]
  refine held_take (i := 5) (v := ?q5v) rfl (by kernel_rfl) (by kernel_rfl) (by kernel_rfl) (fun _ _ _ h => h) (by rfl) ?q5y hHeld ?_
  case q5y => ((intro w _hSw; (try dsimp only at _hSw); go_simp); try (with_reducible rfl))
  try simp only [Act.put, List.setIfInBounds_toArray, List.set_cons_zero, List.set_cons_succ]
  refine held_take (i := 6) (v := ?q6v) rfl (by kernel_rfl) (by kernel_rfl) (by kernel_rfl) (fun _ _ _ h => h) (by rfl) ?q6y hHeld ?_
  case q6y => ((intro w _hSw; (try dsimp only at _hSw); go_simp); try (with_reducible rfl))
  try simp only [Act.put, List.setIfInBounds_toArray, List.set_cons_zero, List.set_cons_succ]
  refine held_take (i := 7) (v := ?q7v) rfl (by kernel_rfl) (by kernel_rfl) (by kernel_rfl) (fun _ _ _ h => h) (by rfl) ?q7y hHeld ?_
  case q7y => ((intro w _hSw; (try dsimp only at _hSw); go_simp); try (with_reducible rfl))
  try simp only [Act.put, List.setIfInBounds_toArray, List.set_cons_zero, List.set_cons_succ]
  refine held_take (i := 8) (v := ?q8v) rfl (by kernel_rfl) (by kernel_rfl) (by kernel_rfl) (fun _ _ _ h => h) (by rfl) ?q8y hHeld ?_
  case q8y => ((intro w _hSw; (try dsimp only at _hSw); go_simp); try (with_reducible rfl))
  try simp only [Act.put, List.setIfInBounds_toArray, List.set_cons_zero, List.set_cons_succ]
  refine held_take (i := 9) (v := ?q9v) rfl (by kernel_rfl) (by kernel_rfl) (by kernel_rfl) (fun _ _ _ h => h) (by rfl) ?q9y hHeld ?_
  case q9y => ((intro w _hSw; (try dsimp only at _hSw); go_simp); try (with_reducible rfl))
  try simp only [Act.put, List.setIfInBounds_toArray, List.set_cons_zero, List.set_cons_succ]
  refine held_take (i := 10) (v := ?q10v) rfl (by kernel_rfl) (by kernel_rfl) (by kernel_rfl) (fun _ _ _ h => h) (by rfl) ?q10y hHeld ?_
  case q10y => ((intro w _hSw; (try dsimp only at _hSw); go_simp); try (with_reducible rfl))
  try simp only [Act.put, List.setIfInBounds_toArray, List.set_cons_zero, List.set_cons_succ]
  refine held_take (i := 11) (v := ?q11v) rfl (by kernel_rfl) (by kernel_rfl) (by kernel_rfl) (fun _ _ _ h => h) (by rfl) ?q11y hHeld ?_
  case q11y => ((intro w _hSw; (try dsimp only at _hSw); go_simp); try (with_reducible rfl))
  try simp only [Act.put, List.setIfInBounds_toArray, List.set_cons_zero, List.set_cons_succ]
  refine held_take (i := 12) (v := (.int .i64 ((ab : Nat) : Int))) rfl (by kernel_rfl) (by kernel_rfl) (by kernel_rfl) (fun _ _ _ h => h) (by rfl) ?q12y hHeld ?_
  case q12y => (intro w _hSw; (try dsimp only at _hSw); go_simp; try rw [HW.out.1])
  try simp only [Act.put, List.setIfInBounds_toArray, List.set_cons_zero, List.set_cons_succ]
  refine held_take (i := 13) (v := ?q13v) rfl (by kernel_rfl) (by kernel_rfl) (by kernel_rfl) (fun _ _ _ h => h) (by rfl) ?q13y hHeld ?_
  case q13y => ((intro w _hSw; (try dsimp only at _hSw); go_simp); try (with_reducible rfl))
  try simp only [Act.put, List.setIfInBounds_toArray, List.set_cons_zero, List.set_cons_succ]
  refine held_take (i := 14) (v := ?q14v) rfl (by kernel_rfl) (by kernel_rfl) (by kernel_rfl) (fun _ _ _ h => h) (by rfl) ?q14y hHeld ?_
  case q14y => ((intro w _hSw; (try dsimp only at _hSw); go_simp); try (with_reducible rfl))
  try simp only [Act.put, List.setIfInBounds_toArray, List.set_cons_zero, List.set_cons_succ]
  refine held_take (i := 15) (v := ?q15v) rfl (by kernel_rfl) (by kernel_rfl) (by kernel_rfl) (fun _ _ _ h => h) (by rfl) ?q15y hHeld ?_
  case q15y => ((intro w _hSw; (try dsimp only at _hSw); go_simp); try (with_reducible rfl))
  try simp only [Act.put, List.setIfInBounds_toArray, List.set_cons_zero, List.set_cons_succ]
  refine held_take (i := 16) (v := ?q16v) rfl (by kernel_rfl) (by kernel_rfl) (by kernel_rfl) (fun _ _ _ h => h) (by rfl) ?q16y hHeld ?_
  case q16y => ((intro w _hSw; (try dsimp only at _hSw); go_simp); try (with_reducible rfl))
  try simp only [Act.put, List.setIfInBounds_toArray, List.set_cons_zero, List.set_cons_succ]
  refine held_take (i := 17) (v := ?q17v) rfl (by kernel_rfl) (by kernel_rfl) (by kernel_rfl) (fun _ _ _ h => h) (by rfl) ?q17y hHeld ?_
  case q17y => ((intro w _hSw; (try dsimp only at _hSw); go_simp); try (with_reducible rfl))
  try simp only [Act.put, List.setIfInBounds_toArray, List.set_cons_zero, List.set_cons_succ]
  refine held_take (i := 18) (v := ?q18v) rfl (by kernel_rfl) (by kernel_rfl) (by kernel_rfl) (fun _ _ _ h => h) (by rfl) ?q18y hHeld ?_
  case q18y => ((intro w _hSw; (try dsimp only at _hSw); go_simp); try (with_reducible rfl))
  try simp only [Act.put, List.setIfInBounds_toArray, List.set_cons_zero, List.set_cons_succ]
  refine held_take (i := 19) (v := ?q19v) rfl (by kernel_rfl) (by kernel_rfl) (by kernel_rfl) (fun _ _ _ h => h) (by rfl) ?q19y hHeld ?_
  case q19y => ((intro w _hSw; (try dsimp only at _hSw); go_simp); try (with_reducible rfl))
  try simp only [Act.put, List.setIfInBounds_toArray, List.set_cons_zero, List.set_cons_succ]
  refine held_take (i := 20) (v := ?q20v) rfl (by kernel_rfl) (by kernel_rfl) (by kernel_rfl) (fun _ _ _ h => h) (by rfl) ?q20y hHeld ?_
  case q20y => ((intro w _hSw; (try dsimp only at _hSw); go_simp); try (with_reducible rfl))
  try simp only [Act.put, List.setIfInBounds_toArray, List.set_cons_zero, List.set_cons_succ]
  refine held_take (i := 21) (v := (.int .i64 ((mx : Nat) : Int))) rfl (by kernel_rfl) (by kernel_rfl) (by kernel_rfl) (fun _ _ _ h => h) (by rfl) ?q21y hHeld ?_
  case q21y => (intro w _hSw; (try dsimp only at _hSw); go_simp; exact HW.out.2.2)
  try simp only [Act.put, List.setIfInBounds_toArray, List.set_cons_zero, List.set_cons_succ]
  refine held_take (i := 22) (v := (.int .i64 ((hh : Nat) : Int))) rfl (by kernel_rfl) (by kernel_rfl) (by kernel_rfl) (fun _ _ _ h => h) (by rfl) ?q22y hHeld ?_
  case q22y => (intro w _hSw; (try dsimp only at _hSw); go_simp; try rw [HW.out.2.1])
  try simp only [Act.put, List.setIfInBounds_toArray, List.set_cons_zero, List.set_cons_succ]
  refine held_take (i := 23) (v := ?q23v) rfl (by kernel_rfl) (by kernel_rfl) (by kernel_rfl) (fun _ _ _ h => h) (by rfl) ?q23y hHeld ?_
  case q23y => ((intro w _hSw; (try dsimp only at _hSw); go_simp); try (with_reducible rfl))
  try simp only [Act.put, List.setIfInBounds_toArray, List.set_cons_zero, List.set_cons_succ]
  refine held_take (i := 24) (v := ?q24v) rfl (by kernel_rfl) (by kernel_rfl) (by kernel_rfl) (fun _ _ _ h => h) (by rfl) ?q24y hHeld ?_
  case q24y => ((intro w _hSw; (try dsimp only at _hSw); go_simp); try (with_reducible rfl))
  try simp only [Act.put, List.setIfInBounds_toArray, List.set_cons_zero, List.set_cons_succ]
  refine held_take (i := 25) (v := ?q25v) rfl (by kernel_rfl) (by kernel_rfl) (by kernel_rfl) (fun _ _ _ h => h) (by rfl) ?q25y hHeld ?_
  case q25y => ((intro w _hSw; (try dsimp only at _hSw); go_simp); try (with_reducible rfl))
  try simp only [Act.put, List.setIfInBounds_toArray, List.set_cons_zero, List.set_cons_succ]
  refine held_take (i := 26) (v := ?q26v) rfl (by kernel_rfl) (by kernel_rfl) (by kernel_rfl) (fun _ _ _ h => h) (by rfl) ?q26y hHeld ?_
  case q26y => ((intro w _hSw; (try dsimp only at _hSw); go_simp); try (with_reducible rfl))
  try simp only [Act.put, List.setIfInBounds_toArray, List.set_cons_zero, List.set_cons_succ]
  refine held_take (i := 27) (v := ?q27v) rfl (by kernel_rfl) (by kernel_rfl) (by kernel_rfl) (fun _ _ _ h => h) (by rfl) ?q27y hHeld ?_
  case q27y => ((intro w _hSw; (try dsimp only at _hSw); go_simp); try (with_reducible rfl))
  try simp only [Act.put, List.setIfInBounds_toArray, List.set_cons_zero, List.set_cons_succ]
  refine held_take (i := 28) (v := ?q28v) rfl (by kernel_rfl) (by kernel_rfl) (by kernel_rfl) (fun _ _ _ h => h) (by rfl) ?q28y hHeld ?_
  case q28y => ((intro w _hSw; (try dsimp only at _hSw); go_simp); try (with_reducible rfl))
  try simp only [Act.put, List.setIfInBounds_toArray, List.set_cons_zero, List.set_cons_succ]
  refine held_take (i := 29) (v := ?q29v) rfl (by kernel_rfl) (by kernel_rfl) (by kernel_rfl) (fun _ _ _ h => h) (by rfl) ?q29y hHeld ?_
  case q29y => ((intro w _hSw; (try dsimp only at _hSw); go_simp); try (with_reducible rfl))
  try simp only [Act.put, List.setIfInBounds_toArray, List.set_cons_zero, List.set_cons_succ]
  refine held_row (i := 30) rfl (by kernel_rfl) (by kernel_rfl) (by kernel_rfl) _ _ rfl _ _ rfl ?q30C ?q30D (fun _ _ _ h => h) (by rfl) ?q30a ?q30b ?q30c ?q30d hHeld ?_
  case q30a => (intro w hSw; (try dsimp only at hSw); go_split_ands; assumption)
  case q30b => assumption
  case q30c => rfl
  case q30d => first | assumption | (simp only [*]; done)
  try simp only [Act.put, List.setIfInBounds_toArray, List.set_cons_zero, List.set_cons_succ]
  refine held_take (i := 31) (v := ?q31v) rfl (by kernel_rfl) (by kernel_rfl) (by kernel_rfl) (fun _ _ _ h => h) (by rfl) ?q31y hHeld ?_
  case q31y => ((intro w _hSw; (try dsimp only at _hSw); go_simp); try (with_reducible rfl))
  try simp only [Act.put, List.setIfInBounds_toArray, List.set_cons_zero, List.set_cons_succ]
  refine held_take (i := 32) (v := ?q32v) rfl (by kernel_rfl) (by kernel_rfl) (by kernel_rfl) (fun _ _ _ h => h) (by rfl) ?q32y hHeld ?_
  case q32y => ((intro w _hSw; (try dsimp only at _hSw); go_simp); try (with_reducible rfl))
  try simp only [Act.put, List.setIfInBounds_toArray, List.set_cons_zero, List.set_cons_succ]
  refine held_take (i := 33) (v := ?q33v) rfl (by kernel_rfl) (by kernel_rfl) (by kernel_rfl) (fun _ _ _ h => h) (by rfl) ?q33y hHeld ?_
  case q33y => ((intro w _hSw; (try dsimp only at _hSw); go_simp); try (with_reducible rfl))
  try simp only [Act.put, List.setIfInBounds_toArray, List.set_cons_zero, List.set_cons_succ]
  refine held_take (i := 34) (v := ?q34v) rfl (by kernel_rfl) (by kernel_rfl) (by kernel_rfl) (fun _ _ _ h => h) (by rfl) ?q34y hHeld ?_
  case q34y => ((intro w _hSw; (try dsimp only at _hSw); go_simp); try (with_reducible rfl))
  try simp only [Act.put, List.setIfInBounds_toArray, List.set_cons_zero, List.set_cons_succ]
  refine held_take (i := 35) (v := ?q35v) rfl (by kernel_rfl) (by kernel_rfl) (by kernel_rfl) (fun _ _ _ h => h) (by rfl) ?q35y hHeld ?_
  case q35y => ((intro w _hSw; (try dsimp only at _hSw); go_simp); try (with_reducible rfl))
  try simp only [Act.put, List.setIfInBounds_toArray, List.set_cons_zero, List.set_cons_succ]
  refine held_take (i := 36) (v := ?q36v) rfl (by kernel_rfl) (by kernel_rfl) (by kernel_rfl) (fun _ _ _ h => h) (by rfl) ?q36y hHeld ?_
  case q36y => ((intro w _hSw; (try dsimp only at _hSw); go_simp); try (with_reducible rfl))
  try simp only [Act.put, List.setIfInBounds_toArray, List.set_cons_zero, List.set_cons_succ]
  refine held_take (i := 37) (v := ?q37v) rfl (by kernel_rfl) (by kernel_rfl) (by kernel_rfl) (fun _ _ _ h => h) (by rfl) ?q37y hHeld ?_
  case q37y => ((intro w _hSw; (try dsimp only at _hSw); go_simp); try (with_reducible rfl))
  try simp only [Act.put, List.setIfInBounds_toArray, List.set_cons_zero, List.set_cons_succ]
  refine held_row (i := 38) rfl (by kernel_rfl) (by kernel_rfl) (by kernel_rfl) _ _ rfl _ _ rfl ?q38C ?q38D (fun _ _ _ h => h) (by rfl) ?q38a ?q38b ?q38c ?q38d hHeld ?_
  case q38a => (intro w hSw; (try dsimp only at hSw); go_split_ands; assumption)
  case q38b => assumption
  case q38c => rfl
  case q38d => first | assumption | (simp only [*]; done)
  try simp only [Act.put, List.setIfInBounds_toArray, List.set_cons_zero, List.set_cons_succ]
  refine held_step (i := 1) rfl (by kernel_rfl) (by rfl) (fun K hK => ?_)
  go_simp
  refine (least_any b gb _ (HT.out.2.1.below HB.out)).mono ?_
  rintro e wc ⟨rfl, rfl⟩
  go_wp2_with fail
  have hHeld := HTS.out _ HB.out
  refine hK.out _ _ (HTS.out _ HB.out) ?_
  clear hK K
  try simp only [Act.put, List.setIfInBounds_toArray, List.set_cons_zero, List.set_cons_succ]
  refine held_step (i := 39) rfl (by kernel_rfl) (by rfl) (fun K hK => ?_)
  go_simp
  refine (avnode_any am bm a.sum b.sum csa csb cs _ a.sum_length b.sum_length HC.out.1 HC.out.2.1 HC.out.2.2.1 (by have := HC.out; omega) (by have := HC.out; omega) (HT.out.2.2.below HB.out HT.out.2.2.lt)).mono ?_
  rintro e wc ⟨rfl, hb⟩
  have HB := Lib.hid (below_then HB.out HB.out.size hb)
  clear hb
  go_wp2_with fail
  have hHeld := HTS.out _ HB.out
  refine hK.out _ _ (HTS.out _ HB.out) ?_
  clear hK K
  try simp only [Act.put, List.setIfInBounds_toArray, List.set_cons_zero, List.set_cons_succ]
  refine held_take (i := 40) (v := (.agg ([S8 b.least, S8 [], Ptr ga, Ptr gb, .int .i64 ((ab : Nat) : Int), .int .i64 ((hh : Nat) : Int)] ++ cs).toArray)) rfl (by kernel_rfl) (by kernel_rfl) (by kernel_rfl) (fun _ _ _ h => h) (by rfl) ?q39y hHeld ?_
  case q39y => (intro w _hSw; exact exec_built 127 _ rfl _ _ HBU.out (by rfl))
  try simp only [Act.put, List.setIfInBounds_toArray, List.set_cons_zero, List.set_cons_succ]
  refine held_step (i := 41) rfl (by kernel_rfl) (by rfl) (fun K hK => ?_)
  go_simp
  have HN := Lib.hid (Blk_new wc ([S8 b.least, S8 [], Ptr ga, Ptr gb, .int .i64 ((ab : Nat) : Int), .int .i64 ((hh : Nat) : Int)] ++ cs) 127)
  have HB1 := Lib.hid (HB.out.alloc HB.out.size (.cells ([S8 b.least, S8 [], Ptr ga, Ptr gb, .int .i64 ((ab : Nat) : Int), .int .i64 ((hh : Nat) : Int)] ++ cs).toArray 127))
  have hHeld := HTS.out _ HB1.out
  refine hK.out _ _ (HTS.out _ HB1.out) ?_
  clear hK K
  (try simp only [Act.put]); (try simp only [List.setIfInBounds_toArray]); (try simp only [List.set_cons_succ]); (try simp only [List.set_cons_zero])
  refine held_take (i := 42) (v := ?q40v) rfl (by kernel_rfl) (by kernel_rfl) (by kernel_rfl) (fun _ _ _ h => h) (by rfl) ?q40y hHeld ?_
  case q40y => ((intro w _hSw; (try dsimp only at _hSw); go_simp); try (with_reducible rfl))
  try simp only [Act.put, List.setIfInBounds_toArray, List.set_cons_zero, List.set_cons_succ]
  refine wpAnyH_done (by kernel_rfl) ?_ _
  go_wp2
  go_ret
  refine ⟨wc.heap.size, rfl, ⟨ga, gb, ?_, HT.out.1.below HB1.out, HT.out.2.1.below HB1.out⟩, HB.out.size, HB1.out⟩
  have h := HN.out
  rw [HE.out.1, HE.out.2.1, HE.out.2.2, HC.out.2.2.1] at h
  rw [HC.out.2.2.2.2.2.2.2.1, HC.out.2.2.2.2.2.2.2.2.1, HC.out.2.2.2.2.2.2.2.2.2.1, HC.out.2.2.2.2.2.2.2.2.2.2]
  rw [HE.out.1, HE.out.2.1, HE.out.2.2, HC.out.2.2.1]
  exact h
end Go.Proofs.YtdekealpachhmaaDoor
