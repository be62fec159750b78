/- '!=' of a step and itself. Law 8: same by its contract, of one proof twice. Law 8: sames by its contract, of the same proofs twice. ProofMakes' walk. Pairs, opened where the bulk is bounded. ProofMakes holds for every input whose bulk is at most 1048576, what the program lays as it is laid. -/
import Derived.Test.YtdekealpachhmaaDoorPaths
import Derived.Test.YtdekealpachhmaaDoorMprf
import Derived.Test.YtdekealpachhmaaDoorEqH
import Derived.Test.YtdekealpachhmaaDoorMver
import Derived.Test.YtdekealpachhmaaDoorMrfe
import Derived.Test.YtdekealpachhmaaDoorMgrw
import Derived.Test.YtdekealpachhmaaDoorOpenA
import Derived.Test.YtdekealpachhmaaDoorCard7
import Derived.ChangeMaps5

namespace Go.Proofs.YtdekealpachhmaaDoor
open Go Go.RowKit Go.Isth

theorem part_hash (pre : List Value) (os : List UInt8) (hl : os.length = 32) (k : Nat) (hk : pre.length = k) (w : World) : (part 46 (pre ++ os.map B).toArray k).run Tryd.prog w = .ok (.agg (os.map B).toArray) w := by
  have hi : (Tryd.prog.info? 46).map (·.size) = some 32 := by kernel_rfl
  have hc : Tryd.prog.cellsOf 46 = 32 := by kernel_rfl
  obtain ⟨i, hi1, _⟩ := Option.map_eq_some_iff.1 hi
  have ha : (isAgg 46).run Tryd.prog w = .ok true w := by simp [isAgg, run_underlying Tryd.underlying46]
  subst hk
  simp only [part, Sem.run_bind, ha, Result.andThen_ok, if_true, run_sizeOf w hi1]
  simp [hc, List.take_of_length_le, hl]
theorem eq_hash (d : Nat) (os : List UInt8) (hl : os.length = 32) (w : World) : (Op.equalIn (d + 2) 46 (.agg (os.map B).toArray) (.agg (os.map B).toArray)).run Tryd.prog w = .ok true w := by
  obtain ⟨i, hi, _⟩ := Option.map_eq_some_iff.1 aHash7.info
  rw [run_equalIn_array w (d + 1) _ _ aHash7.arr hi, aHash7.one, run_items w aHash7.key aHash7.elem d os os _ (fun j hj => by rw [List.mem_range] at hj; omega), all_getD hl hl]
  simp
set_option maxRecDepth 100000 in
theorem neq_step (s : StepI) (hl : s.other.length = 32) (w : World) : (binOp .neq 67 (.agg (stepIC s).toArray) (.agg (stepIC s).toArray)).run Tryd.prog w = .ok (.bool false) w := by
  have hu := Tryd.underlying67
  have hf : Tryd.prog.underlying 67 = some (.struct (Tryd.prog.fieldsOf 67)) := by simp only [Program.fieldsOf, hu]
  have hs : Tryd.prog.stoodInHeld 67 = false := by kernel_rfl
  have p1 : ∀ w, (part 4 (stepIC s).toArray 0).run Tryd.prog w = .ok (.bool s.second) w := fun w => run_part_plain (P := Tryd.prog) w (by kernel_rfl) rfl
  have p2 : ∀ w, (part 3 (stepIC s).toArray 1).run Tryd.prog w = .ok (.int .i64 s.many) w := fun w => run_part_plain (P := Tryd.prog) w (by kernel_rfl) rfl
  have p3 : ∀ w, (part 46 (stepIC s).toArray 2).run Tryd.prog w = .ok (.agg (s.other.map B).toArray) w := fun w => part_hash [.bool s.second, .int .i64 s.many] s.other hl 2 rfl w
  have q1 : ∀ w, (Op.equalIn 9999 4 (.bool s.second) (.bool s.second)).run Tryd.prog w = .ok true w := fun w => by rw [run_equalIn_bool' w 9998 _ _ _ Tryd.underlying4]; simp
  have q2 : ∀ w, (Op.equalIn 9999 3 (.int .i64 s.many) (.int .i64 s.many)).run Tryd.prog w = .ok true w := fun w => by rw [run_equalIn_int w 9998 _ _ _ _ _ Tryd.underlying3]; simp
  have q3 : ∀ w, (Op.equalIn 9999 46 (.agg (s.other.map B).toArray) (.agg (s.other.map B).toArray)).run Tryd.prog w = .ok true w := fun w => eq_hash 9997 s.other hl w
  rw [run_neq_struct, run_equalIn_struct w 9999 _ _ _ hf hs]
  simp only [Program.fieldsOf, hu]
  simp [Op.eqFields, p1, p2, p3, q1, q2, q3]
#print axioms neq_step
end Go.Proofs.YtdekealpachhmaaDoor

namespace Go.Proofs.YtdekealpachhmaaDoor
open Go Go.RowKit Go.Isth

theorem stepIC_len8 {s : StepI} (h : s.other.length = 32) : (stepIC s).length = 34 := by simp [stepIC, h]
theorem stepsIC_at8 : ∀ (l : List StepI) (k : Nat) (s : StepI), (∀ x ∈ l, x.other.length = 32) → l[k]? = some s → ∀ j u, (stepIC s)[j]? = some u → (stepsIC l)[k * 34 + j]? = some u
  | [], k, s, _, h => by simp at h
  | x :: l, 0, s, hl, h => by
    simp only [List.getElem?_cons_zero, Option.some.injEq] at h
    subst h
    intro j u hu
    have e : stepsIC (x :: l) = stepIC x ++ stepsIC l := rfl
    rw [e, Nat.zero_mul, Nat.zero_add, List.getElem?_append_left (List.getElem?_eq_some_iff.1 hu).1]
    exact hu
  | x :: l, k + 1, s, hl, h => by
    simp only [List.getElem?_cons_succ] at h
    intro j u hu
    have := stepsIC_at8 l k s (fun y hy => hl y (by simp [hy])) h j u hu
    have e : stepsIC (x :: l) = stepIC x ++ stepsIC l := rfl
    have e1 := stepIC_len8 (hl x (by simp))
    rw [e, List.getElem?_append_right (by rw [e1]; omega), e1, show (k + 1) * 34 + j - 34 = k * 34 + j by omega]
    exact this
def SameInv (w2 : World) (n : Nat) (v : Value) (wr : World) : Prop := ∃ k : Nat, v = .int .i64 (k : Nat) ∧ k ≤ n ∧ Below w2.heap.size w2 wr
set_option maxRecDepth 100000 in
set_option maxHeartbeats 4000000 in
theorem same_yes (n₀ n₁ : Nat) (p : PrfV) (csA csB : List Value) (w : World) (hA : PrfC n₀ w p csA) (hB : PrfC n₁ w p csB) (h32 : ∀ s ∈ p.steps, s.other.length = 32) (hl : p.steps.length ≤ 1000) :
    Calls Tryd.prog 50 #[.agg csA.toArray, .agg csB.toArray] w fun e w' => e = .returned (.bool true) ∧ Below w.heap.size w w' := by
  obtain ⟨A, c, rfl, _, hr, _⟩ := hA
  obtain ⟨A', c', rfl, _, hr', _⟩ := hB
  obtain ⟨n, hn⟩ : ∃ n, p.steps.length = n := ⟨_, rfl⟩
  obtain ⟨pk, hpk⟩ : ∃ k, p.key = k := ⟨_, rfl⟩
  obtain ⟨pv, hpv⟩ : ∃ k, p.val = k := ⟨_, rfl⟩
  rw [hn] at hl
  rw [hn, hpk, hpv]
  have HN := Lib.hid (And.intro hn (And.intro hl h32))
  obtain ⟨xa, hxa⟩ : ∃ n, n = w.heap.size := ⟨_, rfl⟩
  obtain ⟨w1, hw1⟩ : ∃ w1, w1 = w.alloc (.cells #[S8 pk, S8 pv, .slice A n c] 32) := ⟨_, rfl⟩
  obtain ⟨w2, hw2⟩ : ∃ w2, w2 = w1.alloc (.cells #[S8 pk, S8 pv, .slice A' n c'] 98) := ⟨_, rfl⟩
  have s1 : w1.heap.size = xa + 1 := by rw [hw1, World.size_alloc, hxa]
  have b1 : Below w.heap.size w w1 := by rw [hw1]; exact (Below.refl _ _).alloc (Nat.le_refl _) _
  have b2 : Below w.heap.size w w2 := by rw [hw2]; exact b1.alloc b1.size _
  have z1 : Blk w2 xa 32 [S8 pk, S8 pv, .slice A n c] := by rw [hw2, hw1, hxa]; exact (Blk_new w [S8 pk, S8 pv, .slice A n c] 32).alloc _
  have z2 : Blk w2 (xa + 1) 98 [S8 pk, S8 pv, .slice A' n c'] := by rw [← s1, hw2]; exact Blk_new w1 [S8 pk, S8 pv, .slice A' n c'] 98
  have HW := Lib.hid b2
  have HZ := Lib.hid (And.intro z1 z2)
  have HR := Lib.hid (And.intro (hr.below b2) (hr'.below b2))
  have e0 := z1.cellD 0 _ rfl
  have e1 := z1.cellD 1 _ rfl
  have e2 := z1.cellD 2 _ rfl
  have d0 := z2.cellD 0 _ rfl
  have d1 := z2.cellD 1 _ rfl
  have d2 := z2.cellD 2 _ rfl
  go_enter Tryd.func50, Tryd.ntmps50
  go_upto_region 1 with fail
  change Code.wp _ _ _ _ ((w.alloc (.cells #[S8 pk, S8 pv, .slice A n c] 32)).alloc (.cells #[S8 pk, S8 pv, .slice A' n c'] 98))
  rw [← hw1, ← hw2, ← hxa]
  clear hw1 hw2 s1 b1 b2 z1 z2 hr hr' hn hpk hpv h32 hl hxa
  go_wp2_with fail
  clear e0 e1 e2 d0 d1 d2
  go_loopw [5] (fun v5 wr => SameInv w2 n v5 wr) (fun v5 _ => n - (intOf v5).toNat)
  case atStart => exact ⟨0, rfl, Nat.zero_le _, Below.refl _ _⟩
  case round =>
    obtain ⟨k, rfl, hk, hb⟩ := hrel
    have HB := Lib.hid hb
    have e2 := cell_below (HZ.out.1.cellD 2 _ rfl) hb
    by_cases hkn : k < n
    · obtain ⟨s, hs⟩ : ∃ s, p.steps[k]? = some s := ⟨_, List.getElem?_eq_getElem (by rw [HN.out.1]; exact hkn)⟩
      have hs32 := HN.out.2.2 s (List.mem_of_getElem? hs)
      have hl0 : 0 < (stepsIC p.steps).length := by have h := stepsIC_at8 p.steps k s HN.out.2.2 hs 0 _ rfl; have := (List.getElem?_eq_some_iff.1 h).1; omega
      obtain ⟨b, o, rfl, hcl⟩ := HR.out.1 hl0
      obtain ⟨b', o', rfl, hcl'⟩ := HR.out.2 hl0
      obtain ⟨st, hst⟩ : ∃ st, st = stepIC s := ⟨_, rfl⟩
      have r1 : w2.rangeAt b (o + k * 34) st := fun j u hu => by rw [hst] at hu; have h := hcl _ u (stepsIC_at8 p.steps k s HN.out.2.2 hs j u hu); rw [← Nat.add_assoc] at h; exact h
      have r2 : w2.rangeAt b' (o' + k * 34) st := fun j u hu => by rw [hst] at hu; have h := hcl' _ u (stepsIC_at8 p.steps k s HN.out.2.2 hs j u hu); rw [← Nat.add_assoc] at h; exact h
      have hsl : st.length = 34 := by rw [hst]; exact stepIC_len8 hs32
      have heq : ∀ wx, (binOp .neq 67 (.agg st.toArray) (.agg st.toArray)).run Tryd.prog wx = .ok (.bool false) wx := fun wx => by rw [hst]; exact neq_step s hs32 wx
      have HTS : Hid (∀ w', Below wr.heap.size wr w' → w'.cell? ⟨xa, 2, none⟩ = some (.slice (some ⟨b, o, none⟩) n c) ∧ w'.cell? ⟨xa + 1, 2, none⟩ = some (.slice (some ⟨b', o', none⟩) n c') ∧ w'.rangeAt b (o + k * 34) st ∧ w'.rangeAt b' (o' + k * 34) st) := Lib.hid fun w' h => ⟨cell_below e2 h, cell_below (cell_below (HZ.out.2.cellD 2 _ rfl) hb) h, range_below (range_below r1 hb) h, range_below (range_below r2 hb) h⟩
      have i1 : (Tryd.prog.info? 67).map (·.size) = some st.length := by rw [hsl]; kernel_rfl
      have i2 : (Tryd.prog.info? 82).map (·.size) = some st.length := by rw [hsl]; kernel_rfl
      have u1 := Tryd.underlying67
      have u2 := Tryd.underlying82
      have hk1 : (k : Int) < (n : Int) := by omega
      have hn9 : n ≤ 1000 := HN.out.2.1
      clear hs hs32 hl0 hcl hcl' hst r1 r2 hsl hb
      go_wp2_with fail
      clear e2
      refine wp_region_held_drew (S := (fun w' => w'.cell? ⟨xa, 2, none⟩ = some (.slice (some ⟨b, o, none⟩) n c) ∧ w'.cell? ⟨xa + 1, 2, none⟩ = some (.slice (some ⟨b', o', none⟩) n c') ∧ w'.rangeAt b (o + k * 34) st ∧ w'.rangeAt b' (o' + k * 34) st)) (by kernel_rfl) ?qs0 (fun hHeld => ?_)
      case qs0 => exact HTS.out _ (refl_drewN _ 1)
      refine held_take (i := 0) (v := ?q1v) rfl (by kernel_rfl) (by kernel_rfl) (by kernel_rfl) (fun _ _ _ h => h) (by rfl) ?q1y hHeld ?_
      case q1y => ((intro w _hSw; (try dsimp only at _hSw); go_simp); try (with_reducible rfl))
      try simp only [Act.put, List.setIfInBounds_toArray, List.set_cons_zero, List.set_cons_succ]
      refine held_take (i := 1) (v := ?q2v) rfl (by kernel_rfl) (by kernel_rfl) (by kernel_rfl) (fun _ _ _ h => h) (by rfl) ?q2y hHeld ?_
      case q2y => ((intro w _hSw; (try dsimp only at _hSw); go_simp); try (with_reducible rfl))
      try simp only [Act.put, List.setIfInBounds_toArray, List.set_cons_zero, List.set_cons_succ]
      refine held_take (i := 2) (v := ?q3v) rfl (by kernel_rfl) (by kernel_rfl) (by kernel_rfl) (fun _ _ _ h => h) (by rfl) ?q3y hHeld ?_
      case q3y => ((intro w _hSw; (try dsimp only at _hSw); go_simp); try (with_reducible rfl))
      try simp only [Act.put, List.setIfInBounds_toArray, List.set_cons_zero, List.set_cons_succ]
      refine held_take (i := 3) (v := ?q4v) rfl (by kernel_rfl) (by kernel_rfl) (by kernel_rfl) (fun _ _ _ h => h) (by rfl) ?q4y hHeld ?_
      case q4y => ((intro w _hSw; (try dsimp only at _hSw); go_simp); try (with_reducible rfl))
      try simp only [Act.put, List.setIfInBounds_toArray, List.set_cons_zero, List.set_cons_succ]
      refine held_row (i := 4) rfl (by kernel_rfl) (by kernel_rfl) (by kernel_rfl) _ _ rfl _ _ rfl ?q5C ?q5D (fun _ _ _ h => h) (by rfl) ?q5a ?q5b ?q5c ?q5d hHeld ?_
      case q5a => (intro w hSw; (try dsimp only at hSw); go_split_ands; assumption)
      case q5b => assumption
      case q5c => rfl
      case q5d => first | assumption | (simp only [*]; done)
      try simp only [Act.put, List.setIfInBounds_toArray, List.set_cons_zero, List.set_cons_succ]
      refine held_take (i := 5) (v := ?q6v) rfl (by kernel_rfl) (by kernel_rfl) (by kernel_rfl) (fun _ _ _ h => h) (by rfl) ?q6y hHeld ?_
      case q6y => ((intro w _hSw; (try dsimp only at _hSw); go_simp); try (with_reducible rfl))
      try simp only [Act.put, List.setIfInBounds_toArray, List.set_cons_zero, List.set_cons_succ]
      refine held_take (i := 6) (v := ?q7v) rfl (by kernel_rfl) (by kernel_rfl) (by kernel_rfl) (fun _ _ _ h => h) (by rfl) ?q7y hHeld ?_
      case q7y => ((intro w _hSw; (try dsimp only at _hSw); go_simp); try (with_reducible rfl))
      try simp only [Act.put, List.setIfInBounds_toArray, List.set_cons_zero, List.set_cons_succ]
      refine held_take (i := 7) (v := ?q8v) rfl (by kernel_rfl) (by kernel_rfl) (by kernel_rfl) (fun _ _ _ h => h) (by rfl) ?q8y hHeld ?_
      case q8y => ((intro w _hSw; (try dsimp only at _hSw); go_simp); try (with_reducible rfl))
      try simp only [Act.put, List.setIfInBounds_toArray, List.set_cons_zero, List.set_cons_succ]
      refine held_take (i := 8) (v := ?q9v) rfl (by kernel_rfl) (by kernel_rfl) (by kernel_rfl) (fun _ _ _ h => h) (by rfl) ?q9y hHeld ?_
      case q9y => ((intro w _hSw; (try dsimp only at _hSw); go_simp); try (with_reducible rfl))
      try simp only [Act.put, List.setIfInBounds_toArray, List.set_cons_zero, List.set_cons_succ]
      refine held_row (i := 9) rfl (by kernel_rfl) (by kernel_rfl) (by kernel_rfl) _ _ rfl _ _ rfl ?q10C ?q10D (fun _ _ _ h => h) (by rfl) ?q10a ?q10b ?q10c ?q10d hHeld ?_
      case q10a => (intro w hSw; (try dsimp only at hSw); go_split_ands; assumption)
      case q10b => assumption
      case q10c => rfl
      case q10d => first | assumption | (simp only [*]; done)
      try simp only [Act.put, List.setIfInBounds_toArray, List.set_cons_zero, List.set_cons_succ]
      refine held_take (i := 10) (v := ?q11v) rfl (by kernel_rfl) (by kernel_rfl) (by kernel_rfl) (fun _ _ _ h => h) (by rfl) ?q11y hHeld ?_
      case q11y => ((intro w _hSw; (try dsimp only at _hSw); go_simp); try (with_reducible rfl))
      try simp only [Act.put, List.setIfInBounds_toArray, List.set_cons_zero, List.set_cons_succ]
      refine wpAnyH_done (by kernel_rfl) ?_ _
      clear hHeld
      go_wp2
      refine ⟨⟨k + 1, by simp, by omega, below_drewN HB.out 1⟩, ?_⟩
      show n - Int.toNat ((k : Int) + 1) < n - Int.toNat (k : Int)
      omega
    · have hk1 : ¬ (k : Int) < (n : Int) := by omega
      clear hb
      go_wp2
      go_ret
      exact ⟨rfl, below_then HW.out HW.out.size HB.out⟩
end Go.Proofs.YtdekealpachhmaaDoor

namespace Go.Proofs.YtdekealpachhmaaDoor
open Go Go.RowKit Go.Isth

def SamesInv (w2 : World) (n : Nat) (v : Value) (wr : World) : Prop := ∃ k : Nat, v = .int .i64 (k : Nat) ∧ k ≤ n ∧ Below w2.heap.size w2 wr
set_option maxRecDepth 100000 in
set_option maxHeartbeats 4000000 in
theorem sames_yes (psl psr : List PrfV) (vl vr vl' vr' : Value) (w : World) (hl : ListP w vl psl) (hr : ListP w vr psr) (hl' : ListP w vl' psl) (hr' : ListP w vr' psr) (hg : ∀ p ∈ psl ++ psr, (∀ s ∈ p.steps, s.other.length = 32) ∧ p.steps.length ≤ 1000) (hn : psl.length ≤ 1000 ∧ psr.length ≤ 1000) :
    Calls Tryd.prog 51 #[.agg #[vl, vr], .agg #[vl', vr']] w fun e w' => e = .returned (.bool true) ∧ Below w.heap.size w w' := by
  obtain ⟨Al, cl, rfl, _, h1⟩ := hl
  obtain ⟨Ar, cr, rfl, _, h2⟩ := hr
  obtain ⟨Al', cl', rfl, _, h1'⟩ := hl'
  obtain ⟨Ar', cr', rfl, _, h2'⟩ := hr'
  obtain ⟨nl, hnl⟩ : ∃ n, psl.length = n := ⟨_, rfl⟩
  obtain ⟨nr, hnr⟩ : ∃ n, psr.length = n := ⟨_, rfl⟩
  rw [hnl, hnr] at hn
  rw [hnl, hnr]
  have HN := Lib.hid (And.intro hnl hnr)
  have HN9 := Lib.hid hn
  have HGG := Lib.hid hg
  obtain ⟨xa, hxa⟩ : ∃ n, n = w.heap.size := ⟨_, rfl⟩
  obtain ⟨w1, hw1⟩ : ∃ w1, w1 = w.alloc (.cells #[.slice Al nl cl, .slice Ar nr cr] 41) := ⟨_, rfl⟩
  obtain ⟨w2, hw2⟩ : ∃ w2, w2 = w1.alloc (.cells #[.slice Al' nl cl', .slice Ar' nr cr'] 103) := ⟨_, rfl⟩
  have s1 : w1.heap.size = xa + 1 := by rw [hw1, World.size_alloc, hxa]
  have b1 : Below w.heap.size w w1 := by rw [hw1]; exact (Below.refl _ _).alloc (Nat.le_refl _) _
  have b2 : Below w.heap.size w w2 := by rw [hw2]; exact b1.alloc b1.size _
  have z1 : Blk w2 xa 41 [.slice Al nl cl, .slice Ar nr cr] := by rw [hw2, hw1, hxa]; exact (Blk_new w [.slice Al nl cl, .slice Ar nr cr] 41).alloc _
  have z2 : Blk w2 (xa + 1) 103 [.slice Al' nl cl', .slice Ar' nr cr'] := by rw [← s1, hw2]; exact Blk_new w1 [.slice Al' nl cl', .slice Ar' nr cr'] 103
  have HW := Lib.hid b2
  have HZ := Lib.hid (And.intro z1 z2)
  have up : ∀ {A : Option Addr} {ps : List PrfV}, (∀ (i : Nat) (p : PrfV), ps[i]? = some p → ∃ b o cs, A = some ⟨b, o, none⟩ ∧ w.rangeAt b (o + i * 3) cs ∧ PrfC 0 w p cs) → ∀ (i : Nat) (p : PrfV), ps[i]? = some p → ∃ b o cs, A = some ⟨b, o, none⟩ ∧ w2.rangeAt b (o + i * 3) cs ∧ PrfC 0 w2 p cs := fun h i p hp => by
    obtain ⟨b, o, cs, e, hr, hc⟩ := h i p hp
    exact ⟨b, o, cs, e, range_below hr b2, hc.below b2⟩
  have HL := Lib.hid (And.intro (up h1) (And.intro (up h1') (And.intro (up h2) (up h2'))))
  have e0 := z1.cellD 0 _ rfl
  have e1 := z1.cellD 1 _ rfl
  have d0 := z2.cellD 0 _ rfl
  have d1 := z2.cellD 1 _ rfl
  clear up h1 h2 h1' h2'
  go_enter Tryd.func51, Tryd.ntmps51
  go_upto_region 1 with fail
  change Code.wp _ _ _ _ ((w.alloc (.cells #[.slice Al nl cl, .slice Ar nr cr] 41)).alloc (.cells #[.slice Al' nl cl', .slice Ar' nr cr'] 103))
  rw [← hw1, ← hw2, ← hxa]
  clear hw1 hw2 s1 b1 b2 z1 z2 hnl hnr hn hg hxa
  go_wp2_with fail
  clear e0 e1 d0 d1
  go_loopw [5] (fun v5 wr => SamesInv w2 nl v5 wr) (fun v5 _ => nl - (intOf v5).toNat)
  case atStart => exact ⟨0, rfl, Nat.zero_le _, Below.refl _ _⟩
  case round =>
    obtain ⟨k, rfl, hk, hb⟩ := hrel
    have HBR := Lib.hid hb
    have e2 := cell_below (HZ.out.1.cellD 0 _ rfl) hb
    by_cases hkn : k < nl
    · obtain ⟨p, hp⟩ : ∃ p, psl[k]? = some p := ⟨_, List.getElem?_eq_getElem (by rw [HN.out.1]; exact hkn)⟩
      obtain ⟨b, o, cs, rfl, hr1, hp1⟩ := HL.out.1 k p hp
      obtain ⟨b', o', cs', rfl, hr2, hp2⟩ := HL.out.2.1 k p hp
      have hl1 := hp1.len
      have hl2 := hp2.len
      have HG := Lib.hid (HGG.out p (List.mem_append.2 (.inl (List.mem_of_getElem? hp))))
      have HPP := Lib.hid (And.intro (hp1.below hb) (hp2.below hb))
      have HTS : Hid (∀ w', Below wr.heap.size wr w' → w'.cell? ⟨xa, 0, none⟩ = some (.slice (some ⟨b, o, none⟩) nl cl) ∧ w'.cell? ⟨xa + 1, 0, none⟩ = some (.slice (some ⟨b', o', none⟩) nl cl') ∧ w'.rangeAt b (o + k * 3) cs ∧ w'.rangeAt b' (o' + k * 3) cs') := Lib.hid fun w' h => ⟨cell_below e2 h, cell_below (cell_below (HZ.out.2.cellD 0 _ rfl) hb) h, range_below (range_below hr1 hb) h, range_below (range_below hr2 hb) h⟩
      have i1 : (Tryd.prog.info? 32).map (·.size) = some cs.length := by rw [hl1]; kernel_rfl
      have i2 : (Tryd.prog.info? 98).map (·.size) = some cs'.length := by rw [hl2]; kernel_rfl
      have u1 := Tryd.underlying32
      have u2 := Tryd.underlying98
      have hk1 : (k : Int) < (nl : Int) := by omega
      have hn9 : nl ≤ 1000 := HN9.out.1
      have HB : Hid (Below wr.heap.size wr (wr.drewN 1)) := Lib.hid (refl_drewN wr 1)
      clear hp hr1 hp1 hl1 hr2 hp2 hl2 hb
      go_wp2_with fail
      clear e2
      refine wp_region_held_drew (S := (fun w' => w'.cell? ⟨xa, 0, none⟩ = some (.slice (some ⟨b, o, none⟩) nl cl) ∧ w'.cell? ⟨xa + 1, 0, none⟩ = some (.slice (some ⟨b', o', none⟩) nl cl') ∧ w'.rangeAt b (o + k * 3) cs ∧ w'.rangeAt b' (o' + k * 3) cs')) (by kernel_rfl) ?q0s0 (fun hHeld => ?_)
      case q0s0 => exact HTS.out _ HB.out
      refine held_take (i := 0) (v := ?q01v) rfl (by kernel_rfl) (by kernel_rfl) (by kernel_rfl) (fun _ _ _ h => h) (by rfl) ?q01y hHeld ?_
      case q01y => ((intro w _hSw; (try dsimp only at _hSw); go_simp); try (with_reducible rfl))
      try simp only [Act.put, List.setIfInBounds_toArray, List.set_cons_zero, List.set_cons_succ]
      refine held_take (i := 1) (v := ?q02v) rfl (by kernel_rfl) (by kernel_rfl) (by kernel_rfl) (fun _ _ _ h => h) (by rfl) ?q02y hHeld ?_
      case q02y => ((intro w _hSw; (try dsimp only at _hSw); go_simp); try (with_reducible rfl))
      try simp only [Act.put, List.setIfInBounds_toArray, List.set_cons_zero, List.set_cons_succ]
      refine held_take (i := 2) (v := ?q03v) rfl (by kernel_rfl) (by kernel_rfl) (by kernel_rfl) (fun _ _ _ h => h) (by rfl) ?q03y hHeld ?_
      case q03y => ((intro w _hSw; (try dsimp only at _hSw); go_simp); try (with_reducible rfl))
      try simp only [Act.put, List.setIfInBounds_toArray, List.set_cons_zero, List.set_cons_succ]
      refine held_take (i := 3) (v := ?q04v) rfl (by kernel_rfl) (by kernel_rfl) (by kernel_rfl) (fun _ _ _ h => h) (by rfl) ?q04y hHeld ?_
      case q04y => ((intro w _hSw; (try dsimp only at _hSw); go_simp); try (with_reducible rfl))
      try simp only [Act.put, List.setIfInBounds_toArray, List.set_cons_zero, List.set_cons_succ]
      refine held_row (i := 4) rfl (by kernel_rfl) (by kernel_rfl) (by kernel_rfl) _ _ rfl _ _ rfl ?q05C ?q05D (fun _ _ _ h => h) (by rfl) ?q05a ?q05b ?q05c ?q05d hHeld ?_
      case q05a => (intro w hSw; (try dsimp only at hSw); go_split_ands; assumption)
      case q05b => assumption
      case q05c => rfl
      case q05d => first | assumption | (simp only [*]; done)
      try simp only [Act.put, List.setIfInBounds_toArray, List.set_cons_zero, List.set_cons_succ]
      refine held_take (i := 5) (v := ?q06v) rfl (by kernel_rfl) (by kernel_rfl) (by kernel_rfl) (fun _ _ _ h => h) (by rfl) ?q06y hHeld ?_
      case q06y => ((intro w _hSw; (try dsimp only at _hSw); go_simp); try (with_reducible rfl))
      try simp only [Act.put, List.setIfInBounds_toArray, List.set_cons_zero, List.set_cons_succ]
      refine held_take (i := 6) (v := ?q07v) rfl (by kernel_rfl) (by kernel_rfl) (by kernel_rfl) (fun _ _ _ h => h) (by rfl) ?q07y hHeld ?_
      case q07y => ((intro w _hSw; (try dsimp only at _hSw); go_simp); try (with_reducible rfl))
      try simp only [Act.put, List.setIfInBounds_toArray, List.set_cons_zero, List.set_cons_succ]
      refine held_take (i := 7) (v := ?q08v) rfl (by kernel_rfl) (by kernel_rfl) (by kernel_rfl) (fun _ _ _ h => h) (by rfl) ?q08y hHeld ?_
      case q08y => ((intro w _hSw; (try dsimp only at _hSw); go_simp); try (with_reducible rfl))
      try simp only [Act.put, List.setIfInBounds_toArray, List.set_cons_zero, List.set_cons_succ]
      refine held_take (i := 8) (v := ?q09v) rfl (by kernel_rfl) (by kernel_rfl) (by kernel_rfl) (fun _ _ _ h => h) (by rfl) ?q09y hHeld ?_
      case q09y => ((intro w _hSw; (try dsimp only at _hSw); go_simp); try (with_reducible rfl))
      try simp only [Act.put, List.setIfInBounds_toArray, List.set_cons_zero, List.set_cons_succ]
      refine held_row (i := 9) rfl (by kernel_rfl) (by kernel_rfl) (by kernel_rfl) _ _ rfl _ _ rfl ?q010C ?q010D (fun _ _ _ h => h) (by rfl) ?q010a ?q010b ?q010c ?q010d hHeld ?_
      case q010a => (intro w hSw; (try dsimp only at hSw); go_split_ands; assumption)
      case q010b => assumption
      case q010c => rfl
      case q010d => first | assumption | (simp only [*]; done)
      try simp only [Act.put, List.setIfInBounds_toArray, List.set_cons_zero, List.set_cons_succ]
      refine held_step (i := 10) rfl (by kernel_rfl) (by rfl) (fun K hK => ?_)
      go_simp
      refine (same_yes 0 0 p cs cs' _ (HPP.out.1.below HB.out) (HPP.out.2.below HB.out) HG.out.1 HG.out.2).mono ?_
      rintro e wc ⟨rfl, hb⟩
      have HB := Lib.hid (below_then HB.out HB.out.size hb)
      clear hb
      go_wp2_with fail
      have hHeld := HTS.out _ HB.out
      refine hK.out _ _ (HTS.out _ HB.out) ?_
      clear hK K
      try simp only [Act.put, List.setIfInBounds_toArray, List.set_cons_zero, List.set_cons_succ]
      refine held_take (i := 11) (v := ?q011v) rfl (by kernel_rfl) (by kernel_rfl) (by kernel_rfl) (fun _ _ _ h => h) (by rfl) ?q011y hHeld ?_
      case q011y => ((intro w _hSw; (try dsimp only at _hSw); go_simp); try (with_reducible rfl))
      try simp only [Act.put, List.setIfInBounds_toArray, List.set_cons_zero, List.set_cons_succ]
      refine wpAnyH_done (by kernel_rfl) ?_ _
      clear hHeld
      go_wp2
      refine ⟨⟨k + 1, by simp, by omega, below_then HBR.out HBR.out.size HB.out⟩, ?_⟩
      show nl - Int.toNat ((k : Int) + 1) < nl - Int.toNat (k : Int)
      omega
    · have hk1 : ¬ (k : Int) < (nl : Int) := by omega
      clear hb
      go_wp2_with fail
      clear e2
      go_loopw [6] (fun v5 wr => SamesInv w2 nr v5 wr) (fun v5 _ => nr - (intOf v5).toNat)
      case atStart => exact ⟨0, rfl, Nat.zero_le _, HBR.out⟩
      case round =>
        obtain ⟨k, rfl, hk, hb⟩ := hrel
        have HBR := Lib.hid hb
        have e2 := cell_below (HZ.out.1.cellD 1 _ rfl) hb
        by_cases hkn : k < nr
        · obtain ⟨p, hp⟩ : ∃ p, psr[k]? = some p := ⟨_, List.getElem?_eq_getElem (by rw [HN.out.2]; exact hkn)⟩
          obtain ⟨b, o, cs, rfl, hr1, hp1⟩ := HL.out.2.2.1 k p hp
          obtain ⟨b', o', cs', rfl, hr2, hp2⟩ := HL.out.2.2.2 k p hp
          have hl1 := hp1.len
          have hl2 := hp2.len
          have HG := Lib.hid (HGG.out p (List.mem_append.2 (.inr (List.mem_of_getElem? hp))))
          have HPP := Lib.hid (And.intro (hp1.below hb) (hp2.below hb))
          have HTS : Hid (∀ w', Below wr.heap.size wr w' → w'.cell? ⟨xa, 1, none⟩ = some (.slice (some ⟨b, o, none⟩) nr cr) ∧ w'.cell? ⟨xa + 1, 1, none⟩ = some (.slice (some ⟨b', o', none⟩) nr cr') ∧ w'.rangeAt b (o + k * 3) cs ∧ w'.rangeAt b' (o' + k * 3) cs') := Lib.hid fun w' h => ⟨cell_below e2 h, cell_below (cell_below (HZ.out.2.cellD 1 _ rfl) hb) h, range_below (range_below hr1 hb) h, range_below (range_below hr2 hb) h⟩
          have i1 : (Tryd.prog.info? 32).map (·.size) = some cs.length := by rw [hl1]; kernel_rfl
          have i2 : (Tryd.prog.info? 98).map (·.size) = some cs'.length := by rw [hl2]; kernel_rfl
          have u1 := Tryd.underlying32
          have u2 := Tryd.underlying98
          have hk1 : (k : Int) < (nr : Int) := by omega
          have hn9 : nr ≤ 1000 := HN9.out.2
          have HB : Hid (Below wr.heap.size wr (wr.drewN 1)) := Lib.hid (refl_drewN wr 1)
          clear hp hr1 hp1 hl1 hr2 hp2 hl2 hb
          go_wp2_with fail
          clear e2
          refine wp_region_held_drew (S := (fun w' => w'.cell? ⟨xa, 1, none⟩ = some (.slice (some ⟨b, o, none⟩) nr cr) ∧ w'.cell? ⟨xa + 1, 1, none⟩ = some (.slice (some ⟨b', o', none⟩) nr cr') ∧ w'.rangeAt b (o + k * 3) cs ∧ w'.rangeAt b' (o' + k * 3) cs')) (by kernel_rfl) ?q1s0 (fun hHeld => ?_)
          case q1s0 => exact HTS.out _ HB.out
          refine held_take (i := 0) (v := ?q11v) rfl (by kernel_rfl) (by kernel_rfl) (by kernel_rfl) (fun _ _ _ h => h) (by rfl) ?q11y hHeld ?_
          case q11y => ((intro w _hSw; (try dsimp only at _hSw); go_simp); try (with_reducible rfl))
          try simp only [Act.put, List.setIfInBounds_toArray, List.set_cons_zero, List.set_cons_succ]
          refine held_take (i := 1) (v := ?q12v) rfl (by kernel_rfl) (by kernel_rfl) (by kernel_rfl) (fun _ _ _ h => h) (by rfl) ?q12y hHeld ?_
          case q12y => ((intro w _hSw; (try dsimp only at _hSw); go_simp); try (with_reducible rfl))
          try simp only [Act.put, List.setIfInBounds_toArray, List.set_cons_zero, List.set_cons_succ]
          refine held_take (i := 2) (v := ?q13v) rfl (by kernel_rfl) (by kernel_rfl) (by kernel_rfl) (fun _ _ _ h => h) (by rfl) ?q13y hHeld ?_
          case q13y => ((intro w _hSw; (try dsimp only at _hSw); go_simp); try (with_reducible rfl))
          try simp only [Act.put, List.setIfInBounds_toArray, List.set_cons_zero, List.set_cons_succ]
          refine held_take (i := 3) (v := ?q14v) rfl (by kernel_rfl) (by kernel_rfl) (by kernel_rfl) (fun _ _ _ h => h) (by rfl) ?q14y hHeld ?_
          case q14y => ((intro w _hSw; (try dsimp only at _hSw); go_simp); try (with_reducible rfl))
          try simp only [Act.put, List.setIfInBounds_toArray, List.set_cons_zero, List.set_cons_succ]
          refine held_row (i := 4) rfl (by kernel_rfl) (by kernel_rfl) (by kernel_rfl) _ _ rfl _ _ rfl ?q15C ?q15D (fun _ _ _ h => h) (by rfl) ?q15a ?q15b ?q15c ?q15d hHeld ?_
          case q15a => (intro w hSw; (try dsimp only at hSw); go_split_ands; assumption)
          case q15b => assumption
          case q15c => rfl
          case q15d => first | assumption | (simp only [*]; done)
          try simp only [Act.put, List.setIfInBounds_toArray, List.set_cons_zero, List.set_cons_succ]
          refine held_take (i := 5) (v := ?q16v) rfl (by kernel_rfl) (by kernel_rfl) (by kernel_rfl) (fun _ _ _ h => h) (by rfl) ?q16y hHeld ?_
          case q16y => ((intro w _hSw; (try dsimp only at _hSw); go_simp); try (with_reducible rfl))
          try simp only [Act.put, List.setIfInBounds_toArray, List.set_cons_zero, List.set_cons_succ]
          refine held_take (i := 6) (v := ?q17v) rfl (by kernel_rfl) (by kernel_rfl) (by kernel_rfl) (fun _ _ _ h => h) (by rfl) ?q17y hHeld ?_
          case q17y => ((intro w _hSw; (try dsimp only at _hSw); go_simp); try (with_reducible rfl))
          try simp only [Act.put, List.setIfInBounds_toArray, List.set_cons_zero, List.set_cons_succ]
          refine held_take (i := 7) (v := ?q18v) rfl (by kernel_rfl) (by kernel_rfl) (by kernel_rfl) (fun _ _ _ h => h) (by rfl) ?q18y hHeld ?_
          case q18y => ((intro w _hSw; (try dsimp only at _hSw); go_simp); try (with_reducible rfl))
          try simp only [Act.put, List.setIfInBounds_toArray, List.set_cons_zero, List.set_cons_succ]
          refine held_take (i := 8) (v := ?q19v) rfl (by kernel_rfl) (by kernel_rfl) (by kernel_rfl) (fun _ _ _ h => h) (by rfl) ?q19y hHeld ?_
          case q19y => ((intro w _hSw; (try dsimp only at _hSw); go_simp); try (with_reducible rfl))
          try simp only [Act.put, List.setIfInBounds_toArray, List.set_cons_zero, List.set_cons_succ]
          refine held_row (i := 9) rfl (by kernel_rfl) (by kernel_rfl) (by kernel_rfl) _ _ rfl _ _ rfl ?q110C ?q110D (fun _ _ _ h => h) (by rfl) ?q110a ?q110b ?q110c ?q110d hHeld ?_
          case q110a => (intro w hSw; (try dsimp only at hSw); go_split_ands; assumption)
          case q110b => assumption
          case q110c => rfl
          case q110d => first | assumption | (simp only [*]; done)
          try simp only [Act.put, List.setIfInBounds_toArray, List.set_cons_zero, List.set_cons_succ]
          refine held_step (i := 10) rfl (by kernel_rfl) (by rfl) (fun K hK => ?_)
          go_simp
          refine (same_yes 0 0 p cs cs' _ (HPP.out.1.below HB.out) (HPP.out.2.below HB.out) HG.out.1 HG.out.2).mono ?_
          rintro e wc ⟨rfl, hb⟩
          have HB := Lib.hid (below_then HB.out HB.out.size hb)
          clear hb
          go_wp2_with fail
          have hHeld := HTS.out _ HB.out
          refine hK.out _ _ (HTS.out _ HB.out) ?_
          clear hK K
          try simp only [Act.put, List.setIfInBounds_toArray, List.set_cons_zero, List.set_cons_succ]
          refine held_take (i := 11) (v := ?q111v) rfl (by kernel_rfl) (by kernel_rfl) (by kernel_rfl) (fun _ _ _ h => h) (by rfl) ?q111y hHeld ?_
          case q111y => ((intro w _hSw; (try dsimp only at _hSw); go_simp); try (with_reducible rfl))
          try simp only [Act.put, List.setIfInBounds_toArray, List.set_cons_zero, List.set_cons_succ]
          refine wpAnyH_done (by kernel_rfl) ?_ _
          clear hHeld
          go_wp2
          refine ⟨⟨k + 1, by simp, by omega, below_then HBR.out HBR.out.size HB.out⟩, ?_⟩
          show nr - Int.toNat ((k : Int) + 1) < nr - Int.toNat (k : Int)
          omega
        · have hk1 : ¬ (k : Int) < (nr : Int) := by omega
          clear hb
          go_wp2
          go_ret
          exact ⟨rfl, below_then HW.out HW.out.size HBR.out⟩
end Go.Proofs.YtdekealpachhmaaDoor

namespace Go.Isth
open Go Go.RowKit
def noP : PrfV := ⟨[], [], []⟩
end Go.Isth
namespace Go.Proofs.YtdekealpachhmaaDoor
open Go Go.RowKit Go.Isth

/-- What Exist and None answer. -/
def exP (key : Str) : Option Av → PrfV
  | none => noP
  | some t => match t.get key with | none => noP | some _ => madeP t (t.find key)
def exK (key : Str) (t : Option Av) : Nat := match getO key t with | none => 8 | some _ => 0
def noL (key : Str) : Option Av → List PrfV
  | none => []
  | some t => match t.get key with | none => leftP t (t.find key) | some _ => []
def noR (key : Str) : Option Av → List PrfV
  | none => []
  | some t => match t.get key with | none => rightP t (t.find key) | some _ => []
def noK (key : Str) (t : Option Av) : Nat := match getO key t with | none => 0 | some _ => 9
def ErrK (w : World) (v : Value) (k : Nat) : Prop := (k = 0 ∧ v = .nilIface) ∨ FaultIs w v (k : Nat)
theorem ErrK.below {w w' : World} {v : Value} {k : Nat} (h : ErrK w v k) (hb : Below w.heap.size w w') : ErrK w' v k := by
  rcases h with h | h
  · exact .inl h
  · exact .inr (h.below hb)
theorem num08_to (v : Value) (k : Nat) (w : World) (h : ErrK w v k) (hg : TypeLaid w) : Calls Tryd.prog 17 #[v] w fun e w' => e = .returned (.int .i64 (k : Nat)) ∧ Below w.heap.size w w' := by
  rcases h with ⟨rfl, rfl⟩ | h
  · exact num08_nil w
  · exact num08_any v k w h hg
theorem listP_oneC {w : World} {v : Value} {ps : List PrfV} (h : ListP w v ps) : v.oneCell' = true := by
  obtain ⟨A, c, rfl, _⟩ := h
  rfl
theorem noPrf_is (n : Nat) (w : World) : PrfC n w noP noPrf := ⟨none, 0, rfl, Nat.le_refl _, Rd.nil _ _, by simp⟩
theorem noAbs_is (w : World) : ListP w (.slice none 0 0) [] := ⟨none, 0, rfl, Nat.le_refl _, fun i p h => by simp at h⟩
theorem exist_all (t : Option Av) (v : Value) (key : Str) (w : World) (h : TreeO w t v) (hg : Isth.Good t) (hm : manyO t ≤ 900000) :
    Calls Tryd.prog 13 #[v, S8 key] w fun e w' => ∃ (cs : List Value) (ev : Value), e = .returned (.tuple #[.agg cs.toArray, ev]) ∧ PrfC 0 w' (exP key t) cs ∧ ErrK w' ev (exK key t) ∧ Below w.heap.size w w' := by
  cases hq : getO key t with
  | none =>
    refine (exist_no t v key w h hq).mono ?_
    rintro e w' ⟨ev, rfl, hf, hb⟩
    have e1 : exP key t = noP := by
      cases t with
      | none => rfl
      | some t => simp only [getO] at hq; simp only [exP, hq]
    have e2 : exK key t = 8 := by simp only [exK, hq]
    rw [e1, e2]
    exact ⟨_, ev, rfl, noPrf_is _ _, .inr hf, hb⟩
  | some u =>
    cases t with
    | none => cases hq
    | some t =>
      obtain ⟨g, rfl, ht⟩ := h
      simp only [getO] at hq
      refine (exist_yes t g key u w ht hg.2 hq hm).mono ?_
      rintro e w' ⟨cs, rfl, hp, hb⟩
      have e1 : exP key (some t) = madeP t (t.find key) := by simp only [exP, hq]
      have e2 : exK key (some t) = 0 := by simp only [exK, getO, hq]
      rw [e1, e2]
      exact ⟨_, _, rfl, hp.mono (Nat.zero_le _), .inl ⟨rfl, rfl⟩, hb⟩
theorem rexist_all (t : Option Av) (key : Str) (cs : List Value) (w : World) (h : RO w t cs) (hg : Isth.Good t) (hm : manyO t ≤ 900000) (hs : SmallP (pairsO t)) :
    Calls Tryd.prog 48 #[.agg cs.toArray, S8 key] w fun e w' => ∃ cp : List Value, e = .returned (.tuple #[.agg cp.toArray, .int .i64 (exK key t : Nat)]) ∧ PrfC 0 w' (exP key t) cp ∧ Below w.heap.size w w' := by
  cases hq : getO key t with
  | none =>
    refine (rexist_no t key cs w h hg hq hm).mono ?_
    rintro e w' ⟨rfl, hb⟩
    have e1 : exP key t = noP := by
      cases t with
      | none => rfl
      | some t => simp only [getO] at hq; simp only [exP, hq]
    have e2 : exK key t = 8 := by simp only [exK, hq]
    rw [e1, e2]
    exact ⟨_, rfl, noPrf_is _ _, hb⟩
  | some u =>
    cases t with
    | none => cases hq
    | some t =>
      simp only [getO] at hq
      refine (rexist_yes t key u (t.find key) cs w h hg hq rfl hm hs).mono ?_
      rintro e w' ⟨cp, rfl, hp, hb⟩
      have e1 : exP key (some t) = madeP t (t.find key) := by simp only [exP, hq]
      have e2 : exK key (some t) = 0 := by simp only [exK, getO, hq]
      rw [e1, e2]
      exact ⟨_, rfl, hp.mono (Nat.zero_le _), hb⟩
theorem find_pos (t : Av) (key : Str) : t.find key ≤ t.many := find_le t key
theorem none_all (t : Option Av) (v : Value) (key : Str) (w : World) (h : TreeO w t v) (hm : manyO t ≤ 900000) :
    Calls Tryd.prog 14 #[v, S8 key] w fun e w' => ∃ vl vr ev, e = .returned (.tuple #[.agg #[vl, vr], ev]) ∧ ListP w' vl (noL key t) ∧ ListP w' vr (noR key t) ∧ ErrK w' ev (noK key t) ∧ Below w.heap.size w w' := by
  cases hq : getO key t with
  | some u =>
    refine (none_no t v key u w h hq).mono ?_
    rintro e w' ⟨ev, rfl, hf, hb⟩
    have e1 : noL key t = [] ∧ noR key t = [] := by
      cases t with
      | none => exact ⟨rfl, rfl⟩
      | some t => simp only [getO] at hq; simp only [noL, noR, hq, and_self]
    have e2 : noK key t = 9 := by simp only [noK, hq]
    rw [e1.1, e1.2, e2]
    exact ⟨_, _, ev, rfl, noAbs_is _, noAbs_is _, .inr hf, hb⟩
  | none =>
    cases t with
    | none =>
      refine (none_ee v key w h).mono ?_
      rintro e w' ⟨vl, vr, rfl, hl, hr, hb⟩
      exact ⟨vl, vr, _, rfl, hl.list, hr.list, .inl ⟨rfl, rfl⟩, hb⟩
    | some t =>
      obtain ⟨g, rfl, ht⟩ := h
      simp only [getO] at hq
      have e1 : noL key (some t) = leftP t (t.find key) ∧ noR key (some t) = rightP t (t.find key) := by simp only [noL, noR, hq, and_self]
      have e2 : noK key (some t) = 0 := by simp only [noK, getO, hq]
      rw [e1.1, e1.2, e2]
      have hp := t.many_pos
      have close : ∀ {R : Ending → World → Prop}, (∀ e w', (∃ vl vr, e = .returned (.tuple #[.agg #[vl, vr], .nilIface]) ∧ SliceP (w.heap.size + 2) w' vl (leftP t (t.find key)) ∧ SliceP (w.heap.size + 2) w' vr (rightP t (t.find key)) ∧ Below w.heap.size w w') → R e w') → Calls Tryd.prog 14 #[Ptr g, S8 key] w R := fun hR => by
        by_cases h1 : 0 < t.find key
        · by_cases h2 : t.find key < t.many
          · exact (none_yy t g key (t.find key) w ht hq rfl hm ⟨h1, h2⟩).mono hR
          · exact (none_yn t g key (t.find key) w ht hq rfl hm ⟨h1, h2⟩).mono hR
        · exact (none_ny t g key (t.find key) w ht hq rfl hm ⟨by omega, by omega⟩).mono hR
      refine close ?_
      rintro e w' ⟨vl, vr, rfl, hl, hr, hb⟩
      exact ⟨vl, vr, _, rfl, hl.list, hr.list, .inl ⟨rfl, rfl⟩, hb⟩
theorem rnone_all (t : Option Av) (key : Str) (cs : List Value) (w : World) (h : RO w t cs) (hg : Isth.Good t) (hm : manyO t ≤ 900000) (hs : SmallP (pairsO t)) :
    Calls Tryd.prog 49 #[.agg cs.toArray, S8 key] w fun e w' => ∃ vl vr, e = .returned (.tuple #[.agg #[vl, vr], .int .i64 (noK key t : Nat)]) ∧ ListP w' vl (noL key t) ∧ ListP w' vr (noR key t) ∧ Below w.heap.size w w' := by
  cases hq : getO key t with
  | some u =>
    refine (rnone_no t key u cs w h hg hq hm).mono ?_
    rintro e w' ⟨rfl, hb⟩
    have e1 : noL key t = [] ∧ noR key t = [] := by
      cases t with
      | none => exact ⟨rfl, rfl⟩
      | some t => simp only [getO] at hq; simp only [noL, noR, hq, and_self]
    have e2 : noK key t = 9 := by simp only [noK, hq]
    rw [e1.1, e1.2, e2]
    exact ⟨_, _, rfl, noAbs_is _, noAbs_is _, hb⟩
  | none =>
    cases t with
    | none =>
      refine (rnone_ee key cs w h).mono ?_
      rintro e w' ⟨rfl, hb⟩
      exact ⟨_, _, rfl, noAbs_is _, noAbs_is _, hb⟩
    | some t =>
      simp only [getO] at hq
      have e1 : noL key (some t) = leftP t (t.find key) ∧ noR key (some t) = rightP t (t.find key) := by simp only [noL, noR, hq, and_self]
      have e2 : noK key (some t) = 0 := by simp only [noK, getO, hq]
      rw [e1.1, e1.2, e2]
      have hp := t.many_pos
      by_cases h1 : 0 < t.find key
      · by_cases h2 : t.find key < t.many
        · exact rnone_yy t key (t.find key) cs w h hg hq rfl hm hs ⟨h1, h2⟩
        · exact rnone_yn t key (t.find key) cs w h hg hq rfl hm hs ⟨h1, h2⟩
      · exact rnone_ny t key (t.find key) cs w h hg hq rfl hm hs ⟨by omega, by omega⟩
theorem made_facts (t : Av) (i : Nat) (hm : t.many ≤ 40) : (∀ s ∈ (madeP t i).steps, s.other.length = 32) ∧ (madeP t i).steps.length ≤ 1000 := by
  refine ⟨madeP_steps t i, ?_⟩
  have := path_len_le t i
  simp only [madeP, List.length_map]
  omega
theorem exP_facts (key : Str) (t : Option Av) (hm : manyO t ≤ 40) : (∀ s ∈ (exP key t).steps, s.other.length = 32) ∧ (exP key t).steps.length ≤ 1000 := by
  cases t with
  | none => exact ⟨by simp [exP, noP], by simp [exP, noP]⟩
  | some t =>
    simp only [exP]
    split
    · exact ⟨by simp [noP], by simp [noP]⟩
    · exact made_facts t _ hm
theorem no_facts (key : Str) (t : Option Av) (hm : manyO t ≤ 40) : (∀ p ∈ noL key t ++ noR key t, (∀ s ∈ p.steps, s.other.length = 32) ∧ p.steps.length ≤ 1000) ∧ (noL key t).length ≤ 1000 ∧ (noR key t).length ≤ 1000 := by
  cases t with
  | none => exact ⟨by simp [noL, noR], by simp [noL], by simp [noR]⟩
  | some t =>
    simp only [noL, noR]
    split
    · refine ⟨fun p hp => ?_, ?_, ?_⟩
      · rcases List.mem_append.1 hp with hp | hp
        · unfold leftP at hp
          split at hp
          · obtain rfl := List.mem_singleton.1 hp; exact made_facts t _ hm
          · cases hp
        · unfold rightP at hp
          split at hp
          · obtain rfl := List.mem_singleton.1 hp; exact made_facts t _ hm
          · cases hp
      · unfold leftP; split <;> simp
      · unfold rightP; split <;> simp
    · exact ⟨by simp, by simp, by simp⟩
set_option maxRecDepth 100000 in
set_option maxHeartbeats 8000000 in
theorem makes_any (A : Option Addr) (c : Nat) (l : List (Str × Str)) (key : Str) (w : World) (hc : l.length ≤ c) (hr : Rd w A (pairsC l)) (hl : ∀ a ∈ l, a.1.length ≤ 2000000 ∧ a.2.length ≤ 2000000) (hn : l.length ≤ 4611686018427387904) (ht : TabLaid w) (hy : TypeLaid w) :
    Calls Tryd.prog 9 #[.slice A l.length c, S8 key] w fun e w' => e = .returned (.bool true) ∧ Below w.heap.size w w' := by
  obtain ⟨hgood, hmany, hsmall⟩ := grownS_facts l hl
  have HA := Lib.hid (And.intro hc (And.intro hr (And.intro hl (And.intro hn (And.intro ht hy)))))
  clear hc hr hl hn ht hy
  go_enter Tryd.func9, Tryd.ntmps9
  go_wp2_with fail
  refine (grown08_any A c l w HA.out.1 HA.out.2.1 HA.out.2.2.1 HA.out.2.2.2.1 HA.out.2.2.2.2.1).mono ?_
  rintro e w1 ⟨v, cs, rfl, htr, hro, hb⟩
  have HLC := Lib.hid (And.intro hro.len hro.one)
  have HW := Lib.hid hb
  have HTR := Lib.hid (And.intro htr hro)
  clear hro hb htr
  obtain ⟨t, htt⟩ : ∃ t, t = grownS l := ⟨_, rfl⟩
  rw [← htt] at hgood hmany hsmall HTR
  have HGT := Lib.hid (And.intro hgood (And.intro hmany (show SmallP (pairsO t) from hsmall)))
  obtain ⟨ek, hek⟩ : ∃ k, exK key t = k := ⟨_, rfl⟩
  obtain ⟨gk, hgk⟩ : ∃ k, noK key t = k := ⟨_, rfl⟩
  have HK := Lib.hid (And.intro hek hgk)
  have HG := Lib.hid (And.intro (exP_facts key t hmany) (no_facts key t hmany))
  clear hgood hmany hsmall htt hek hgk
  obtain ⟨x6, hx6⟩ : ∃ n, n = w1.heap.size := ⟨_, rfl⟩
  go_wp2_with (refine wpList_store_blk rfl 26 (.tmp 6) (.tmp 19) rfl w1.heap.size cs rfl rfl 26 emptyC (heap_alloc_new w1 _) (by rw [HLC.out.1]; kernel_rfl) (by rw [HLC.out.1]; rfl) HLC.out.2 ?_; intro w2 hz hg
               have hb2 : Below w1.heap.size w1 w2 := ((Below.refl w1.heap.size w1).alloc (Nat.le_refl _) _).grown hg (by simp) (fun q e => by injection e with e; omega)
               have HX6 := Lib.hid hz
               have HW := Lib.hid (below_then HW.out HW.out.size hb2)
               have HTR := Lib.hid (And.intro (HTR.out.1.below hb2) (HTR.out.2.below hb2))
               clear hz hg hb2)
  rw [← hx6] at HX6 ⊢
  clear hx6
  refine (exist_all t v key _ HTR.out.1 HGT.out.1 (by have := HGT.out.2.1; omega)).mono ?_
  rintro e w3 ⟨cp, ev, rfl, hp, he, hb⟩
  rw [HK.out.1] at he
  have HPC := Lib.hid (And.intro hp.len hp.one)
  have HP := Lib.hid hp
  have HE := Lib.hid he
  have HX6 := Lib.hid (HX6.out.below hb)
  have HTR := Lib.hid (And.intro (HTR.out.1.below hb) (HTR.out.2.below hb))
  have HW := Lib.hid (below_then HW.out HW.out.size hb)
  clear hp he hb
  obtain ⟨x7, hx7⟩ : ∃ n, n = w3.heap.size := ⟨_, rfl⟩
  go_upto_region 3 with (refine wpList_store_blk rfl 32 (.tmp 7) (.tmp 24) rfl w3.heap.size cp rfl rfl 32 noPrf (heap_alloc_new w3 _) (by rw [HPC.out.1]; kernel_rfl) (by rw [HPC.out.1]; rfl) HPC.out.2 ?_
                         intro w4 hz hg
                         have hb4 : Below w3.heap.size w3 w4 := ((Below.refl w3.heap.size w3).alloc (Nat.le_refl _) _).grown hg (by simp) (fun q e => by injection e with e; omega)
                         have HX7 := Lib.hid hz
                         have HP := Lib.hid (HP.out.below hb4)
                         have HE := Lib.hid (HE.out.below hb4)
                         have HX6 := Lib.hid (HX6.out.below hb4)
                         have HTR := Lib.hid (And.intro (HTR.out.1.below hb4) (HTR.out.2.below hb4))
                         have HW := Lib.hid (below_then HW.out HW.out.size hb4)
                         clear hz hg hb4)
  rw [← hx7] at HX7 ⊢
  clear hx7
  have HLD := Lib.hid (ld_tree HX6.out HLC.out.1)
  go_wp2_with (refine wpList_load rfl (.tmp 6) rfl ⟨x6, 0, none⟩ (.agg cs.toArray) rfl HLD.out ?_)
  refine (rexist_all t key cs _ HTR.out.2 HGT.out.1 (by have := HGT.out.2.1; omega) HGT.out.2.2).mono ?_
  rintro e w5 ⟨cq, rfl, hq, hb⟩
  rw [HK.out.1]
  have HQC := Lib.hid (And.intro hq.len hq.one)
  have HP := Lib.hid (And.intro (HP.out.below hb) hq)
  have HE := Lib.hid (HE.out.below hb)
  have HX6 := Lib.hid (HX6.out.below hb)
  have HX7 := Lib.hid (HX7.out.below hb)
  have HTR := Lib.hid (And.intro (HTR.out.1.below hb) (HTR.out.2.below hb))
  have HW := Lib.hid (below_then HW.out HW.out.size hb)
  clear hq hb
  obtain ⟨x9, hx9⟩ : ∃ n, n = w5.heap.size := ⟨_, rfl⟩
  go_upto_region 4 with (refine wpList_store_blk rfl 98 (.tmp 9) (.tmp 30) rfl w5.heap.size cq rfl rfl 98 noPrf (heap_alloc_new w5 _) (by rw [HQC.out.1]; kernel_rfl) (by rw [HQC.out.1]; rfl) HQC.out.2 ?_
                         intro w6 hz hg
                         have hb4 : Below w5.heap.size w5 w6 := ((Below.refl w5.heap.size w5).alloc (Nat.le_refl _) _).grown hg (by simp) (fun q e => by injection e with e; omega)
                         have HX9 := Lib.hid hz
                         have HP := Lib.hid (And.intro (HP.out.1.below hb4) (HP.out.2.below hb4))
                         have HE := Lib.hid (HE.out.below hb4)
                         have HX6 := Lib.hid (HX6.out.below hb4)
                         have HX7 := Lib.hid (HX7.out.below hb4)
                         have HTR := Lib.hid (And.intro (HTR.out.1.below hb4) (HTR.out.2.below hb4))
                         have HW := Lib.hid (below_then HW.out HW.out.size hb4)
                         clear hz hg hb4)
  rw [← hx9] at HX9 ⊢
  clear hx9
  go_wp2_with fail
  refine (none_all t v key _ HTR.out.1 (by have := HGT.out.2.1; omega)).mono ?_
  rintro e w7 ⟨vl, vr, gv, rfl, hl, hr, hge, hb⟩
  rw [HK.out.2] at hge
  have HL := Lib.hid (And.intro hl hr)
  have HLO := Lib.hid (two_one (listP_oneC hl) (listP_oneC hr))
  have HE := Lib.hid (And.intro (HE.out.below hb) hge)
  have HP := Lib.hid (And.intro (HP.out.1.below hb) (HP.out.2.below hb))
  have HX6 := Lib.hid (HX6.out.below hb)
  have HX7 := Lib.hid (HX7.out.below hb)
  have HX9 := Lib.hid (HX9.out.below hb)
  have HTR := Lib.hid (HTR.out.2.below hb)
  have HW := Lib.hid (below_then HW.out HW.out.size hb)
  clear hl hr hge hb
  obtain ⟨x11, hx11⟩ : ∃ n, n = w7.heap.size := ⟨_, rfl⟩
  go_upto_region 5 with (refine wpList_store_blk rfl 41 (.tmp 11) (.tmp 36) rfl w7.heap.size [vl, vr] rfl rfl 41 noAbs (heap_alloc_new w7 _) (by kernel_rfl) rfl HLO.out ?_
                         intro w8 hz hg
                         have hb4 : Below w7.heap.size w7 w8 := ((Below.refl w7.heap.size w7).alloc (Nat.le_refl _) _).grown hg (by simp) (fun q e => by injection e with e; omega)
                         have HX11 := Lib.hid hz
                         have HL := Lib.hid (And.intro (HL.out.1.below hb4) (HL.out.2.below hb4))
                         have HP := Lib.hid (And.intro (HP.out.1.below hb4) (HP.out.2.below hb4))
                         have HE := Lib.hid (And.intro (HE.out.1.below hb4) (HE.out.2.below hb4))
                         have HX6 := Lib.hid (HX6.out.below hb4)
                         have HX7 := Lib.hid (HX7.out.below hb4)
                         have HX9 := Lib.hid (HX9.out.below hb4)
                         have HTR := Lib.hid (HTR.out.below hb4)
                         have HW := Lib.hid (below_then HW.out HW.out.size hb4)
                         clear hz hg hb4)
  rw [← hx11] at HX11 ⊢
  clear hx11
  have HLD := Lib.hid (ld_tree HX6.out HLC.out.1)
  go_wp2_with (refine wpList_load rfl (.tmp 6) rfl ⟨x6, 0, none⟩ (.agg cs.toArray) rfl HLD.out ?_)
  refine (rnone_all t key cs _ HTR.out HGT.out.1 (by have := HGT.out.2.1; omega) HGT.out.2.2).mono ?_
  rintro e w9 ⟨vl', vr', rfl, hl, hr, hb⟩
  rw [HK.out.2]
  have HL := Lib.hid (And.intro (HL.out.1.below hb) (And.intro (HL.out.2.below hb) (And.intro hl hr)))
  have HLO := Lib.hid (two_one (listP_oneC hl) (listP_oneC hr))
  have HE := Lib.hid (And.intro (HE.out.1.below hb) (HE.out.2.below hb))
  have HP := Lib.hid (And.intro (HP.out.1.below hb) (HP.out.2.below hb))
  have HX7 := Lib.hid (HX7.out.below hb)
  have HX9 := Lib.hid (HX9.out.below hb)
  have HX11 := Lib.hid (HX11.out.below hb)
  have HW := Lib.hid (below_then HW.out HW.out.size hb)
  clear hl hr hb
  obtain ⟨x13, hx13⟩ : ∃ n, n = w9.heap.size := ⟨_, rfl⟩
  go_upto_region 6 with (refine wpList_store_blk rfl 103 (.tmp 13) (.tmp 42) rfl w9.heap.size [vl', vr'] rfl rfl 103 noAbs (heap_alloc_new w9 _) (by kernel_rfl) rfl HLO.out ?_
                         intro w10 hz hg
                         have hb4 : Below w9.heap.size w9 w10 := ((Below.refl w9.heap.size w9).alloc (Nat.le_refl _) _).grown hg (by simp) (fun q e => by injection e with e; omega)
                         have HX13 := Lib.hid hz
                         have HL := Lib.hid (And.intro (HL.out.1.below hb4) (And.intro (HL.out.2.1.below hb4) (And.intro (HL.out.2.2.1.below hb4) (HL.out.2.2.2.below hb4))))
                         have HP := Lib.hid (And.intro (HP.out.1.below hb4) (HP.out.2.below hb4))
                         have HE := Lib.hid (And.intro (HE.out.1.below hb4) (HE.out.2.below hb4))
                         have HX7 := Lib.hid (HX7.out.below hb4)
                         have HX9 := Lib.hid (HX9.out.below hb4)
                         have HX11 := Lib.hid (HX11.out.below hb4)
                         have HW := Lib.hid (below_then HW.out HW.out.size hb4)
                         clear hz hg hb4)
  rw [← hx13] at HX13 ⊢
  clear hx13
  obtain ⟨ca, hca⟩ : ∃ ca, ca = [vl, vr] := ⟨_, rfl⟩
  obtain ⟨cb, hcb⟩ : ∃ ca, ca = [vl', vr'] := ⟨_, rfl⟩
  have HCA := Lib.hid (And.intro hca hcb)
  rw [← hca] at HX11
  rw [← hcb] at HX13
  have HTT := Lib.hid (And.intro (HA.out.2.2.2.2.1.below HW.out HA.out.2.2.2.2.1.lt) (HA.out.2.2.2.2.2.below HW.out HA.out.2.2.2.2.2.lt))
  have HTS : Hid (∀ w', Below w10.heap.size w10 w' → w'.rangeAt x7 0 cp ∧ w'.rangeAt x9 0 cq ∧ w'.rangeAt x11 0 ca ∧ w'.rangeAt x13 0 cb) := Lib.hid fun w' h => ⟨range_below (blk_range HX7.out) h, range_below (blk_range HX9.out) h, range_below (blk_range HX11.out) h, range_below (blk_range HX13.out) h⟩
  have i1 : (Tryd.prog.info? 32).map (·.size) = some cp.length := by rw [HPC.out.1]; kernel_rfl
  have i2 : (Tryd.prog.info? 98).map (·.size) = some cq.length := by rw [HQC.out.1]; kernel_rfl
  have i3 : (Tryd.prog.info? 41).map (·.size) = some ca.length := by rw [hca]; kernel_rfl
  have i4 : (Tryd.prog.info? 103).map (·.size) = some cb.length := by rw [hcb]; kernel_rfl
  have hl1 : ∀ w : World, w.rangeAt x7 0 cp → (loadVar 32 ⟨x7, 0, none⟩).run Tryd.prog w = .ok (.agg cp.toArray) w := fun w h => run_load_agg (P := Tryd.prog) Tryd.underlying32 rfl i1 w ⟨x7, 0, none⟩ cp rfl (fun j u hj => by rw [add_plain]; exact h j u hj)
  have hl2 : ∀ w : World, w.rangeAt x9 0 cq → (loadVar 98 ⟨x9, 0, none⟩).run Tryd.prog w = .ok (.agg cq.toArray) w := fun w h => run_load_agg (P := Tryd.prog) Tryd.underlying98 rfl i2 w ⟨x9, 0, none⟩ cq rfl (fun j u hj => by rw [add_plain]; exact h j u hj)
  have hl3 : ∀ w : World, w.rangeAt x11 0 ca → (loadVar 41 ⟨x11, 0, none⟩).run Tryd.prog w = .ok (.agg ca.toArray) w := fun w h => run_load_agg (P := Tryd.prog) Tryd.underlying41 rfl i3 w ⟨x11, 0, none⟩ ca rfl (fun j u hj => by rw [add_plain]; exact h j u hj)
  have hl4 : ∀ w : World, w.rangeAt x13 0 cb → (loadVar 103 ⟨x13, 0, none⟩).run Tryd.prog w = .ok (.agg cb.toArray) w := fun w h => run_load_agg (P := Tryd.prog) Tryd.underlying103 rfl i4 w ⟨x13, 0, none⟩ cb rfl (fun j u hj => by rw [add_plain]; exact h j u hj)
  have HT : Hid (∀ w', Below w10.heap.size w10 w' → (loadVar 32 ⟨x7, 0, none⟩).run Tryd.prog w' = .ok (.agg cp.toArray) w' ∧ (loadVar 98 ⟨x9, 0, none⟩).run Tryd.prog w' = .ok (.agg cq.toArray) w' ∧ (loadVar 41 ⟨x11, 0, none⟩).run Tryd.prog w' = .ok (.agg ca.toArray) w' ∧ (loadVar 103 ⟨x13, 0, none⟩).run Tryd.prog w' = .ok (.agg cb.toArray) w') := Lib.hid fun w' h => ⟨hl1 w' (HTS.out w' h).1, hl2 w' (HTS.out w' h).2.1, hl3 w' (HTS.out w' h).2.2.1, hl4 w' (HTS.out w' h).2.2.2⟩
  have HB : Hid (Below w10.heap.size w10 w10) := Lib.hid (Below.refl _ _)
  clear hl1 hl2 hl3 hl4 i1 i2 i3 i4 hca hcb
  go_wp2_with (first | (refine wpList_load rfl (.tmp 7) rfl ⟨x7, 0, none⟩ (.agg cp.toArray) rfl (HT.out _ HB.out).1 ?_) | (refine wpList_load rfl (.tmp 9) rfl ⟨x9, 0, none⟩ (.agg cq.toArray) rfl (HT.out _ HB.out).2.1 ?_))
  refine (same_yes 0 0 (exP key t) cp cq _ (HP.out.1.below HB.out) (HP.out.2.below HB.out) HG.out.1.1 HG.out.1.2).mono ?_
  rintro e wc ⟨rfl, hb⟩
  have HB := Lib.hid (below_then HB.out HB.out.size hb)
  clear hb
  go_wp2_with fail
  refine (num08_to ev ek _ (HE.out.1.below HB.out) (HTT.out.2.below HB.out HTT.out.2.lt)).mono ?_
  rintro e wc ⟨rfl, hb⟩
  have HB := Lib.hid (below_then HB.out HB.out.size hb)
  clear hb
  obtain ⟨-, -, h11, h13⟩ := HTS.out _ HB.out
  rw [HCA.out.1] at h11
  rw [HCA.out.2] at h13
  have h110 := h11 0 vl rfl
  have h111 := h11 1 vr rfl
  have h130 := h13 0 vl' rfl
  have h131 := h13 1 vr' rfl
  simp only [Nat.zero_add] at h110 h111 h130 h131
  clear h11 h13
  go_wp2_with fail
  clear h110 h111 h130 h131
  refine (sames_yes (noL key t) (noR key t) vl vr vl' vr' _ (HL.out.1.below HB.out) (HL.out.2.1.below HB.out) (HL.out.2.2.1.below HB.out) (HL.out.2.2.2.below HB.out) HG.out.2.1 HG.out.2.2).mono ?_
  rintro e wc ⟨rfl, hb⟩
  have HB := Lib.hid (below_then HB.out HB.out.size hb)
  clear hb
  go_wp2_with fail
  refine (num08_to gv gk _ (HE.out.2.below HB.out) (HTT.out.2.below HB.out HTT.out.2.lt)).mono ?_
  rintro e wc ⟨rfl, hb⟩
  have HB := Lib.hid (below_then HB.out HB.out.size hb)
  clear hb
  go_wp2_with fail
  refine (sure08_any _ (HTT.out.1.below HB.out HTT.out.1.lt) (HTT.out.2.below HB.out HTT.out.2.lt)).mono ?_
  rintro e wc ⟨rfl, hb⟩
  have HB := Lib.hid (below_then HB.out HB.out.size hb)
  clear hb
  go_wp2
  go_ret
  exact ⟨rfl, below_then HW.out HW.out.size HB.out⟩
end Go.Proofs.YtdekealpachhmaaDoor

namespace Go.Proofs.YtdekealpachhmaaDoor
open Go Go.RowKit Go.ChangeAt Go.Isth

/-- What a pair's cells are. -/
def PairR (_ : World) (cs : List Value) (p : Str × Str) : Prop := cs = pairC p ∧ p.1.length ≤ 1048576 ∧ p.2.length ≤ 1048576
set_option maxRecDepth 100000 in
theorem OpensU.pair : OpensU Tryd.prog 38 PairR := fun H enc w held fuel cs d pl h hw => by
  obtain ⟨xs, m, _, hx, hl, hxl, hf⟩ := DataW.trod_struct Tryd.underlying38 h
  have c9 : Tryd.prog.cellsOf 9 = 1 := by kernel_rfl
  have c38 : Tryd.prog.cellsOf 38 = 2 := by kernel_rfl
  rw [c38] at hl
  injection hx with hd _
  match xs, hxl with
  | [y0, y1], _ =>
    have f0 : DataW.trod enc Tryd.prog w 0 (fun _ => true) held m 9 ((cs.drop 0).take (Tryd.prog.cellsOf 9)) = some y0 := hf 0 _ rfl
    rw [c9] at f0
    have f1 : DataW.trod enc Tryd.prog w 0 (fun _ => true) held m 9 ((cs.drop 1).take (Tryd.prog.cellsOf 9)) = some y1 := hf 1 _ rfl
    rw [c9] at f1
    subst hd
    simp only [Rows.uptoBulk, Rows.uptoBulkAll, List.map_cons, List.map_nil] at hw
    obtain ⟨s0, e0, h0⟩ := OpensU.string Tryd.underlying9 H enc w held m _ y0.1 y0.2 f0 (by omega)
    obtain ⟨s1, e1, h1⟩ := OpensU.string Tryd.underlying9 H enc w held m _ y1.1 y1.2 f1 (by omega)
    refine ⟨(s0, s1), ?_, h0, h1⟩
    match cs, hl with
    | [a, b], _ =>
      have e0' : a = S8 s0 := by simpa using e0
      have e1' : b = S8 s1 := by simpa using e1
      subst e0' e1'
      rfl
theorem o_pairs : OpensU Tryd.prog 22 (fun w cs xs => ∃ v, cs = [v] ∧ SliceU PairR 2 w v xs) :=
  OpensU.slice Tryd.underlying22 (by kernel_rfl) OpensU.pair
theorem pairs_ofU {w : World} {v : Value} {xs : List (Str × Str)} (h : SliceU PairR 2 w v xs) : ∃ A c, v = .slice A xs.length c ∧ xs.length ≤ c ∧ xs.length ≤ 1048576 ∧ Rd w A (pairsC xs) ∧ ∀ a ∈ xs, a.1.length ≤ 2000000 ∧ a.2.length ≤ 2000000 := by
  obtain ⟨A, c, cells, e, hc, hm, hr, hk, _⟩ := h
  have e2 := chunk_flat (R := PairR w) (f := pairC) (fun cs a h => h.1) xs cells hk
  subst e2
  exact ⟨A, c, e, hc, hm, hr, chunk_all (R := PairR w) (p := fun a => a.1.length ≤ 2000000 ∧ a.2.length ≤ 2000000) (fun cs a h => ⟨Nat.le_trans h.2.1 (by decide), Nat.le_trans h.2.2 (by decide)⟩) hk⟩
end Go.Proofs.YtdekealpachhmaaDoor

namespace Go.Proofs.YtdekealpachhmaaDoor.proofMakes
open Go.ChangeShapes Go.WideShapes Go.ChangeAt Go.RowKit Go.Isth Go.ChangeMaps Go.Proofs.YtdekealpachhmaaDoor.card

theorem bulk_bound {H : Type} {l : List (DataW H)} (hk : Rows.uptoSmall H l = true) : Rows.uptoBulkAll l ≤ 1048576 := by
  simpa [Rows.uptoSmall] using hk
set_option maxRecDepth 100000 in
theorem contract (H : Type) (enc : TypeId × Value → H) (W : World) (base : Nat) (args : Array Value) (ds gs : List (DataW H)) (before : List MemPlace)
    (hval : ∀ (j : Nat) t v, Tryd.f9.params[j]? = some t → args[j]? = some v → Value.okWide Tryd.prog W .any base t v)
    (hW : DataW.Whole enc Tryd.prog Tryd.f9.params.toList Rows.proofMakesSpec.vars false W args.toList ds gs before) (hL : laidMetH Tryd.prog Rows.proofMakesUptoRow.laid W)
    (hk : Rows.uptoSmall H (ds ++ gs) = true) :
    Calls Tryd.prog 9 args W fun e W' => ∃ v, e = .returned v ∧ Rows.proofMakesSpec.post enc Tryd.prog Tryd.f9 false true false false W args v W' := by
  have hW' := hW
  obtain ⟨p, q, hA0, hV, rfl, hfz, hnd⟩ := hW
  have hA : DataW.TrodAll enc Tryd.prog W 0 (fun _ => true) true Tryd.f9.params.toList args.toList ds p := hA0
  rw [Tryd.params9] at hA hval
  obtain ⟨v0, vs0, d0, ds0, p0, q0, hargs, rfl, rfl, h0, r0⟩ := trodAll_cons hA
  obtain ⟨v1, vs1, d1, ds1, p1, q1, rfl, rfl, rfl, h1, r1⟩ := trodAll_cons r0
  obtain ⟨rfl, rfl, rfl⟩ := trodAll_nil r1
  obtain rfl : args = #[v0, v1] := by cases args; simp_all
  obtain ⟨rfl, rfl⟩ := trodVars_none hV
  have hbulk : Rows.uptoBulk d0 ≤ 1048576 ∧ Rows.uptoBulk d1 ≤ 1048576 := by
    have h1 := bulk_bound hk
    simp only [List.append_nil, Rows.uptoBulkAll] at h1
    omega
  obtain ⟨A0, len0, cap0, rfl⟩ := okWide_slice Tryd.underlying22 (hval 0 22 v0 rfl rfl)
  have k0 := h0
  have lt0 : ∀ x ∈ p0, x.block < W.heap.size := by obtain ⟨m, hm⟩ := k0; exact DataW.trod_lt m _ _ _ hm
  obtain ⟨fuel0, hf0⟩ := h0
  obtain ⟨xs0, v0, e0, hs0⟩ := o_pairs H enc W true fuel0 _ d0 p0 hf0 hbulk.1
  obtain ⟨A0', c0', rfl, hc0, hm0, hr0, ha0⟩ := pairs_ofU hs0
  simp only [Value.cells, List.cons.injEq, and_true] at e0
  injection e0 with e1 e2 e3
  subst e1
  subst e2
  subst e3
  obtain ⟨s1, rfl, rfl, rfl, w1⟩ := open_string Tryd.underlying9 (hval 1 9 v1 rfl rfl) h1
  have hl1 : s1.data.toList.length ≤ 1048576 := by have := hbulk.2; simp only [Rows.uptoBulk] at this; omega
  clear hA0
  have tab : TabLaid W := rounds_of hL.1
  have ty : TypeCell W := type_of hL.2
  refine (makes_any A0 cap0 xs0 s1.data.toList W hc0 hr0 ha0 (by omega) tab ty).mono fun e W' ⟨he, bel⟩ => ?_
  subst he
  exact ⟨_, rfl, _, _, _, [], _, [], hW', trodAll_mk1 (shut_bool Tryd.underlying4 _), (trodAll_cons_mk (Below.trod laidOut (by kernel_rfl) (of_decide_eq_true (by kernel_rfl)) k0 bel lt0) (trodAll_cons_mk (shut_string Tryd.underlying9 w1) trodAll_mk0)), rfl, bel.frame _, fun h => by cases h⟩

abbrev wit : Array Value := #[.slice none 0 0, .string .empty]
theorem laid_met (os : Os) : laidMetH Tryd.prog Rows.proofMakesUptoRow.laid ((laidWorld os).forCall (fun _ _ => 0) ⟨#[], wit, []⟩).memory := laidMetH_of_parts (rounds_met os wit) (by kernel_rfl)
theorem reads (os : Os) {H : Type} (enc : TypeId × Value → H) : ∃ places, DataW.whole enc Tryd.prog ((laidWorld os).forCall (fun _ _ => 0) ⟨#[], wit, []⟩).memory Tryd.f9.params.toList Rows.proofMakesSpec.vars false wit.toList 8 = some ([.nil, .lit (.string [])], [], places) :=
  ⟨[], by kernel_rfl⟩

set_option maxRecDepth 100000 in
theorem lifted (os : Os) (started : os.Started) (H : Type) (enc : TypeId × Value → H) (F : Stop.Interp) :
    ReturnsInHanded {} Tryd.checked os 9 .any ((Rows.OpenSpec.upto Rows.proofMakesSpec).preRow enc Tryd.prog Tryd.f9 Rows.proofMakesUptoRow.domain false Rows.proofMakesUptoRow.laid) (((Rows.OpenSpec.upto Rows.proofMakesSpec).at F).post enc Tryd.prog Tryd.f9 false true false false) := by
  obtain ⟨places, hx⟩ := reads os enc
  refine returnsInHanded_of_row (C := Tryd.checked) (s := Rows.OpenSpec.upto Rows.proofMakesSpec) own started (by kernel_rfl) Tryd.func9
    (witness_row_atRef (enc := enc) (C := Tryd.checked) false (laidWorld os) wit rfl (by kernel_rfl) (by kernel_rfl) (by kernel_rfl)
      (OpenSpec.preRow_of_cond 8 hx (by kernel_rfl) (fun k hk => by cases hk; rfl) (by kernel_rfl) (laid_met os))) ?_
  intro W base args ds gs before hval hW _ hk _ hL _ _
  exact contract H enc W base args ds gs before hval hW hL (hk Rows.uptoSmall rfl)

theorem said : Rows.ProofMakesUptoSaid :=
  OpenClaim.holds_of_cond 9 Tryd.f9 rfl rfl rfl rfl rfl rfl rfl ⟨rfl, rfl, rfl, rfl, rfl⟩ rfl rfl rfl rfl rfl (by kernel_rfl) Tryd.func9 (by kernel_rfl)
    (of_decide_eq_true (by kernel_rfl)) (by unfold Func.isWrapper; first | (rw [if_pos (by decide +kernel)]; kernel_rfl) | (rw [if_neg (by decide +kernel)]; exact ⟨rfl, rfl⟩))
    (fun os started H enc _ F => by rw [OpenClaim.pre_eq_preRow]; exact lifted os started H enc F)

theorem plain (f : FuncId) (fn : Func) (hf : Tryd.pinned.checked.prog.funcNamed "isthmus/isthmuslaw08.ProofMakes" = some f) (hfn : Tryd.pinned.checked.prog.funcs[f]? = some fn) :
    true = Tryd.pinned.checked.prog.looks [] ∧ ∀ (j : Nat) t, fn.params[j]? = some t → Tryd.pinned.checked.prog.wantsStandIn t = false := by
  obtain rfl : f = 9 := Option.some.inj ((show Tryd.prog.funcNamed "isthmus/isthmuslaw08.ProofMakes" = some 9 by kernel_rfl).symm.trans hf) |>.symm
  obtain rfl : fn = Tryd.f9 := (Option.some.inj (Tryd.func9.symm.trans hfn)).symm
  refine ⟨by kernel_rfl, fun j t ht => ?_⟩
  rw [Tryd.params9] at ht
  have hm := Array.mem_of_getElem? ht
  simp only [List.mem_toArray, List.mem_cons, List.not_mem_nil, or_false] at hm
  rcases hm with rfl | rfl
  · exact (show Tryd.prog.wantsStandIn 22 = false by kernel_rfl)
  · exact (show Tryd.prog.wantsStandIn 9 = false by kernel_rfl)

theorem card : Rows.ProofMakesUptoCardSaid :=
  Claim7.holds_tied_plain_at .later [] _ _ _ _ said (fun _ h => by cases h) (by kernel_rfl) (fun _ h => by cases h) proofMakesUpto_row_tie rfl ⟨rfl, rfl⟩ (by kernel_rfl) rfl plain (by kernel_rfl)
#print axioms card
end Go.Proofs.YtdekealpachhmaaDoor.proofMakes
