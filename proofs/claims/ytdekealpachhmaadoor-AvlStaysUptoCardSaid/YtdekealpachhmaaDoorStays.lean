/- AvlStays' walk. -/
import Derived.Test.YtdekealpachhmaaDoorPaths
import Derived.Test.YtdekealpachhmaaDoorRng2
import Derived.Test.YtdekealpachhmaaDoorSame7
namespace Go.Isth
open Go Go.RowKit
theorem fibP_small : ∀ {j : Nat}, j ≤ 9 → (fibP j).1 ≤ 89 ∧ (fibP j).2 ≤ 89 := by
  intro j hj
  have h1 := fibP_mono hj
  have h2 : (fibP 9).2 = 89 := by decide
  refine ⟨?_, by omega⟩
  cases j with
  | zero => decide
  | succ j => have := fibP_mono (show j ≤ 9 by omega); rw [fibP_fst]; omega
theorem height_small (t : Av) (h : t.Bal) (hm : t.many ≤ 120) : t.height ≤ 10 := by
  have h1 := fibP_many t h
  by_cases hc : t.height ≤ 10
  · exact hc
  · have h2 := fibP_mono (show 10 ≤ t.height - 1 by omega)
    have h3 : (fibP 10).2 = 144 := by decide
    omega
theorem height_facts {u : Option Av} (h : Isth.Good u) (hm : manyO u ≤ 120) : heightO u ≤ 10 ∧ (1 < heightO u → (fibP (heightO u - 1)).2 ≤ manyO u) := by
  cases u with
  | none => exact ⟨Nat.zero_le _, fun h => absurd h (by decide)⟩
  | some t => exact ⟨height_small t h.1 hm, fun _ => fibP_many t h.1⟩
end Go.Isth
namespace Go.Proofs.YtdekealpachhmaaDoor
open Go Go.RowKit Go.Isth

theorem stays_facts (u : Option Av) (ac : ActV) (h : Isth.Good u) (hm : manyO u + 1 ≤ 120) : Isth.Good (stepA u ac) ∧ manyO (stepA u ac) ≤ 120 ∧ heightO (stepA u ac) ≤ 10 ∧ (1 < heightO (stepA u ac) → (fibP (heightO (stepA u ac) - 1)).2 ≤ manyO (stepA u ac)) := by
  have h1 := good_step ac h
  have h2 : manyO (stepA u ac) ≤ 120 := by have := many_step u ac; omega
  exact ⟨h1, h2, height_facts h1 h2⟩
def FibInv (wc : World) (n : Nat) (v11 v12 v13 : Value) (wy : World) : Prop := ∃ j : Nat, v11 = .int .i64 ((fibP j).1 : Nat) ∧ v12 = .int .i64 ((fibP j).2 : Nat) ∧ v13 = .int .i64 ((j + 1 : Nat) : Int) ∧ j + 1 ≤ max n 1 ∧ wy = wc
def StaysInv (w2 : World) (t0 : Option Av) (m : List ActV) (v9 v10 : Value) (wr : World) : Prop :=
  ∃ (k : Nat) (u : Option Av), v10 = .int .i64 (k : Nat) ∧ k ≤ m.length ∧ k ≤ 60 ∧ u = (m.take k).foldl stepA t0 ∧ TreeO wr u v9 ∧ Below w2.heap.size w2 wr
set_option maxRecDepth 100000 in
set_option maxHeartbeats 8000000 in
theorem stays_any (A : Option Addr) (c : Nat) (l : List ActV) (Am : Option Addr) (cm : Nat) (m : List ActV) (w : World) (hc : l.length ≤ c) (hr : Rd w A (l.flatMap actC)) (hl : ∀ a ∈ l, a.key.length ≤ 2000000 ∧ a.val.length ≤ 2000000) (hn : l.length ≤ 4611686018427387904)
    (hcm : m.length ≤ cm) (hrm : Rd w Am (m.flatMap actC)) (hlm : ∀ a ∈ m, a.key.length ≤ 2000000 ∧ a.val.length ≤ 2000000) (hnm : m.length ≤ 4611686018427387904) (ht : TabLaid w) :
    Calls Tryd.prog 6 #[.slice A l.length c, .slice Am m.length cm] w fun e w' => e = .returned (.bool true) ∧ Below w.heap.size w w' := by
  obtain ⟨hgood, hmany, hsmall⟩ := grown_facts l hl
  have HA := Lib.hid (And.intro hc (And.intro hr (And.intro hl (And.intro hn ht))))
  have HM := Lib.hid (And.intro hcm (And.intro hrm (And.intro hlm hnm)))
  clear hc hr hl hn ht hcm hrm hlm hnm hsmall
  go_enter Tryd.func6, Tryd.ntmps6
  go_wp2_with fail
  refine (grown07_any A c l w HA.out.1 HA.out.2.1 HA.out.2.2.1 HA.out.2.2.2.1 HA.out.2.2.2.2).mono ?_
  rintro e w1 ⟨v, cs, rfl, htr, hro, hb⟩
  have HLC := Lib.hid (And.intro hro.len hro.one)
  have HW := Lib.hid hb
  have HTR := Lib.hid htr
  clear hro hb htr
  obtain ⟨t, htt⟩ : ∃ t, t = grownA l := ⟨_, rfl⟩
  rw [← htt] at hgood hmany HTR
  obtain ⟨csr, hcsr⟩ : ∃ cs, cs = (rootO t).map B := ⟨_, rfl⟩
  have HCR := Lib.hid (And.intro hcsr (And.intro (show csr.length = 32 by rw [hcsr, List.length_map, rootO_length]) (show ∀ u ∈ csr, u.oneCell' = true by rw [hcsr]; exact one_bytes)))
  obtain ⟨rl, hrl⟩ : ∃ rl, rangeO [] [] t = rl := ⟨_, rfl⟩
  obtain ⟨nl, hnl⟩ : ∃ nl, rl.length = nl := ⟨_, rfl⟩
  have HRN := Lib.hid (And.intro hrl (And.intro hnl (show nl ≤ 60 by rw [← hnl, ← hrl]; exact Nat.le_trans (rangeO_le _ _ _) hmany)))
  have HGT := Lib.hid (And.intro hgood hmany)
  clear hgood hmany hcsr hrl hnl htt
  go_wp2_with (refine wpList_store_blk rfl 26 (.tmp 6) (.tmp 18) rfl w1.heap.size cs rfl rfl 26 emptyC (heap_alloc_new w1 _) (by rw [HLC.out.1]; kernel_rfl) (by rw [HLC.out.1]; rfl) HLC.out.2 ?_; intro w2 hz hg
               have hb2 : Below w1.heap.size w1 w2 := ((Below.refl w1.heap.size w1).alloc (Nat.le_refl _) _).grown hg (by simp) (fun q e => by injection e with e; omega)
               have HW := Lib.hid (below_then HW.out HW.out.size hb2)
               have HTR := Lib.hid (HTR.out.below hb2)
               clear hz hg hb2)
  refine (root_any t v csr _ HTR.out HCR.out.1 (HA.out.2.2.2.2.below HW.out HA.out.2.2.2.2.lt)).mono ?_
  rintro e w3 ⟨rfl, hb⟩
  have HTR := Lib.hid (HTR.out.below hb)
  have HW := Lib.hid (below_then HW.out HW.out.size hb)
  clear hb
  go_wp2_with fail
  refine (range_any t v [] [] _ HTR.out HGT.out.1 (by have := HGT.out.2; omega)).mono ?_
  rintro e w4 ⟨vr, rfl, ho, hb⟩
  rw [HRN.out.1] at ho
  obtain ⟨A', c', rfl, _, hrd, _⟩ := own_slice ho
  rw [HRN.out.2.1]
  have HTR := Lib.hid (HTR.out.below hb)
  have HW := Lib.hid (below_then HW.out HW.out.size hb)
  have HRD := Lib.hid hrd
  clear hb ho hrd
  obtain ⟨xh, hxh⟩ : ∃ n, n = w4.heap.size := ⟨_, rfl⟩
  go_wp2_with (refine wpList_store_blk rfl 46 (.tmp 7) (.tmp 20) rfl w4.heap.size csr rfl rfl 46 (List.replicate 32 (B 0)) (heap_alloc_new w4 _) (by rw [HCR.out.2.1]; kernel_rfl) (by rw [HCR.out.2.1]; rfl) HCR.out.2.2 ?_; intro w5 hz hg
               have hb5 : Below w4.heap.size w4 w5 := ((Below.refl w4.heap.size w4).alloc (Nat.le_refl _) _).grown hg (by simp) (fun q e => by injection e with e; omega)
               have HX := Lib.hid hz
               have HTR := Lib.hid (HTR.out.below hb5)
               have HRD := Lib.hid (HRD.out.below hb5)
               have HW := Lib.hid (below_then HW.out HW.out.size hb5)
               clear hz hg hb5)
  rw [← hxh] at HX ⊢
  have HT5 := Lib.hid (HA.out.2.2.2.2.below HW.out HA.out.2.2.2.2.lt)
  clear hxh
  go_loopw [9, 10] (fun v9 v10 wr => StaysInv w5 t m v9 v10 wr) (fun _ v10 _ => 60 - (intOf v10).toNat)
  case atStart => exact ⟨0, t, rfl, Nat.zero_le _, Nat.zero_le _, rfl, HTR.out, Below.refl _ _⟩
  case round =>
    obtain ⟨k, u, rfl, hk, hk6, huf, hur, hB⟩ := hrel
    have hgd := good_fold (m.take k) t HGT.out.1
    rw [← huf] at hgd
    have hm120 : manyO u ≤ 60 + k := by have h2 := hgd.2; have h3 := List.length_take_le k m; have h0 := HGT.out.2; omega
    have HG := Lib.hid (And.intro hgd.1 hm120)
    have HR := Lib.hid hur
    have HBW := Lib.hid hB
    have HUF := Lib.hid huf
    have HTA := Lib.hid (HT5.out.below hB HT5.out.lt)
    clear hgd hm120 hur hB huf
    by_cases hkl : k < m.length
    · by_cases hk60 : k < 60
      · obtain ⟨ac, hac⟩ : ∃ ac, m[k]? = some ac := ⟨_, List.getElem?_eq_getElem hkl⟩
        have HG := Lib.hid (show Isth.Good u ∧ manyO u + 1 ≤ 120 from ⟨HG.out.1, by have := HG.out.2; omega⟩)
        have hla := HM.out.2.2.1 ac (List.mem_of_getElem? hac)
        obtain ⟨b, o, rfl, hcl⟩ := HM.out.2.1 (by have h := (acts_cells m k ac hac).1; have := (List.getElem?_eq_some_iff.1 h).1; omega)
        obtain ⟨q0, q1, q2⟩ := acts_cells m k ac hac
        have e0 := cell_below (cell_below (hcl _ _ q0) HW.out) HBW.out
        have e1 := cell_below (cell_below (hcl _ _ q1) HW.out) HBW.out
        have e2 := cell_below (cell_below (hcl _ _ q2) HW.out) HBW.out
        rw [← Nat.add_assoc] at e1 e2
        have HAC := Lib.hid (And.intro hac hla)
        have hk1 : (k : Int) < (m.length : Int) := by omega
        have hk2 : (k : Int) < 60 := by omega
        clear hac hla hcl q0 q1 q2
        have hkb : (wrap64 ((IntKind.u64.wrap ac.k).tmod 4) == 3) = true ∨ (wrap64 ((IntKind.u64.wrap ac.k).tmod 4) == 3) = false := by
          cases (wrap64 ((IntKind.u64.wrap ac.k).tmod 4) == 3)
          · exact .inr rfl
          · exact .inl rfl
        rcases hkb with hkb | hkb
        · have HD := Lib.hid (show stepA u ac = dropO ac.key u by unfold stepA; rw [if_pos (by simpa using hkb)])
          go_wp2_with fail
          refine (drop_any u _ ac.key wr HR.out (by have := HG.out.2; omega) HTA.out).mono ?_
          rintro e wc ⟨vx, rfl, hn, hb⟩
          have HV := Lib.hid (show TreeO wc (stepA u ac) vx by rw [HD.out]; exact hn)
          have HB := Lib.hid hb
          clear hn hb e0 e1 e2
          have HU := Lib.hid (stays_facts u ac HG.out.1 HG.out.2)
          obtain ⟨u', hu'⟩ : ∃ u', u' = stepA u ac := ⟨_, rfl⟩
          rw [← hu'] at HU HV
          have HUS := Lib.hid hu'
          obtain ⟨n, hn⟩ : ∃ n, heightO u' = n := ⟨_, rfl⟩
          rw [hn] at HU
          have HN := Lib.hid hn
          clear hu' hn
          go_wp2_with fail
          go_loopw [11, 12, 13] (fun v11 v12 v13 wy => FibInv wc n v11 v12 v13 wy) (fun _ _ v13 _ => n - (intOf v13).toNat)
          case atStart => exact ⟨0, rfl, rfl, rfl, by omega, rfl⟩
          case round =>
            obtain ⟨j, rfl, rfl, rfl, hj, hw⟩ := hrel
            obtain rfl : wc = wr := hw.symm
            clear hw
            by_cases hjn : j + 1 < n
            · have hj1 : (((j + 1 : Nat) : Int)) < (n : Int) := by omega
              have hj2 : (((j + 1 : Nat) : Int)) < 90 := by have := HU.out.2.2.1; omega
              have hfj := fibP_small (show j ≤ 9 by have := HU.out.2.2.1; omega)
              obtain ⟨fa, hfa⟩ : ∃ a, (fibP j).1 = a := ⟨_, rfl⟩
              obtain ⟨fb, hfb⟩ : ∃ a, (fibP j).2 = a := ⟨_, rfl⟩
              rw [hfa, hfb] at hfj ⊢
              have HF := Lib.hid (And.intro hfa hfb)
              have HNX := Lib.hid (show (fibP (j + 1)).1 = fb ∧ (fibP (j + 1)).2 = max fa 1 + fb by rw [← hfa, ← hfb]; exact ⟨rfl, rfl⟩)
              have HNW := Lib.hid (show ((max fa 1 + fb : Nat) : Int) = max ((fa : Nat) : Int) 1 + (fb : Int) by omega)
              clear hfa hfb
              go_wp2_with fail
              refine (height_any u' vx _ HV.out).mono ?_
              rintro e wz ⟨rfl, rfl⟩
              rw [HN.out]
              go_wp2
              refine ⟨⟨j + 1, by rw [HNX.out.1], by rw [HNX.out.2]; exact congrArg (Value.int .i64) (by split <;> omega), congrArg (Value.int .i64) (by omega), by omega, rfl⟩, ?_⟩
              show n - Int.toNat ((j : Int) + 1 + 1) < n - Int.toNat ((j + 1 : Nat) : Int)
              omega
            · have hj1 : ¬ (((j + 1 : Nat) : Int)) < (n : Int) := by omega
              go_wp2_with fail
              refine (height_any u' vx _ HV.out).mono ?_
              rintro e wz ⟨rfl, rfl⟩
              rw [HN.out]
              go_wp2_with fail
              refine (height_any u' vx _ HV.out).mono ?_
              rintro e wz ⟨rfl, rfl⟩
              rw [HN.out]
              have HEND := Lib.hid (show StaysInv w5 t m vx (.int .i64 ((k : Int) + 1)) wz from ⟨k + 1, u', by simp, by omega, by omega, by rw [take_next HAC.out.1, List.foldl_append, ← HUF.out]; exact HUS.out, HV.out, below_then HBW.out HBW.out.size HB.out⟩)
              by_cases h1n : 1 < n
              · have hn1 : (1 : Int) < (n : Int) := by omega
                have hcmp : ¬ ((manyO u' : Nat) : Int) < (((fibP j).2 : Nat) : Int) := by
                  have h := HU.out.2.2.2 h1n
                  rw [show n - 1 = j by omega] at h
                  omega
                go_wp2_with fail
                refine (len_any u' vx _ HV.out).mono ?_
                rintro e wz ⟨rfl, rfl⟩
                go_wp2
                refine ⟨HEND.out, ?_⟩
                show 60 - Int.toNat ((k : Int) + 1) < 60 - Int.toNat (k : Int)
                omega
              · have hn1 : ¬ (1 : Int) < (n : Int) := by omega
                go_wp2
                refine ⟨HEND.out, ?_⟩
                show 60 - Int.toNat ((k : Int) + 1) < 60 - Int.toNat (k : Int)
                omega
        · have HD := Lib.hid (show stepA u ac = some (setO ac.key ac.val u) by unfold stepA; rw [if_neg (by simpa using hkb)])
          have HTS : Hid (∀ w', Below wr.heap.size wr w' → w'.cell? ⟨b, o + k * 3 + 1, none⟩ = some (S8 ac.key) ∧ w'.cell? ⟨b, o + k * 3 + 2, none⟩ = some (S8 ac.val)) := Lib.hid fun w' h => ⟨cell_below e1 h, cell_below e2 h⟩
          have HB : Hid (Below wr.heap.size wr (wr.drewN 1)) := Lib.hid (refl_drewN wr 1)
          go_wp2_with fail
          clear e0 e1 e2
          refine wp_region_held_drew (S := (fun w' => w'.cell? ⟨b, o + k * 3 + 1, none⟩ = some (S8 ac.key) ∧ w'.cell? ⟨b, o + k * 3 + 2, none⟩ = some (S8 ac.val))) (by kernel_rfl) ?rs0 (fun hHeld => ?_)
          case rs0 => exact HTS.out _ HB.out
          refine held_take (i := 0) (v := ?r1v) rfl (by kernel_rfl) (by kernel_rfl) (by kernel_rfl) (fun _ _ _ h => h) (by rfl) ?r1y hHeld ?_
          case r1y => ((intro w _hSw; (try dsimp only at _hSw); go_simp); try (with_reducible rfl))
          try simp only [Act.put, List.setIfInBounds_toArray, List.set_cons_zero, List.set_cons_succ]
          refine held_take (i := 1) (v := ?r2v) rfl (by kernel_rfl) (by kernel_rfl) (by kernel_rfl) (fun _ _ _ h => h) (by rfl) ?r2y hHeld ?_
          case r2y => ((intro w _hSw; (try dsimp only at _hSw); go_simp); try (with_reducible rfl))
          try simp only [Act.put, List.setIfInBounds_toArray, List.set_cons_zero, List.set_cons_succ]
          refine held_take (i := 2) (v := ?r3v) rfl (by kernel_rfl) (by kernel_rfl) (by kernel_rfl) (fun _ _ _ h => h) (by rfl) ?r3y hHeld ?_
          case r3y => ((intro w _hSw; (try dsimp only at _hSw); go_simp); try (with_reducible rfl))
          try simp only [Act.put, List.setIfInBounds_toArray, List.set_cons_zero, List.set_cons_succ]
          refine held_take (i := 3) (v := ?r4v) rfl (by kernel_rfl) (by kernel_rfl) (by kernel_rfl) (fun _ _ _ h => h) (by rfl) ?r4y hHeld ?_
          case r4y => ((intro w _hSw; (try dsimp only at _hSw); go_simp); try (with_reducible rfl))
          try simp only [Act.put, List.setIfInBounds_toArray, List.set_cons_zero, List.set_cons_succ]
          refine held_take (i := 4) (v := ?r5v) rfl (by kernel_rfl) (by kernel_rfl) (by kernel_rfl) (fun _ _ _ h => h) (by rfl) ?r5y hHeld ?_
          case r5y => ((intro w _hSw; (try dsimp only at _hSw); go_simp); try (with_reducible rfl))
          try simp only [Act.put, List.setIfInBounds_toArray, List.set_cons_zero, List.set_cons_succ]
          refine held_take (i := 5) (v := ?r6v) rfl (by kernel_rfl) (by kernel_rfl) (by kernel_rfl) (fun _ _ _ h => h) (by rfl) ?r6y hHeld ?_
          case r6y => ((intro w _hSw; (try dsimp only at _hSw); go_simp); try (with_reducible rfl))
          try simp only [Act.put, List.setIfInBounds_toArray, List.set_cons_zero, List.set_cons_succ]
          refine held_take (i := 6) (v := ?r7v) rfl (by kernel_rfl) (by kernel_rfl) (by kernel_rfl) (fun _ _ _ h => h) (by rfl) ?r7y hHeld ?_
          case r7y => ((intro w _hSw; (try dsimp only at _hSw); go_simp); try (with_reducible rfl))
          try simp only [Act.put, List.setIfInBounds_toArray, List.set_cons_zero, List.set_cons_succ]
          refine held_take (i := 7) (v := ?r8v) rfl (by kernel_rfl) (by kernel_rfl) (by kernel_rfl) (fun _ _ _ h => h) (by rfl) ?r8y hHeld ?_
          case r8y => ((intro w _hSw; (try dsimp only at _hSw); go_simp); try (with_reducible rfl))
          try simp only [Act.put, List.setIfInBounds_toArray, List.set_cons_zero, List.set_cons_succ]
          refine held_take (i := 8) (v := ?r9v) rfl (by kernel_rfl) (by kernel_rfl) (by kernel_rfl) (fun _ _ _ h => h) (by rfl) ?r9y hHeld ?_
          case r9y => ((intro w _hSw; (try dsimp only at _hSw); go_simp); try (with_reducible rfl))
          try simp only [Act.put, List.setIfInBounds_toArray, List.set_cons_zero, List.set_cons_succ]
          refine held_take (i := 9) (v := ?r10v) rfl (by kernel_rfl) (by kernel_rfl) (by kernel_rfl) (fun _ _ _ h => h) (by rfl) ?r10y hHeld ?_
          case r10y => ((intro w _hSw; (try dsimp only at _hSw); go_simp); try (with_reducible rfl))
          try simp only [Act.put, List.setIfInBounds_toArray, List.set_cons_zero, List.set_cons_succ]
          refine held_take (i := 10) (v := ?r11v) rfl (by kernel_rfl) (by kernel_rfl) (by kernel_rfl) (fun _ _ _ h => h) (by rfl) ?r11y hHeld ?_
          case r11y => ((intro w _hSw; (try dsimp only at _hSw); go_simp); try (with_reducible rfl))
          try simp only [Act.put, List.setIfInBounds_toArray, List.set_cons_zero, List.set_cons_succ]
          refine held_step (i := 11) rfl (by kernel_rfl) (by rfl) (fun K hK => ?_)
          go_simp
          refine (set_any u _ ac.key ac.val _ (HR.out.below HB.out) (by have := HG.out.2; omega) HAC.out.2.1 HAC.out.2.2 (HTA.out.below HB.out HTA.out.lt)).mono ?_
          rintro e wc ⟨gv, rfl, hn, hb⟩
          have HV := Lib.hid hn
          have HB := Lib.hid (below_then HB.out HB.out.size hb)
          clear hn hb
          go_wp2_with fail
          have hHeld := HTS.out _ HB.out
          refine hK.out _ _ (HTS.out _ HB.out) ?_
          clear hK K
          try simp only [Act.put, List.setIfInBounds_toArray, List.set_cons_zero, List.set_cons_succ]
          refine held_take (i := 12) (v := ?r12v) rfl (by kernel_rfl) (by kernel_rfl) (by kernel_rfl) (fun _ _ _ h => h) (by rfl) ?r12y hHeld ?_
          case r12y => ((intro w _hSw; (try dsimp only at _hSw); go_simp); try (with_reducible rfl))
          try simp only [Act.put, List.setIfInBounds_toArray, List.set_cons_zero, List.set_cons_succ]
          refine wpAnyH_done (by kernel_rfl) ?_ _
          clear hHeld
          obtain ⟨vx, hv⟩ : ∃ v, v = Ptr gv := ⟨_, rfl⟩
          have HV := Lib.hid (show TreeO wc (stepA u ac) vx by rw [HD.out]; exact ⟨gv, hv, HV.out⟩)
          rw [← hv]
          clear hv
          have HU := Lib.hid (stays_facts u ac HG.out.1 HG.out.2)
          obtain ⟨u', hu'⟩ : ∃ u', u' = stepA u ac := ⟨_, rfl⟩
          rw [← hu'] at HU HV
          have HUS := Lib.hid hu'
          obtain ⟨n, hn⟩ : ∃ n, heightO u' = n := ⟨_, rfl⟩
          rw [hn] at HU
          have HN := Lib.hid hn
          clear hu' hn
          go_wp2_with fail
          go_loopw [11, 12, 13] (fun v11 v12 v13 wy => FibInv wc n v11 v12 v13 wy) (fun _ _ v13 _ => n - (intOf v13).toNat)
          case atStart => exact ⟨0, rfl, rfl, rfl, by omega, rfl⟩
          case round =>
            obtain ⟨j, rfl, rfl, rfl, hj, hw⟩ := hrel
            obtain rfl : wc = wr := hw.symm
            clear hw
            by_cases hjn : j + 1 < n
            · have hj1 : (((j + 1 : Nat) : Int)) < (n : Int) := by omega
              have hj2 : (((j + 1 : Nat) : Int)) < 90 := by have := HU.out.2.2.1; omega
              have hfj := fibP_small (show j ≤ 9 by have := HU.out.2.2.1; omega)
              obtain ⟨fa, hfa⟩ : ∃ a, (fibP j).1 = a := ⟨_, rfl⟩
              obtain ⟨fb, hfb⟩ : ∃ a, (fibP j).2 = a := ⟨_, rfl⟩
              rw [hfa, hfb] at hfj ⊢
              have HF := Lib.hid (And.intro hfa hfb)
              have HNX := Lib.hid (show (fibP (j + 1)).1 = fb ∧ (fibP (j + 1)).2 = max fa 1 + fb by rw [← hfa, ← hfb]; exact ⟨rfl, rfl⟩)
              have HNW := Lib.hid (show ((max fa 1 + fb : Nat) : Int) = max ((fa : Nat) : Int) 1 + (fb : Int) by omega)
              clear hfa hfb
              go_wp2_with fail
              refine (height_any u' vx _ HV.out).mono ?_
              rintro e wz ⟨rfl, rfl⟩
              rw [HN.out]
              go_wp2
              refine ⟨⟨j + 1, by rw [HNX.out.1], by rw [HNX.out.2]; exact congrArg (Value.int .i64) (by split <;> omega), congrArg (Value.int .i64) (by omega), by omega, rfl⟩, ?_⟩
              show n - Int.toNat ((j : Int) + 1 + 1) < n - Int.toNat ((j + 1 : Nat) : Int)
              omega
            · have hj1 : ¬ (((j + 1 : Nat) : Int)) < (n : Int) := by omega
              go_wp2_with fail
              refine (height_any u' vx _ HV.out).mono ?_
              rintro e wz ⟨rfl, rfl⟩
              rw [HN.out]
              go_wp2_with fail
              refine (height_any u' vx _ HV.out).mono ?_
              rintro e wz ⟨rfl, rfl⟩
              rw [HN.out]
              have HEND := Lib.hid (show StaysInv w5 t m vx (.int .i64 ((k : Int) + 1)) wz from ⟨k + 1, u', by simp, by omega, by omega, by rw [take_next HAC.out.1, List.foldl_append, ← HUF.out]; exact HUS.out, HV.out, below_then HBW.out HBW.out.size HB.out⟩)
              by_cases h1n : 1 < n
              · have hn1 : (1 : Int) < (n : Int) := by omega
                have hcmp : ¬ ((manyO u' : Nat) : Int) < (((fibP j).2 : Nat) : Int) := by
                  have h := HU.out.2.2.2 h1n
                  rw [show n - 1 = j by omega] at h
                  omega
                go_wp2_with fail
                refine (len_any u' vx _ HV.out).mono ?_
                rintro e wz ⟨rfl, rfl⟩
                go_wp2
                refine ⟨HEND.out, ?_⟩
                show 60 - Int.toNat ((k : Int) + 1) < 60 - Int.toNat (k : Int)
                omega
              · have hn1 : ¬ (1 : Int) < (n : Int) := by omega
                go_wp2
                refine ⟨HEND.out, ?_⟩
                show 60 - Int.toNat ((k : Int) + 1) < 60 - Int.toNat (k : Int)
                omega
      · have hk1 : (k : Int) < (m.length : Int) := by omega
        have hk2 : ¬ (k : Int) < 60 := by omega
        have HTT := Lib.hid (And.intro (HTR.out.below HBW.out) (And.intro HCR.out.1 (And.intro HGT.out.1 (And.intro HGT.out.2 HRN.out.1))))
        have HRL := Lib.hid (And.intro HRN.out.2.1 (And.intro HRN.out.2.2 (HRD.out.below HBW.out)))
        have HTS : Hid (∀ w', Below wr.heap.size wr w' → w'.rangeAt xh 0 csr) := Lib.hid fun w' h => range_below (blk_range (HX.out.below HBW.out)) h
        have HW := Lib.hid (below_then HW.out HW.out.size HBW.out)
        have HB : Hid (Below wr.heap.size wr (wr.drewN 1)) := Lib.hid (refl_drewN wr 1)
        have heq : ∀ wx, (binOp .eql 46 (.agg csr.toArray) (.agg csr.toArray)).run Tryd.prog wx = .ok (.bool true) wx := by
          intro wx
          have h := run_eql_bytes aHash7 wx (rootO t) (rootO t) (rootO_length t) (rootO_length t)
          rw [HCR.out.1]
          simpa using h
        have icr : (Tryd.prog.info? 46).map (·.size) = some csr.length := by rw [HCR.out.2.1]; kernel_rfl
        have u46 := Tryd.underlying46
        clear hk hk6
        go_wp2_with fail
        refine wp_region_held_drew (S := (fun w' => w'.rangeAt xh 0 csr)) (by kernel_rfl) ?zs0 (fun hHeld => ?_)
        case zs0 => exact HTS.out _ HB.out
        refine held_take (i := 0) (v := ?z1v) rfl (by kernel_rfl) (by kernel_rfl) (by kernel_rfl) (fun _ _ _ h => h) (by rfl) ?z1y hHeld ?_
        case z1y => ((intro w _hSw; (try dsimp only at _hSw); go_simp); try (with_reducible rfl))
        try simp only [Act.put, List.setIfInBounds_toArray, List.set_cons_zero, List.set_cons_succ]
        refine held_row (i := 2) rfl (by kernel_rfl) (by kernel_rfl) (by kernel_rfl) _ _ rfl _ _ rfl ?z2C ?z2D (fun _ _ _ h => h) (by rfl) ?z2a ?z2b ?z2c ?z2d hHeld ?_
        case z2a => (intro w hSw; (try dsimp only at hSw); go_split_ands; assumption)
        case z2b => assumption
        case z2c => rfl
        case z2d => first | assumption | (simp only [*]; done)
        try simp only [Act.put, List.setIfInBounds_toArray, List.set_cons_zero, List.set_cons_succ]
        refine held_step (i := 1) rfl (by kernel_rfl) (by rfl) (fun K hK => ?_)
        go_simp
        refine (root_any t v csr _ (HTT.out.1.below HB.out) HTT.out.2.1 (HTA.out.below HB.out HTA.out.lt)).mono ?_
        rintro e wc ⟨rfl, hb⟩
        have HB := Lib.hid (below_then HB.out HB.out.size hb)
        clear hb
        go_wp2_with fail
        have hHeld := HTS.out _ HB.out
        refine hK.out _ _ (HTS.out _ HB.out) ?_
        clear hK K
        try simp only [Act.put, List.setIfInBounds_toArray, List.set_cons_zero, List.set_cons_succ]
        refine held_take (i := 3) (v := ?z3v) rfl (by kernel_rfl) (by kernel_rfl) (by kernel_rfl) (fun _ _ _ h => h) (by rfl) ?z3y hHeld ?_
        case z3y => ((intro w _hSw; (try dsimp only at _hSw); go_simp); try (with_reducible rfl))
        try simp only [Act.put, List.setIfInBounds_toArray, List.set_cons_zero, List.set_cons_succ]
        refine held_take (i := 4) (v := ?z4v) rfl (by kernel_rfl) (by kernel_rfl) (by kernel_rfl) (fun _ _ _ h => h) (by rfl) ?z4y hHeld ?_
        case z4y => ((intro w _hSw; (try dsimp only at _hSw); go_simp); try (with_reducible rfl))
        try simp only [Act.put, List.setIfInBounds_toArray, List.set_cons_zero, List.set_cons_succ]
        refine held_take (i := 5) (v := ?z5v) rfl (by kernel_rfl) (by kernel_rfl) (by kernel_rfl) (fun _ _ _ h => h) (by rfl) ?z5y hHeld ?_
        case z5y => ((intro w _hSw; (try dsimp only at _hSw); go_simp); try (with_reducible rfl))
        try simp only [Act.put, List.setIfInBounds_toArray, List.set_cons_zero, List.set_cons_succ]
        refine held_take (i := 7) (v := ?z6v) rfl (by kernel_rfl) (by kernel_rfl) (by kernel_rfl) (fun _ _ _ h => h) (by rfl) ?z6y hHeld ?_
        case z6y => ((intro w _hSw; (try dsimp only at _hSw); go_simp); try (with_reducible rfl))
        try simp only [Act.put, List.setIfInBounds_toArray, List.set_cons_zero, List.set_cons_succ]
        refine held_step (i := 6) rfl (by kernel_rfl) (by rfl) (fun K hK => ?_)
        go_simp
        refine (range_any t v [] [] _ (HTT.out.1.below HB.out) HTT.out.2.2.1 (by have := HTT.out.2.2.2.1; omega)).mono ?_
        rintro e wc ⟨vr, rfl, ho, hb⟩
        rw [HTT.out.2.2.2.2] at ho
        obtain ⟨A2, c2, rfl, _, hrd2, _⟩ := own_slice ho
        have HR2 := Lib.hid hrd2
        have HB := Lib.hid (below_then HB.out HB.out.size hb)
        rw [HRL.out.1]
        clear hb ho hrd2
        go_wp2_with fail
        have hHeld := HTS.out _ HB.out
        refine hK.out _ _ (HTS.out _ HB.out) ?_
        clear hK K
        try simp only [Act.put, List.setIfInBounds_toArray, List.set_cons_zero, List.set_cons_succ]
        refine held_step (i := 8) rfl (by kernel_rfl) (by rfl) (fun K hK => ?_)
        go_simp
        refine (pairs_same A2 A' c2 c' nl rl _ HRL.out.1.symm (by have := HRL.out.2.1; omega) HR2.out (HRL.out.2.2.below HB.out)).mono ?_
        rintro e wc ⟨rfl, hb⟩
        have HB := Lib.hid (below_then HB.out HB.out.size hb)
        clear hb
        go_wp2_with fail
        have hHeld := HTS.out _ HB.out
        refine hK.out _ _ (HTS.out _ HB.out) ?_
        clear hK K
        try simp only [Act.put, List.setIfInBounds_toArray, List.set_cons_zero, List.set_cons_succ]
        refine held_take (i := 9) (v := ?z7v) rfl (by kernel_rfl) (by kernel_rfl) (by kernel_rfl) (fun _ _ _ h => h) (by rfl) ?z7y hHeld ?_
        case z7y => ((intro w _hSw; (try dsimp only at _hSw); go_simp); try (with_reducible rfl))
        try simp only [Act.put, List.setIfInBounds_toArray, List.set_cons_zero, List.set_cons_succ]
        refine held_take (i := 10) (v := ?z8v) rfl (by kernel_rfl) (by kernel_rfl) (by kernel_rfl) (fun _ _ _ h => h) (by rfl) ?z8y hHeld ?_
        case z8y => ((intro w _hSw; (try dsimp only at _hSw); go_simp); try (with_reducible rfl))
        try simp only [Act.put, List.setIfInBounds_toArray, List.set_cons_zero, List.set_cons_succ]
        refine held_step (i := 11) rfl (by kernel_rfl) (by rfl) (fun K hK => ?_)
        go_simp
        refine (sure07_any _ (HTA.out.below HB.out HTA.out.lt)).mono ?_
        rintro e wc ⟨rfl, hb⟩
        have HB := Lib.hid (below_then HB.out HB.out.size hb)
        clear hb
        go_wp2_with fail
        have hHeld := HTS.out _ HB.out
        refine hK.out _ _ (HTS.out _ HB.out) ?_
        clear hK K
        try simp only [Act.put, List.setIfInBounds_toArray, List.set_cons_zero, List.set_cons_succ]
        refine held_take (i := 12) (v := ?z9v) rfl (by kernel_rfl) (by kernel_rfl) (by kernel_rfl) (fun _ _ _ h => h) (by rfl) ?z9y hHeld ?_
        case z9y => ((intro w _hSw; (try dsimp only at _hSw); go_simp); try (with_reducible rfl))
        try simp only [Act.put, List.setIfInBounds_toArray, List.set_cons_zero, List.set_cons_succ]
        refine held_take (i := 13) (v := ?z10v) rfl (by kernel_rfl) (by kernel_rfl) (by kernel_rfl) (fun _ _ _ h => h) (by rfl) ?z10y hHeld ?_
        case z10y => ((intro w _hSw; (try dsimp only at _hSw); go_simp); try (with_reducible rfl))
        try simp only [Act.put, List.setIfInBounds_toArray, List.set_cons_zero, List.set_cons_succ]
        refine wpAnyH_done (by kernel_rfl) ?_ _
        go_wp2
        go_ret
        exact ⟨rfl, below_then HW.out HW.out.size HB.out⟩
    · have hk1 : ¬ (k : Int) < (m.length : Int) := by omega
      have HTT := Lib.hid (And.intro (HTR.out.below HBW.out) (And.intro HCR.out.1 (And.intro HGT.out.1 (And.intro HGT.out.2 HRN.out.1))))
      have HRL := Lib.hid (And.intro HRN.out.2.1 (And.intro HRN.out.2.2 (HRD.out.below HBW.out)))
      have HTS : Hid (∀ w', Below wr.heap.size wr w' → w'.rangeAt xh 0 csr) := Lib.hid fun w' h => range_below (blk_range (HX.out.below HBW.out)) h
      have HW := Lib.hid (below_then HW.out HW.out.size HBW.out)
      have HB : Hid (Below wr.heap.size wr (wr.drewN 1)) := Lib.hid (refl_drewN wr 1)
      have heq : ∀ wx, (binOp .eql 46 (.agg csr.toArray) (.agg csr.toArray)).run Tryd.prog wx = .ok (.bool true) wx := by
        intro wx
        have h := run_eql_bytes aHash7 wx (rootO t) (rootO t) (rootO_length t) (rootO_length t)
        rw [HCR.out.1]
        simpa using h
      have icr : (Tryd.prog.info? 46).map (·.size) = some csr.length := by rw [HCR.out.2.1]; kernel_rfl
      have u46 := Tryd.underlying46
      clear hk hk6
      go_wp2_with fail
      refine wp_region_held_drew (S := (fun w' => w'.rangeAt xh 0 csr)) (by kernel_rfl) ?ys0 (fun hHeld => ?_)
      case ys0 => exact HTS.out _ HB.out
      refine held_take (i := 0) (v := ?y1v) rfl (by kernel_rfl) (by kernel_rfl) (by kernel_rfl) (fun _ _ _ h => h) (by rfl) ?y1y hHeld ?_
      case y1y => ((intro w _hSw; (try dsimp only at _hSw); go_simp); try (with_reducible rfl))
      try simp only [Act.put, List.setIfInBounds_toArray, List.set_cons_zero, List.set_cons_succ]
      refine held_row (i := 2) rfl (by kernel_rfl) (by kernel_rfl) (by kernel_rfl) _ _ rfl _ _ rfl ?y2C ?y2D (fun _ _ _ h => h) (by rfl) ?y2a ?y2b ?y2c ?y2d hHeld ?_
      case y2a => (intro w hSw; (try dsimp only at hSw); go_split_ands; assumption)
      case y2b => assumption
      case y2c => rfl
      case y2d => first | assumption | (simp only [*]; done)
      try simp only [Act.put, List.setIfInBounds_toArray, List.set_cons_zero, List.set_cons_succ]
      refine held_step (i := 1) rfl (by kernel_rfl) (by rfl) (fun K hK => ?_)
      go_simp
      refine (root_any t v csr _ (HTT.out.1.below HB.out) HTT.out.2.1 (HTA.out.below HB.out HTA.out.lt)).mono ?_
      rintro e wc ⟨rfl, hb⟩
      have HB := Lib.hid (below_then HB.out HB.out.size hb)
      clear hb
      go_wp2_with fail
      have hHeld := HTS.out _ HB.out
      refine hK.out _ _ (HTS.out _ HB.out) ?_
      clear hK K
      try simp only [Act.put, List.setIfInBounds_toArray, List.set_cons_zero, List.set_cons_succ]
      refine held_take (i := 3) (v := ?y3v) rfl (by kernel_rfl) (by kernel_rfl) (by kernel_rfl) (fun _ _ _ h => h) (by rfl) ?y3y hHeld ?_
      case y3y => ((intro w _hSw; (try dsimp only at _hSw); go_simp); try (with_reducible rfl))
      try simp only [Act.put, List.setIfInBounds_toArray, List.set_cons_zero, List.set_cons_succ]
      refine held_take (i := 4) (v := ?y4v) rfl (by kernel_rfl) (by kernel_rfl) (by kernel_rfl) (fun _ _ _ h => h) (by rfl) ?y4y hHeld ?_
      case y4y => ((intro w _hSw; (try dsimp only at _hSw); go_simp); try (with_reducible rfl))
      try simp only [Act.put, List.setIfInBounds_toArray, List.set_cons_zero, List.set_cons_succ]
      refine held_take (i := 5) (v := ?y5v) rfl (by kernel_rfl) (by kernel_rfl) (by kernel_rfl) (fun _ _ _ h => h) (by rfl) ?y5y hHeld ?_
      case y5y => ((intro w _hSw; (try dsimp only at _hSw); go_simp); try (with_reducible rfl))
      try simp only [Act.put, List.setIfInBounds_toArray, List.set_cons_zero, List.set_cons_succ]
      refine held_take (i := 7) (v := ?y6v) rfl (by kernel_rfl) (by kernel_rfl) (by kernel_rfl) (fun _ _ _ h => h) (by rfl) ?y6y hHeld ?_
      case y6y => ((intro w _hSw; (try dsimp only at _hSw); go_simp); try (with_reducible rfl))
      try simp only [Act.put, List.setIfInBounds_toArray, List.set_cons_zero, List.set_cons_succ]
      refine held_step (i := 6) rfl (by kernel_rfl) (by rfl) (fun K hK => ?_)
      go_simp
      refine (range_any t v [] [] _ (HTT.out.1.below HB.out) HTT.out.2.2.1 (by have := HTT.out.2.2.2.1; omega)).mono ?_
      rintro e wc ⟨vr, rfl, ho, hb⟩
      rw [HTT.out.2.2.2.2] at ho
      obtain ⟨A2, c2, rfl, _, hrd2, _⟩ := own_slice ho
      have HR2 := Lib.hid hrd2
      have HB := Lib.hid (below_then HB.out HB.out.size hb)
      rw [HRL.out.1]
      clear hb ho hrd2
      go_wp2_with fail
      have hHeld := HTS.out _ HB.out
      refine hK.out _ _ (HTS.out _ HB.out) ?_
      clear hK K
      try simp only [Act.put, List.setIfInBounds_toArray, List.set_cons_zero, List.set_cons_succ]
      refine held_step (i := 8) rfl (by kernel_rfl) (by rfl) (fun K hK => ?_)
      go_simp
      refine (pairs_same A2 A' c2 c' nl rl _ HRL.out.1.symm (by have := HRL.out.2.1; omega) HR2.out (HRL.out.2.2.below HB.out)).mono ?_
      rintro e wc ⟨rfl, hb⟩
      have HB := Lib.hid (below_then HB.out HB.out.size hb)
      clear hb
      go_wp2_with fail
      have hHeld := HTS.out _ HB.out
      refine hK.out _ _ (HTS.out _ HB.out) ?_
      clear hK K
      try simp only [Act.put, List.setIfInBounds_toArray, List.set_cons_zero, List.set_cons_succ]
      refine held_take (i := 9) (v := ?y7v) rfl (by kernel_rfl) (by kernel_rfl) (by kernel_rfl) (fun _ _ _ h => h) (by rfl) ?y7y hHeld ?_
      case y7y => ((intro w _hSw; (try dsimp only at _hSw); go_simp); try (with_reducible rfl))
      try simp only [Act.put, List.setIfInBounds_toArray, List.set_cons_zero, List.set_cons_succ]
      refine held_take (i := 10) (v := ?y8v) rfl (by kernel_rfl) (by kernel_rfl) (by kernel_rfl) (fun _ _ _ h => h) (by rfl) ?y8y hHeld ?_
      case y8y => ((intro w _hSw; (try dsimp only at _hSw); go_simp); try (with_reducible rfl))
      try simp only [Act.put, List.setIfInBounds_toArray, List.set_cons_zero, List.set_cons_succ]
      refine held_step (i := 11) rfl (by kernel_rfl) (by rfl) (fun K hK => ?_)
      go_simp
      refine (sure07_any _ (HTA.out.below HB.out HTA.out.lt)).mono ?_
      rintro e wc ⟨rfl, hb⟩
      have HB := Lib.hid (below_then HB.out HB.out.size hb)
      clear hb
      go_wp2_with fail
      have hHeld := HTS.out _ HB.out
      refine hK.out _ _ (HTS.out _ HB.out) ?_
      clear hK K
      try simp only [Act.put, List.setIfInBounds_toArray, List.set_cons_zero, List.set_cons_succ]
      refine held_take (i := 12) (v := ?y9v) rfl (by kernel_rfl) (by kernel_rfl) (by kernel_rfl) (fun _ _ _ h => h) (by rfl) ?y9y hHeld ?_
      case y9y => ((intro w _hSw; (try dsimp only at _hSw); go_simp); try (with_reducible rfl))
      try simp only [Act.put, List.setIfInBounds_toArray, List.set_cons_zero, List.set_cons_succ]
      refine held_take (i := 13) (v := ?y10v) rfl (by kernel_rfl) (by kernel_rfl) (by kernel_rfl) (fun _ _ _ h => h) (by rfl) ?y10y hHeld ?_
      case y10y => ((intro w _hSw; (try dsimp only at _hSw); go_simp); try (with_reducible rfl))
      try simp only [Act.put, List.setIfInBounds_toArray, List.set_cons_zero, List.set_cons_succ]
      refine wpAnyH_done (by kernel_rfl) ?_ _
      go_wp2
      go_ret
      exact ⟨rfl, below_then HW.out HW.out.size HB.out⟩
end Go.Proofs.YtdekealpachhmaaDoor
