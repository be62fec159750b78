/- AvlRuns' walk. -/
import Derived.Test.YtdekealpachhmaaDoorMruA
import Derived.Deep.CutBlock

namespace Go.Proofs.YtdekealpachhmaaDoor
open Go Go.RowKit Go.Isth

def RunsInv (w2 : World) (n : Nat) (v : Value) (wr : World) : Prop := ∃ k : Nat, v = .int .i64 (k : Nat) ∧ k ≤ n ∧ Below w2.heap.size w2 wr
theorem rpairs_own (t : Option Av) (cs : List Value) (w : World) (h : RO w t cs) (hm : manyO t ≤ 900000) :
    Calls Tryd.prog 34 #[.agg cs.toArray] w fun e w' => ∃ A c, e = .returned (.slice A (manyO t) c) ∧ w'.ownsRow w.heap.size 38 2 (.slice A (manyO t) c) (manyO t) (pairsC (pairsO t)) ∧ Below w.heap.size w w' := by
  cases t with
  | some t =>
    refine (rpairs_tree t cs w h hm).mono ?_
    rintro e w' ⟨v, rfl, ho, hb⟩
    obtain ⟨A, c, rfl, _⟩ := own_slice ho
    exact ⟨A, c, rfl, ho, hb⟩
  | none =>
    refine (rpairs_none cs w h).mono ?_
    rintro e w' ⟨rfl, hb⟩
    exact ⟨none, 0, rfl, World.ownsRow_nil _ _ _ _, hb⟩
theorem own_rd7 {w : World} {base n c : Nat} {e : TypeId} {size : Nat} {A : Option Addr} {xs : List Value} (h : w.ownsRow base e size (.slice A n c) n xs) : Rd w A xs := by
  obtain ⟨A', c', e1, _, hr, _⟩ := own_slice h
  injection e1 with e1
  subst e1
  exact hr
theorem getVal_parts (o : Option Str) : ∃ gv gb, getVal o = .tuple #[S8 gv, .bool gb] := by
  cases o with
  | none => exact ⟨_, _, rfl⟩
  | some v => exact ⟨_, _, rfl⟩
set_option maxRecDepth 100000 in
set_option maxHeartbeats 8000000 in
theorem runs_any (A : Option Addr) (c : Nat) (l : List ActV) (ak aw : Str) (ai : Int) (w : World) (hc : l.length ≤ c) (hr : Rd w A (l.flatMap actC)) (hl : ∀ a ∈ l, a.key.length ≤ 2000000 ∧ a.val.length ≤ 2000000) (hn : l.length ≤ 4611686018427387904)
    (hak : ak.length ≤ 2000000) (haw : aw.length ≤ 2000000) (ht : TabLaid w) (hy : TypeLaid w) :
    Calls Tryd.prog 7 #[.slice A l.length c, .agg #[S8 ak, S8 aw, .int .i64 ai]] w fun e w' => e = .returned (.bool true) ∧ Below w.heap.size w w' := by
  obtain ⟨hgood, hmany, hsmall⟩ := grown_facts l hl
  obtain ⟨x3, hx3⟩ : ∃ n, n = w.heap.size := ⟨_, rfl⟩
  have hz0 := Blk_new w [S8 ak, S8 aw, .int .i64 ai] 76
  have hb0 : Below w.heap.size w (w.alloc (.cells #[S8 ak, S8 aw, .int .i64 ai] 76)) := (Below.refl _ _).alloc (Nat.le_refl _) _
  have HA := Lib.hid (And.intro hc (And.intro hl (And.intro hn (And.intro hak haw))))
  go_enter Tryd.func7, Tryd.ntmps7
  go_upto_region 1 with fail
  change Code.wp _ _ _ _ (w.alloc (.cells #[S8 ak, S8 aw, .int .i64 ai] 76))
  generalize w.alloc (.cells #[S8 ak, S8 aw, .int .i64 ai] 76) = w0 at *
  rw [← hx3] at hz0 ⊢
  have HW := Lib.hid hb0
  have HX3 := Lib.hid (show Blk w0 x3 76 [S8 ak, S8 aw, .int .i64 ai] from hz0)
  have HR := Lib.hid (hr.below hb0)
  have HTT := Lib.hid (And.intro (ht.below hb0 ht.lt) (hy.below hb0 hy.lt))
  clear hc hr hl hn hak haw ht hy hz0 hb0 hx3
  go_wp2_with fail
  refine (grown07_any A c l w0 HA.out.1 HR.out HA.out.2.1 HA.out.2.2.1 HTT.out.1).mono ?_
  rintro e w1 ⟨v, cs, rfl, htr, hro, hb⟩
  have HLC := Lib.hid (And.intro hro.len hro.one)
  have HX3 := Lib.hid (HX3.out.below hb)
  have HTT := Lib.hid (And.intro (HTT.out.1.below hb HTT.out.1.lt) (HTT.out.2.below hb HTT.out.2.lt))
  have HW := Lib.hid (below_then HW.out HW.out.size hb)
  have HTR := Lib.hid (And.intro htr hro)
  clear hro hb htr HR
  obtain ⟨t, htt⟩ : ∃ t, t = grownA l := ⟨_, rfl⟩
  rw [← htt] at hgood hmany hsmall HTR
  have HGT := Lib.hid (And.intro hgood (And.intro (show manyO t ≤ 900000 by omega) (show SmallP (pairsO t) from hsmall)))
  clear hgood hmany hsmall htt
  obtain ⟨x6, hx6⟩ : ∃ n, n = w1.heap.size := ⟨_, rfl⟩
  go_upto_region 2 with (refine wpList_store_blk rfl 26 (.tmp 6) (.tmp 25) rfl w1.heap.size cs rfl rfl 26 emptyC (heap_alloc_new w1 _) (by rw [HLC.out.1]; kernel_rfl) (by rw [HLC.out.1]; rfl) HLC.out.2 ?_
                         intro w2 hz hg
                         have hb2 : Below w1.heap.size w1 w2 := ((Below.refl w1.heap.size w1).alloc (Nat.le_refl _) _).grown hg (by simp) (fun q e => by injection e with e; omega)
                         have HX6 := Lib.hid hz
                         have HX3 := Lib.hid (HX3.out.below hb2)
                         have HTT := Lib.hid (And.intro (HTT.out.1.below hb2 HTT.out.1.lt) (HTT.out.2.below hb2 HTT.out.2.lt))
                         have HW := Lib.hid (below_then HW.out HW.out.size hb2)
                         have HTR := Lib.hid (And.intro (HTR.out.1.below hb2) (HTR.out.2.below hb2))
                         clear hz hg hb2)
  rw [← hx6] at HX6 ⊢
  clear hx6
  obtain ⟨gv, gb, hgv⟩ := getVal_parts (getO ak t)
  have HGV := Lib.hid hgv
  clear hgv
  have e30 := HX3.out.cellD 0 _ rfl
  go_wp2_with fail
  refine (get_any t v ak _ HTR.out.1).mono ?_
  rintro e wz ⟨rfl, rfl⟩
  rw [HGV.out]
  have HLD := Lib.hid (ld_tree HX6.out HLC.out.1)
  go_wp2_with (refine wpList_load rfl (.tmp 6) rfl ⟨x6, 0, none⟩ (.agg cs.toArray) rfl HLD.out ?_)
  clear e30
  refine (rget_any t ak cs _ HTR.out.2 HGT.out.1 HGT.out.2.1).mono ?_
  rintro e w3 ⟨rfl, hb⟩
  rw [HGV.out]
  have HX3 := Lib.hid (HX3.out.below hb)
  have HX6 := Lib.hid (HX6.out.below hb)
  have HTT := Lib.hid (And.intro (HTT.out.1.below hb HTT.out.1.lt) (HTT.out.2.below hb HTT.out.2.lt))
  have HW := Lib.hid (below_then HW.out HW.out.size hb)
  have HTR := Lib.hid (And.intro (HTR.out.1.below hb) (HTR.out.2.below hb))
  clear hb
  have e32 := HX3.out.cellD 2 _ rfl
  go_wp2_with fail
  clear e32
  refine (at_all t v ai _ HTR.out.1 HGT.out.2.1).mono ?_
  rintro e w4 ⟨ev, rfl, hev, hb⟩
  obtain ⟨kb, hkb⟩ : ∃ k, atK t ai = k := ⟨_, rfl⟩
  obtain ⟨pp, hpp⟩ : ∃ k, atP t ai = k := ⟨_, rfl⟩
  rw [hpp]
  rw [hkb] at hev
  have HK := Lib.hid (And.intro hkb hpp)
  have HEV := Lib.hid hev
  have HX3 := Lib.hid (HX3.out.below hb)
  have HX6 := Lib.hid (HX6.out.below hb)
  have HTT := Lib.hid (And.intro (HTT.out.1.below hb HTT.out.1.lt) (HTT.out.2.below hb HTT.out.2.lt))
  have HW := Lib.hid (below_then HW.out HW.out.size hb)
  have HTR := Lib.hid (And.intro (HTR.out.1.below hb) (HTR.out.2.below hb))
  clear hb hkb hpp hev
  obtain ⟨x11, hx11⟩ : ∃ n, n = w4.heap.size := ⟨_, rfl⟩
  go_upto_region 5 with (refine wpList_store_blk rfl 38 (.tmp 11) (.tmp 45) rfl w4.heap.size (pairC pp) rfl rfl 38 (pairC ([], [])) (heap_alloc_new w4 _) (by kernel_rfl) rfl (pairC_one pp) ?_
                         intro w5 hz hg
                         have hb5 : Below w4.heap.size w4 w5 := ((Below.refl w4.heap.size w4).alloc (Nat.le_refl _) _).grown hg (by simp) (fun q e => by injection e with e; omega)
                         have HX11 := Lib.hid hz
                         have HX3 := Lib.hid (HX3.out.below hb5)
                         have HX6 := Lib.hid (HX6.out.below hb5)
                         have HEV := Lib.hid (HEV.out.below hb5)
                         have HTT := Lib.hid (And.intro (HTT.out.1.below hb5 HTT.out.1.lt) (HTT.out.2.below hb5 HTT.out.2.lt))
                         have HW := Lib.hid (below_then HW.out HW.out.size hb5)
                         have HTR := Lib.hid (And.intro (HTR.out.1.below hb5) (HTR.out.2.below hb5))
                         clear hz hg hb5)
  rw [← hx11] at HX11 ⊢
  clear hx11
  obtain ⟨x13, hx13⟩ : ∃ n, n = w5.heap.size := ⟨_, rfl⟩
  go_upto_region 6 with (refine wpList_store_blk rfl 38 (.tmp 13) (.tmp 47) rfl w5.heap.size (pairC ([], [])) rfl rfl 38 (pairC ([], [])) (heap_alloc_new w5 _) (by kernel_rfl) rfl (pairC_one _) ?_
                         intro w6 hz hg
                         have HX13 := Lib.hid hz
                         have H5 := Lib.hid (show Below w5.heap.size w5 w6 from ((Below.refl w5.heap.size w5).alloc (Nat.le_refl _) _).grown hg (by simp) (fun q e => by injection e with e; omega))
                         clear hz hg)
  have HXL := Lib.hid (show w5.heap.size ≤ x13 by omega)
  rw [← hx13] at HX13 ⊢
  clear hx13
  have HLD := Lib.hid (ld_tree (HX6.out.below H5.out) HLC.out.1)
  go_wp2_with (refine wpList_load rfl (.tmp 6) rfl ⟨x6, 0, none⟩ (.agg cs.toArray) rfl HLD.out ?_)
  refine (rpairs_own t cs _ (HTR.out.2.below H5.out) HGT.out.2.1).mono ?_
  rintro e w7 ⟨A4, c4, rfl, ho, hb⟩
  have HXB := Lib.hid (show x13 < w6.heap.size from HX13.out.lt)
  have HX13 := Lib.hid (HX13.out.below hb)
  have H5 := Lib.hid (below_then H5.out H5.out.size hb)
  have HO := Lib.hid ho
  obtain ⟨n4, hn4⟩ : ∃ k, manyO t = k := ⟨_, rfl⟩
  have HN4 := Lib.hid (show (pairsO t).length = n4 by rw [← hn4]; exact pairsO_length t)
  rw [hn4] at ho ⊢
  have HN5 := Lib.hid hn4
  have HO := Lib.hid ho
  have HE32 := Lib.hid ((HX3.out.below H5.out).cellD 2 _ rfl)
  clear hb ho hn4
  go_upto_region 8 with fail
  go_cut [59] from 50 to 58 (fun v59 wx => v59 = .bool (decide (inI t ai)) ∧ w7 = wx)
  case first =>
    have e32 := HE32.out
    by_cases hin : inI t ai
    · have HD := Lib.hid (decide_eq_true hin)
      have h2 : ai < (n4 : Int) := by have h := hin.2; rw [HN5.out] at h; exact h
      have h3 : 0 ≤ ai := hin.1
      clear hin
      go_wp2_with fail
      go_meet
      exact ⟨by rw [HD.out], rfl⟩
    · have HD := Lib.hid (decide_eq_false hin)
      have hout := not_in hin
      rw [HN5.out] at hout
      clear hin
      by_cases h1 : ai < 0
      · have h2 : ¬ (0 ≤ ai) := by omega
        clear hout
        go_wp2_with fail
        go_meet
        exact ⟨by rw [HD.out], rfl⟩
      · have h2 : 0 ≤ ai := by omega
        have h3 : ¬ ai < (n4 : Int) := by omega
        clear hout
        go_wp2_with fail
        go_meet
        exact ⟨by rw [HD.out], rfl⟩
  case rest =>
  obtain ⟨rfl, rfl⟩ := hcut
  go_upto_if 59 with (fail)
  go_cut [15] from 59 to 64 (fun v15 wx => v15 = .int .i64 (kb : Nat) ∧ Blk wx x13 38 (pairC pp) ∧ wx.ownsRow w6.heap.size 38 2 (.slice A4 n4 c4) n4 (pairsC (pairsO t)) ∧ Below w5.heap.size w5 wx)
  case first =>
    have e32 := HE32.out
    by_cases hin : inI t ai
    · rw [decide_eq_true hin]
      obtain ⟨k, rfl⟩ : ∃ k : Nat, ai = (k : Nat) := ⟨ai.toNat, by unfold inI at hin; omega⟩
      have hk4 : k < n4 := by have h := hin.2; rw [HN5.out] at h; omega
      obtain ⟨q, hq⟩ : ∃ q, (pairsO t)[k]? = some q := ⟨_, List.getElem?_eq_getElem (by rw [HN4.out]; exact hk4)⟩
      have e1 : kb = 0 := by rw [← HK.out.1]; unfold atK; rw [if_pos hin]
      have e2 : pp = q := by rw [← HK.out.2]; unfold atP; rw [if_pos hin, Int.toNat_natCast, hq]; rfl
      have HK1 := Lib.hid (And.intro e1 e2)
      have hrd := own_rd7 HO.out
      obtain ⟨b, o, rfl, hcl⟩ := hrd (by rw [pairsC_len, HN4.out]; omega)
      have d1 := hcl _ _ (pairsC_cells _ _ _ hq).1
      have d2 := hcl _ _ (pairsC_cells _ _ _ hq).2
      rw [← Nat.add_assoc] at d2
      have h2 : (k : Int) < (n4 : Int) := by omega
      have hn9 : n4 ≤ 900000 := by rw [← HN5.out]; exact HGT.out.2.1
      clear hin hq e1 e2 hrd hcl hk4
      go_wp2_with (refine wpList_store_blk rfl 38 (.tmp 13) (.tmp 64) rfl x13 (pairC q) rfl rfl 38 (pairC ([], [])) HX13.out (by kernel_rfl) rfl (pairC_one q) ?_
                   intro w8 hz hg
                   have HX13 := Lib.hid hz
                   have HO := Lib.hid (HO.out.kept hg (.inr (fun e => by have h := (HO.out.lt _ e).1; have := HXB.out; omega)))
                   have H5 := Lib.hid (H5.out.grown hg H5.out.size (fun j e => by injection e with e; have := HXL.out; omega))
                   clear hz hg)
      go_meet
      exact ⟨by rw [HK1.out.1]; rfl, by rw [HK1.out.2]; exact HX13.out, HO.out, H5.out⟩
    · rw [decide_eq_false hin]
      have e1 : kb = 1 := by rw [← HK.out.1]; unfold atK; rw [if_neg hin]
      have e2 : pp = ([], []) := by rw [← HK.out.2]; unfold atP; rw [if_neg hin]
      have HK1 := Lib.hid (And.intro e1 e2)
      clear hin e1 e2
      go_wp2_with fail
      go_meet
      exact ⟨by rw [HK1.out.1]; rfl, by rw [HK1.out.2]; exact HX13.out, HO.out, H5.out⟩
  case rest =>
    obtain ⟨rfl, hz13, ho, hb⟩ := hcut
    have HX13 := Lib.hid hz13
    have HRD := Lib.hid (own_rd7 ho)
    have HX3 := Lib.hid (HX3.out.below hb)
    have HX6 := Lib.hid (HX6.out.below hb)
    have HX11 := Lib.hid (HX11.out.below hb)
    have HEV := Lib.hid (HEV.out.below hb)
    have HTT := Lib.hid (And.intro (HTT.out.1.below hb HTT.out.1.lt) (HTT.out.2.below hb HTT.out.2.lt))
    have HW := Lib.hid (below_then HW.out HW.out.size hb)
    have HTR := Lib.hid (And.intro (HTR.out.1.below hb) (HTR.out.2.below hb))
    clear hz13 ho hb H5 HO HXL HXB HE32
    have e32 := HX3.out.cellD 2 _ rfl
    go_wp2_with fail
    clear e32
    refine (path_all t v ai _ HTR.out.1 HGT.out.2.1).mono ?_
    rintro e w10 ⟨A6, n6, c6, fv, rfl, hn6, hrp, hfv, hb⟩
    obtain ⟨sl, hsl⟩ : ∃ k, pathI t ai = k := ⟨_, rfl⟩
    rw [hsl] at hn6 hrp
    rw [HK.out.1] at hfv
    have HN6 := Lib.hid (show sl.length = n6 ∧ (∀ s ∈ sl, s.other.length = 32) ∧ n6 ≤ 900000 from ⟨hn6.symm, by rw [← hsl]; exact pathI_steps t ai, by rw [hn6, ← hsl]; exact Nat.le_trans (pathI_len t ai) HGT.out.2.1⟩)
    have HSL := Lib.hid hsl
    have HRP := Lib.hid hrp
    have HFV := Lib.hid hfv
    have HX3 := Lib.hid (HX3.out.below hb)
    have HX6 := Lib.hid (HX6.out.below hb)
    have HX11 := Lib.hid (HX11.out.below hb)
    have HX13 := Lib.hid (HX13.out.below hb)
    have HRD := Lib.hid (HRD.out.below hb)
    have HEV := Lib.hid (HEV.out.below hb)
    have HTT := Lib.hid (And.intro (HTT.out.1.below hb HTT.out.1.lt) (HTT.out.2.below hb HTT.out.2.lt))
    have HW := Lib.hid (below_then HW.out HW.out.size hb)
    have HTR := Lib.hid (And.intro (HTR.out.1.below hb) (HTR.out.2.below hb))
    clear hn6 hsl hrp hfv hb
    have e32 := HX3.out.cellD 2 _ rfl
    have HLD := Lib.hid (ld_tree HX6.out HLC.out.1)
    go_wp2_with (refine wpList_load rfl (.tmp 6) rfl ⟨x6, 0, none⟩ (.agg cs.toArray) rfl HLD.out ?_)
    clear e32
    refine (rpath_all t ai cs _ HTR.out.2 HGT.out.2.1 HGT.out.2.2).mono ?_
    rintro e wL ⟨A8, n8, c8, rfl, hn8, hrp, hb⟩
    rw [HSL.out] at hn8 hrp
    rw [HK.out.1]
    obtain rfl : n8 = n6 := by rw [hn8, HN6.out.1]
    have HRQ := Lib.hid (And.intro (HRP.out.below hb) hrp)
    have HX3 := Lib.hid (HX3.out.below hb)
    have HX6 := Lib.hid (HX6.out.below hb)
    have HX11 := Lib.hid (HX11.out.below hb)
    have HX13 := Lib.hid (HX13.out.below hb)
    have HRD := Lib.hid (HRD.out.below hb)
    have HEV := Lib.hid (And.intro (HEV.out.below hb) (HFV.out.below hb))
    have HTT := Lib.hid (And.intro (HTT.out.1.below hb HTT.out.1.lt) (HTT.out.2.below hb HTT.out.2.lt))
    have HW := Lib.hid (below_then HW.out HW.out.size hb)
    have HTR := Lib.hid (And.intro (HTR.out.1.below hb) (HTR.out.2.below hb))
    clear hn8 hrp hb HRP HFV
    obtain ⟨pk, pv⟩ := pp
    have HC : Hid (∀ w', Below wL.heap.size wL w' → w'.cell? ⟨x11, 0, none⟩ = some (S8 pk) ∧ w'.cell? ⟨x11, 1, none⟩ = some (S8 pv) ∧ w'.cell? ⟨x13, 0, none⟩ = some (S8 pk) ∧ w'.cell? ⟨x13, 1, none⟩ = some (S8 pv)) := Lib.hid fun w' h => ⟨(HX11.out.below h).cellD 0 _ rfl, (HX11.out.below h).cellD 1 _ rfl, (HX13.out.below h).cellD 0 _ rfl, (HX13.out.below h).cellD 1 _ rfl⟩
    have HAK : Hid (∀ w', Below wL.heap.size wL w' → w'.cell? ⟨x3, 0, none⟩ = some (S8 ak) ∧ w'.cell? ⟨x3, 1, none⟩ = some (S8 aw)) := Lib.hid fun w' h => ⟨(HX3.out.below h).cellD 0 _ rfl, (HX3.out.below h).cellD 1 _ rfl⟩
    have HL6 : Hid (∀ w', Below wL.heap.size wL w' → (loadVar 26 ⟨x6, 0, none⟩).run Tryd.prog w' = .ok (.agg cs.toArray) w') := Lib.hid fun w' h => ld_tree (HX6.out.below h) HLC.out.1
    have HB : Hid (Below wL.heap.size wL wL) := Lib.hid (Below.refl _ _)
    clear HX3 HX11 HX13
    go_wp2_with fail
    refine (num07_to ev kb _ (HEV.out.1.below HB.out) (HTT.out.2.below HB.out HTT.out.2.lt)).mono ?_
    rintro e wc ⟨rfl, hb⟩
    have HB := Lib.hid (below_then HB.out HB.out.size hb)
    clear hb
    obtain ⟨c1, c2, c3, c4'⟩ := HC.out _ HB.out
    go_wp2_with fail
    clear c1 c2 c3 c4'
    refine (num07_to fv kb _ (HEV.out.2.below HB.out) (HTT.out.2.below HB.out HTT.out.2.lt)).mono ?_
    rintro e wd ⟨rfl, hb⟩
    have HB := Lib.hid (below_then HB.out HB.out.size hb)
    clear hb
    go_upto_block 0 with fail
    go_cut [20] from 101 to 115 (fun v20 wx => Below wd.heap.size wd wx)
    case first => as_aux_lemma =>
      go_wp2_with fail
      go_loopw [20] (fun i wr => RunsInv wd n8 i wr) (fun i _ => n8 - (intOf i).toNat)
      case atStart => exact ⟨0, rfl, Nat.zero_le _, Below.refl _ _⟩
      case round =>
        obtain ⟨k, rfl, hk, hb⟩ := hrel
        have HBR := Lib.hid hb
        have HB := Lib.hid (below_then HB.out HB.out.size hb)
        by_cases hkn : k < n8
        · obtain ⟨s, hs⟩ : ∃ s, sl[k]? = some s := ⟨_, List.getElem?_eq_getElem (by rw [HN6.out.1]; exact hkn)⟩
          have hs32 := HN6.out.2.1 s (List.mem_of_getElem? hs)
          have hl0 : 0 < (stepsC sl).length := by have h := stepsC_at sl k s HN6.out.2.1 hs 0 _ rfl; have := (List.getElem?_eq_some_iff.1 h).1; omega
          obtain ⟨b, o, rfl, hcl⟩ := HRQ.out.1 hl0
          obtain ⟨b', o', rfl, hcl'⟩ := HRQ.out.2 hl0
          obtain ⟨st, hst⟩ : ∃ st, st = stepC s := ⟨_, rfl⟩
          have r1 : wL.rangeAt b (o + k * 34) st := fun j u hu => by rw [hst] at hu; have h := hcl _ u (stepsC_at sl k s HN6.out.2.1 hs j u hu); rw [← Nat.add_assoc] at h; exact h
          have r2 : wL.rangeAt b' (o' + k * 34) st := fun j u hu => by rw [hst] at hu; have h := hcl' _ u (stepsC_at sl k s HN6.out.2.1 hs j u hu); rw [← Nat.add_assoc] at h; exact h
          have hsl : st.length = 34 := by rw [hst]; exact stepC_len hs32
          have heq : ∀ wx, (binOp .neq 67 (.agg st.toArray) (.agg st.toArray)).run Tryd.prog wx = .ok (.bool false) wx := fun wx => by rw [hst]; exact neq_stepV s hs32 wx
          have HTS : Hid (∀ w', Below wr.heap.size wr w' → w'.rangeAt b (o + k * 34) st ∧ w'.rangeAt b' (o' + k * 34) st) := Lib.hid fun w' h => ⟨range_below (range_below r1 HB.out) h, range_below (range_below r2 HB.out) h⟩
          have i1 : (Tryd.prog.info? 67).map (·.size) = some st.length := by rw [hsl]; kernel_rfl
          have i2 : (Tryd.prog.info? 82).map (·.size) = some st.length := by rw [hsl]; kernel_rfl
          have u1 := Tryd.underlying67
          have u2 := Tryd.underlying82
          have hk1 : (k : Int) < (n8 : Int) := by omega
          have hn9 : n8 ≤ 900000 := HN6.out.2.2
          clear hs hs32 hl0 hcl hcl' hst r1 r2 hsl hb
          go_wp2_with fail
          refine wp_region_held_drew (S := (fun w' => w'.rangeAt b (o + k * 34) st ∧ w'.rangeAt b' (o' + k * 34) st)) (by kernel_rfl) ?qs0 (fun hHeld => ?_)
          case qs0 => exact HTS.out _ (refl_drewN _ 1)
          refine held_take (i := 0) (v := ?q1v) rfl (by kernel_rfl) (by kernel_rfl) (by kernel_rfl) (fun _ _ _ h => h) (by rfl) ?q1y hHeld ?_
          case q1y => ((intro w _hSw; (try dsimp only at _hSw); go_simp); try (with_reducible rfl))
          try simp only [Act.put, List.setIfInBounds_toArray, List.set_cons_zero, List.set_cons_succ]
          refine held_take (i := 1) (v := ?q2v) rfl (by kernel_rfl) (by kernel_rfl) (by kernel_rfl) (fun _ _ _ h => h) (by rfl) ?q2y hHeld ?_
          case q2y => ((intro w _hSw; (try dsimp only at _hSw); go_simp); try (with_reducible rfl))
          try simp only [Act.put, List.setIfInBounds_toArray, List.set_cons_zero, List.set_cons_succ]
          refine held_take (i := 2) (v := ?q3v) rfl (by kernel_rfl) (by kernel_rfl) (by kernel_rfl) (fun _ _ _ h => h) (by rfl) ?q3y hHeld ?_
          case q3y => ((intro w _hSw; (try dsimp only at _hSw); go_simp); try (with_reducible rfl))
          try simp only [Act.put, List.setIfInBounds_toArray, List.set_cons_zero, List.set_cons_succ]
          refine held_row (i := 3) rfl (by kernel_rfl) (by kernel_rfl) (by kernel_rfl) _ _ rfl _ _ rfl ?q4C ?q4D (fun _ _ _ h => h) (by rfl) ?q4a ?q4b ?q4c ?q4d hHeld ?_
          case q4a => (intro w hSw; (try dsimp only at hSw); go_split_ands; assumption)
          case q4b => assumption
          case q4c => rfl
          case q4d => first | assumption | (simp only [*]; done)
          try simp only [Act.put, List.setIfInBounds_toArray, List.set_cons_zero, List.set_cons_succ]
          refine held_take (i := 4) (v := ?q5v) rfl (by kernel_rfl) (by kernel_rfl) (by kernel_rfl) (fun _ _ _ h => h) (by rfl) ?q5y hHeld ?_
          case q5y => ((intro w _hSw; (try dsimp only at _hSw); go_simp); try (with_reducible rfl))
          try simp only [Act.put, List.setIfInBounds_toArray, List.set_cons_zero, List.set_cons_succ]
          refine held_take (i := 5) (v := ?q6v) rfl (by kernel_rfl) (by kernel_rfl) (by kernel_rfl) (fun _ _ _ h => h) (by rfl) ?q6y hHeld ?_
          case q6y => ((intro w _hSw; (try dsimp only at _hSw); go_simp); try (with_reducible rfl))
          try simp only [Act.put, List.setIfInBounds_toArray, List.set_cons_zero, List.set_cons_succ]
          refine held_take (i := 6) (v := ?q7v) rfl (by kernel_rfl) (by kernel_rfl) (by kernel_rfl) (fun _ _ _ h => h) (by rfl) ?q7y hHeld ?_
          case q7y => ((intro w _hSw; (try dsimp only at _hSw); go_simp); try (with_reducible rfl))
          try simp only [Act.put, List.setIfInBounds_toArray, List.set_cons_zero, List.set_cons_succ]
          refine held_row (i := 7) rfl (by kernel_rfl) (by kernel_rfl) (by kernel_rfl) _ _ rfl _ _ rfl ?q8C ?q8D (fun _ _ _ h => h) (by rfl) ?q8a ?q8b ?q8c ?q8d hHeld ?_
          case q8a => (intro w hSw; (try dsimp only at hSw); go_split_ands; assumption)
          case q8b => assumption
          case q8c => rfl
          case q8d => first | assumption | (simp only [*]; done)
          try simp only [Act.put, List.setIfInBounds_toArray, List.set_cons_zero, List.set_cons_succ]
          refine held_take (i := 8) (v := ?q9v) rfl (by kernel_rfl) (by kernel_rfl) (by kernel_rfl) (fun _ _ _ h => h) (by rfl) ?q9y hHeld ?_
          case q9y => ((intro w _hSw; (try dsimp only at _hSw); go_simp); try (with_reducible rfl))
          try simp only [Act.put, List.setIfInBounds_toArray, List.set_cons_zero, List.set_cons_succ]
          refine wpAnyH_done (by kernel_rfl) ?_ _
          clear hHeld
          go_wp2
          refine ⟨⟨k + 1, by simp, by omega, below_drewN HBR.out 1⟩, ?_⟩
          show n8 - Int.toNat ((k : Int) + 1) < n8 - Int.toNat (k : Int)
          omega
        · have hk1 : ¬ (k : Int) < (n8 : Int) := by omega
          clear hb hkn
          go_wp2_with fail
          go_meet
          exact HBR.out
    case rest =>
      have HB := Lib.hid (below_then HB.out HB.out.size hcut)
      clear hcut
      as_aux_lemma =>
        obtain ⟨rt, hrt⟩ : ∃ rt, rt = (rootO t).map B := ⟨_, rfl⟩
        obtain ⟨rl, hrl⟩ : ∃ rt, rt = (avLeaf ak aw).map B := ⟨_, rfl⟩
        obtain ⟨rn, hrn⟩ : ∃ rt, rt = (avNode 1 (rootO t) 2 (List.replicate 32 0)).map B := ⟨_, rfl⟩
        have hq1 : ∀ wx, (binOp .eql 46 (.agg rt.toArray) (.agg rt.toArray)).run Tryd.prog wx = .ok (.bool true) wx := by
          intro wx
          have h := run_eql_bytes aHash7 wx (rootO t) (rootO t) (rootO_length t) (rootO_length t)
          rw [hrt]
          simpa using h
        have hq2 : ∀ wx, (binOp .eql 46 (.agg rl.toArray) (.agg rl.toArray)).run Tryd.prog wx = .ok (.bool true) wx := by
          intro wx
          have h := run_eql_bytes aHash7 wx (avLeaf ak aw) (avLeaf ak aw) (avLeaf_length _ _) (avLeaf_length _ _)
          rw [hrl]
          simpa using h
        have hq3 : ∀ wx, (binOp .eql 46 (.agg rn.toArray) (.agg rn.toArray)).run Tryd.prog wx = .ok (.bool true) wx := by
          intro wx
          have h := run_eql_bytes aHash7 wx (avNode 1 (rootO t) 2 (List.replicate 32 0)) (avNode 1 (rootO t) 2 (List.replicate 32 0)) (avNode_length _ _ _ _) (avNode_length _ _ _ _)
          rw [hrn]
          simpa using h
        have HRT := Lib.hid (And.intro hrt (And.intro hrl hrn))
        have HTS : Hid (∀ w', Below wL.heap.size wL w' → w'.cell? ⟨x3, 0, none⟩ = some (S8 ak) ∧ w'.cell? ⟨x3, 1, none⟩ = some (S8 aw) ∧ w'.rangeAt x6 0 cs) := Lib.hid fun w' h => ⟨(HAK.out w' h).1, (HAK.out w' h).2, range_below (blk_range HX6.out) h⟩
        have i6 : (Tryd.prog.info? 26).map (·.size) = some cs.length := by rw [HLC.out.1]; kernel_rfl
        have u6 := Tryd.underlying26
        have HB := Lib.hid (below_drewN HB.out 1)
        clear hrt hrl hrn
        go_wp2_with fail
        refine wp_region_held_drew (S := (fun w' => w'.cell? ⟨x3, 0, none⟩ = some (S8 ak) ∧ w'.cell? ⟨x3, 1, none⟩ = some (S8 aw) ∧ w'.rangeAt x6 0 cs)) (by kernel_rfl) ?zs0 (fun hHeld => ?_)
        case zs0 => exact HTS.out _ HB.out
        refine held_take (i := 0) (v := ?z1v) rfl (by as_aux_lemma => kernel_rfl) (by as_aux_lemma => kernel_rfl) (by as_aux_lemma => kernel_rfl) (fun _ _ _ h => h) (by rfl) ?z1y hHeld ?_
        case z1y => ((intro w _hSw; (try dsimp only at _hSw); go_simp); try (with_reducible rfl))
        try simp only [Act.put, List.setIfInBounds_toArray, List.set_cons_zero, List.set_cons_succ]
        refine held_take (i := 1) (v := ?z2v) rfl (by as_aux_lemma => kernel_rfl) (by as_aux_lemma => kernel_rfl) (by as_aux_lemma => kernel_rfl) (fun _ _ _ h => h) (by rfl) ?z2y hHeld ?_
        case z2y => ((intro w _hSw; (try dsimp only at _hSw); go_simp); try (with_reducible rfl))
        try simp only [Act.put, List.setIfInBounds_toArray, List.set_cons_zero, List.set_cons_succ]
        refine held_take (i := 2) (v := ?z3v) rfl (by as_aux_lemma => kernel_rfl) (by as_aux_lemma => kernel_rfl) (by as_aux_lemma => kernel_rfl) (fun _ _ _ h => h) (by rfl) ?z3y hHeld ?_
        case z3y => ((intro w _hSw; (try dsimp only at _hSw); go_simp); try (with_reducible rfl))
        try simp only [Act.put, List.setIfInBounds_toArray, List.set_cons_zero, List.set_cons_succ]
        refine held_take (i := 3) (v := ?z4v) rfl (by as_aux_lemma => kernel_rfl) (by as_aux_lemma => kernel_rfl) (by as_aux_lemma => kernel_rfl) (fun _ _ _ h => h) (by rfl) ?z4y hHeld ?_
        case z4y => ((intro w _hSw; (try dsimp only at _hSw); go_simp); try (with_reducible rfl))
        try simp only [Act.put, List.setIfInBounds_toArray, List.set_cons_zero, List.set_cons_succ]
        refine held_take (i := 4) (v := ?z5v) rfl (by as_aux_lemma => kernel_rfl) (by as_aux_lemma => kernel_rfl) (by as_aux_lemma => kernel_rfl) (fun _ _ _ h => h) (by rfl) ?z5y hHeld ?_
        case z5y => ((intro w _hSw; (try dsimp only at _hSw); go_simp); try (with_reducible rfl))
        try simp only [Act.put, List.setIfInBounds_toArray, List.set_cons_zero, List.set_cons_succ]
        refine held_take (i := 5) (v := ?z6v) rfl (by as_aux_lemma => kernel_rfl) (by as_aux_lemma => kernel_rfl) (by as_aux_lemma => kernel_rfl) (fun _ _ _ h => h) (by rfl) ?z6y hHeld ?_
        case z6y => ((intro w _hSw; (try dsimp only at _hSw); go_simp); try (with_reducible rfl))
        try simp only [Act.put, List.setIfInBounds_toArray, List.set_cons_zero, List.set_cons_succ]
        refine held_take (i := 6) (v := ?z7v) rfl (by as_aux_lemma => kernel_rfl) (by as_aux_lemma => kernel_rfl) (by as_aux_lemma => kernel_rfl) (fun _ _ _ h => h) (by rfl) ?z7y hHeld ?_
        case z7y => ((intro w _hSw; (try dsimp only at _hSw); go_simp); try (with_reducible rfl))
        try simp only [Act.put, List.setIfInBounds_toArray, List.set_cons_zero, List.set_cons_succ]
        refine held_take (i := 7) (v := ?z8v) rfl (by as_aux_lemma => kernel_rfl) (by as_aux_lemma => kernel_rfl) (by as_aux_lemma => kernel_rfl) (fun _ _ _ h => h) (by rfl) ?z8y hHeld ?_
        case z8y => ((intro w _hSw; (try dsimp only at _hSw); go_simp); try (with_reducible rfl))
        try simp only [Act.put, List.setIfInBounds_toArray, List.set_cons_zero, List.set_cons_succ]
        refine held_take (i := 8) (v := ?z9v) rfl (by as_aux_lemma => kernel_rfl) (by as_aux_lemma => kernel_rfl) (by as_aux_lemma => kernel_rfl) (fun _ _ _ h => h) (by rfl) ?z9y hHeld ?_
        case z9y => ((intro w _hSw; (try dsimp only at _hSw); go_simp); try (with_reducible rfl))
        try simp only [Act.put, List.setIfInBounds_toArray, List.set_cons_zero, List.set_cons_succ]
        refine held_take (i := 9) (v := ?z10v) rfl (by as_aux_lemma => kernel_rfl) (by as_aux_lemma => kernel_rfl) (by as_aux_lemma => kernel_rfl) (fun _ _ _ h => h) (by rfl) ?z10y hHeld ?_
        case z10y => ((intro w _hSw; (try dsimp only at _hSw); go_simp); try (with_reducible rfl))
        try simp only [Act.put, List.setIfInBounds_toArray, List.set_cons_zero, List.set_cons_succ]
        refine held_row (i := 11) rfl (by as_aux_lemma => kernel_rfl) (by as_aux_lemma => kernel_rfl) (by as_aux_lemma => kernel_rfl) _ _ rfl _ _ rfl ?z11C ?z11D (fun _ _ _ h => h) (by rfl) ?z11a ?z11b ?z11c ?z11d hHeld ?_
        case z11a => (intro w hSw; (try dsimp only at hSw); go_split_ands; assumption)
        case z11b => assumption
        case z11c => rfl
        case z11d => first | assumption | (simp only [*]; done)
        try simp only [Act.put, List.setIfInBounds_toArray, List.set_cons_zero, List.set_cons_succ]
        refine held_step (i := 10) rfl (by as_aux_lemma => kernel_rfl) (by rfl) (fun K hK => ?_)
        go_simp
        refine (root_any t v rt _ (HTR.out.1.below HB.out) HRT.out.1 (HTT.out.1.below HB.out HTT.out.1.lt)).mono ?_
        rintro e wc ⟨rfl, hb⟩
        have HB := Lib.hid (below_then HB.out HB.out.size hb)
        clear hb
        go_wp2_with fail
        have hHeld := HTS.out _ HB.out
        refine hK.out _ _ (HTS.out _ HB.out) ?_
        clear hK K
        try simp only [Act.put, List.setIfInBounds_toArray, List.set_cons_zero, List.set_cons_succ]
        refine held_step (i := 12) rfl (by as_aux_lemma => kernel_rfl) (by rfl) (fun K hK => ?_)
        go_simp
        refine (rrootO_any t cs _ (HTR.out.2.below HB.out) HGT.out.2.1 HGT.out.2.2).mono ?_
        rintro e wc ⟨cv, rfl, hcv, -, hb⟩
        have HB := Lib.hid (below_then HB.out HB.out.size hb)
        clear hb
        obtain rfl : rt = cv := HRT.out.1.trans hcv.symm
        clear hcv
        go_wp2_with fail
        have hHeld := HTS.out _ HB.out
        refine hK.out _ _ (HTS.out _ HB.out) ?_
        clear hK K
        try simp only [Act.put, List.setIfInBounds_toArray, List.set_cons_zero, List.set_cons_succ]
        refine held_take (i := 13) (v := ?z12v) rfl (by as_aux_lemma => kernel_rfl) (by as_aux_lemma => kernel_rfl) (by as_aux_lemma => kernel_rfl) (fun _ _ _ h => h) (by rfl) ?z12y hHeld ?_
        case z12y => ((intro w _hSw; (try dsimp only at _hSw); go_simp); try (with_reducible rfl))
        try simp only [Act.put, List.setIfInBounds_toArray, List.set_cons_zero, List.set_cons_succ]
        refine held_take (i := 14) (v := ?z13v) rfl (by as_aux_lemma => kernel_rfl) (by as_aux_lemma => kernel_rfl) (by as_aux_lemma => kernel_rfl) (fun _ _ _ h => h) (by rfl) ?z13y hHeld ?_
        case z13y => ((intro w _hSw; (try dsimp only at _hSw); go_simp); try (with_reducible rfl))
        try simp only [Act.put, List.setIfInBounds_toArray, List.set_cons_zero, List.set_cons_succ]
        refine held_take (i := 15) (v := ?z14v) rfl (by as_aux_lemma => kernel_rfl) (by as_aux_lemma => kernel_rfl) (by as_aux_lemma => kernel_rfl) (fun _ _ _ h => h) (by rfl) ?z14y hHeld ?_
        case z14y => ((intro w _hSw; (try dsimp only at _hSw); go_simp); try (with_reducible rfl))
        try simp only [Act.put, List.setIfInBounds_toArray, List.set_cons_zero, List.set_cons_succ]
        refine held_take (i := 16) (v := ?z15v) rfl (by as_aux_lemma => kernel_rfl) (by as_aux_lemma => kernel_rfl) (by as_aux_lemma => kernel_rfl) (fun _ _ _ h => h) (by rfl) ?z15y hHeld ?_
        case z15y => ((intro w _hSw; (try dsimp only at _hSw); go_simp); try (with_reducible rfl))
        try simp only [Act.put, List.setIfInBounds_toArray, List.set_cons_zero, List.set_cons_succ]
        refine held_take (i := 18) (v := ?z16v) rfl (by as_aux_lemma => kernel_rfl) (by as_aux_lemma => kernel_rfl) (by as_aux_lemma => kernel_rfl) (fun _ _ _ h => h) (by rfl) ?z16y hHeld ?_
        case z16y => ((intro w _hSw; (try dsimp only at _hSw); go_simp); try (with_reducible rfl))
        try simp only [Act.put, List.setIfInBounds_toArray, List.set_cons_zero, List.set_cons_succ]
        refine held_take (i := 19) (v := ?z17v) rfl (by as_aux_lemma => kernel_rfl) (by as_aux_lemma => kernel_rfl) (by as_aux_lemma => kernel_rfl) (fun _ _ _ h => h) (by rfl) ?z17y hHeld ?_
        case z17y => ((intro w _hSw; (try dsimp only at _hSw); go_simp); try (with_reducible rfl))
        try simp only [Act.put, List.setIfInBounds_toArray, List.set_cons_zero, List.set_cons_succ]
        refine held_step (i := 17) rfl (by as_aux_lemma => kernel_rfl) (by rfl) (fun K hK => ?_)
        go_simp
        refine (len_any t v _ (HTR.out.1.below HB.out)).mono ?_
        rintro e wc ⟨rfl, rfl⟩
        rw [HN5.out]
        go_wp2_with fail
        have hHeld := HTS.out _ HB.out
        refine hK.out _ _ (HTS.out _ HB.out) ?_
        clear hK K
        try simp only [Act.put, List.setIfInBounds_toArray, List.set_cons_zero, List.set_cons_succ]
        refine held_take (i := 20) (v := ?z18v) rfl (by as_aux_lemma => kernel_rfl) (by as_aux_lemma => kernel_rfl) (by as_aux_lemma => kernel_rfl) (fun _ _ _ h => h) (by rfl) ?z18y hHeld ?_
        case z18y => ((intro w _hSw; (try dsimp only at _hSw); go_simp); try (with_reducible rfl))
        try simp only [Act.put, List.setIfInBounds_toArray, List.set_cons_zero, List.set_cons_succ]
        refine held_take (i := 21) (v := ?z19v) rfl (by as_aux_lemma => kernel_rfl) (by as_aux_lemma => kernel_rfl) (by as_aux_lemma => kernel_rfl) (fun _ _ _ h => h) (by rfl) ?z19y hHeld ?_
        case z19y => ((intro w _hSw; (try dsimp only at _hSw); go_simp); try (with_reducible rfl))
        try simp only [Act.put, List.setIfInBounds_toArray, List.set_cons_zero, List.set_cons_succ]
        refine held_take (i := 22) (v := ?z20v) rfl (by as_aux_lemma => kernel_rfl) (by as_aux_lemma => kernel_rfl) (by as_aux_lemma => kernel_rfl) (fun _ _ _ h => h) (by rfl) ?z20y hHeld ?_
        case z20y => ((intro w _hSw; (try dsimp only at _hSw); go_simp); try (with_reducible rfl))
        try simp only [Act.put, List.setIfInBounds_toArray, List.set_cons_zero, List.set_cons_succ]
        refine held_take (i := 23) (v := ?z21v) rfl (by as_aux_lemma => kernel_rfl) (by as_aux_lemma => kernel_rfl) (by as_aux_lemma => kernel_rfl) (fun _ _ _ h => h) (by rfl) ?z21y hHeld ?_
        case z21y => ((intro w _hSw; (try dsimp only at _hSw); go_simp); try (with_reducible rfl))
        try simp only [Act.put, List.setIfInBounds_toArray, List.set_cons_zero, List.set_cons_succ]
        refine held_row (i := 25) rfl (by as_aux_lemma => kernel_rfl) (by as_aux_lemma => kernel_rfl) (by as_aux_lemma => kernel_rfl) _ _ rfl _ _ rfl ?z22C ?z22D (fun _ _ _ h => h) (by rfl) ?z22a ?z22b ?z22c ?z22d hHeld ?_
        case z22a => (intro w hSw; (try dsimp only at hSw); go_split_ands; assumption)
        case z22b => assumption
        case z22c => rfl
        case z22d => first | assumption | (simp only [*]; done)
        try simp only [Act.put, List.setIfInBounds_toArray, List.set_cons_zero, List.set_cons_succ]
        refine held_step (i := 24) rfl (by as_aux_lemma => kernel_rfl) (by rfl) (fun K hK => ?_)
        go_simp
        refine (height_any t v _ (HTR.out.1.below HB.out)).mono ?_
        rintro e wc ⟨rfl, rfl⟩
        go_wp2_with fail
        have hHeld := HTS.out _ HB.out
        refine hK.out _ _ (HTS.out _ HB.out) ?_
        clear hK K
        try simp only [Act.put, List.setIfInBounds_toArray, List.set_cons_zero, List.set_cons_succ]
        refine held_step (i := 26) rfl (by as_aux_lemma => kernel_rfl) (by rfl) (fun K hK => ?_)
        go_simp
        refine (rheightO_any t cs _ (HTR.out.2.below HB.out) HGT.out.2.1).mono ?_
        rintro e wc ⟨rfl, hb⟩
        have HB := Lib.hid (below_then HB.out HB.out.size hb)
        clear hb
        go_wp2_with fail
        have hHeld := HTS.out _ HB.out
        refine hK.out _ _ (HTS.out _ HB.out) ?_
        clear hK K
        try simp only [Act.put, List.setIfInBounds_toArray, List.set_cons_zero, List.set_cons_succ]
        refine held_take (i := 27) (v := ?z23v) rfl (by as_aux_lemma => kernel_rfl) (by as_aux_lemma => kernel_rfl) (by as_aux_lemma => kernel_rfl) (fun _ _ _ h => h) (by rfl) ?z23y hHeld ?_
        case z23y => ((intro w _hSw; (try dsimp only at _hSw); go_simp); try (with_reducible rfl))
        try simp only [Act.put, List.setIfInBounds_toArray, List.set_cons_zero, List.set_cons_succ]
        refine held_take (i := 28) (v := ?z24v) rfl (by as_aux_lemma => kernel_rfl) (by as_aux_lemma => kernel_rfl) (by as_aux_lemma => kernel_rfl) (fun _ _ _ h => h) (by rfl) ?z24y hHeld ?_
        case z24y => ((intro w _hSw; (try dsimp only at _hSw); go_simp); try (with_reducible rfl))
        try simp only [Act.put, List.setIfInBounds_toArray, List.set_cons_zero, List.set_cons_succ]
        refine held_take (i := 29) (v := ?z25v) rfl (by as_aux_lemma => kernel_rfl) (by as_aux_lemma => kernel_rfl) (by as_aux_lemma => kernel_rfl) (fun _ _ _ h => h) (by rfl) ?z25y hHeld ?_
        case z25y => ((intro w _hSw; (try dsimp only at _hSw); go_simp); try (with_reducible rfl))
        try simp only [Act.put, List.setIfInBounds_toArray, List.set_cons_zero, List.set_cons_succ]
        refine held_take (i := 30) (v := ?z26v) rfl (by as_aux_lemma => kernel_rfl) (by as_aux_lemma => kernel_rfl) (by as_aux_lemma => kernel_rfl) (fun _ _ _ h => h) (by rfl) ?z26y hHeld ?_
        case z26y => ((intro w _hSw; (try dsimp only at _hSw); go_simp); try (with_reducible rfl))
        try simp only [Act.put, List.setIfInBounds_toArray, List.set_cons_zero, List.set_cons_succ]
        refine held_take (i := 31) (v := ?z27v) rfl (by as_aux_lemma => kernel_rfl) (by as_aux_lemma => kernel_rfl) (by as_aux_lemma => kernel_rfl) (fun _ _ _ h => h) (by rfl) ?z27y hHeld ?_
        case z27y => ((intro w _hSw; (try dsimp only at _hSw); go_simp); try (with_reducible rfl))
        try simp only [Act.put, List.setIfInBounds_toArray, List.set_cons_zero, List.set_cons_succ]
        refine held_take (i := 32) (v := ?z28v) rfl (by as_aux_lemma => kernel_rfl) (by as_aux_lemma => kernel_rfl) (by as_aux_lemma => kernel_rfl) (fun _ _ _ h => h) (by rfl) ?z28y hHeld ?_
        case z28y => ((intro w _hSw; (try dsimp only at _hSw); go_simp); try (with_reducible rfl))
        try simp only [Act.put, List.setIfInBounds_toArray, List.set_cons_zero, List.set_cons_succ]
        refine held_row (i := 34) rfl (by as_aux_lemma => kernel_rfl) (by as_aux_lemma => kernel_rfl) (by as_aux_lemma => kernel_rfl) _ _ rfl _ _ rfl ?z29C ?z29D (fun _ _ _ h => h) (by rfl) ?z29a ?z29b ?z29c ?z29d hHeld ?_
        case z29a => (intro w hSw; (try dsimp only at hSw); go_split_ands; assumption)
        case z29b => assumption
        case z29c => rfl
        case z29d => first | assumption | (simp only [*]; done)
        try simp only [Act.put, List.setIfInBounds_toArray, List.set_cons_zero, List.set_cons_succ]
        refine held_take (i := 35) (v := ?z30v) rfl (by as_aux_lemma => kernel_rfl) (by as_aux_lemma => kernel_rfl) (by as_aux_lemma => kernel_rfl) (fun _ _ _ h => h) (by rfl) ?z30y hHeld ?_
        case z30y => ((intro w _hSw; (try dsimp only at _hSw); go_simp); try (with_reducible rfl))
        try simp only [Act.put, List.setIfInBounds_toArray, List.set_cons_zero, List.set_cons_succ]
        refine held_take (i := 36) (v := ?z31v) rfl (by as_aux_lemma => kernel_rfl) (by as_aux_lemma => kernel_rfl) (by as_aux_lemma => kernel_rfl) (fun _ _ _ h => h) (by rfl) ?z31y hHeld ?_
        case z31y => ((intro w _hSw; (try dsimp only at _hSw); go_simp); try (with_reducible rfl))
        try simp only [Act.put, List.setIfInBounds_toArray, List.set_cons_zero, List.set_cons_succ]
        refine held_step (i := 33) rfl (by as_aux_lemma => kernel_rfl) (by rfl) (fun K hK => ?_)
        go_simp
        refine (find_any t v ak _ (HTR.out.1.below HB.out) (by have := HGT.out.2.1; omega)).mono ?_
        rintro e wc ⟨rfl, rfl⟩
        go_wp2_with fail
        have hHeld := HTS.out _ HB.out
        refine hK.out _ _ (HTS.out _ HB.out) ?_
        clear hK K
        try simp only [Act.put, List.setIfInBounds_toArray, List.set_cons_zero, List.set_cons_succ]
        refine held_step (i := 37) rfl (by as_aux_lemma => kernel_rfl) (by rfl) (fun K hK => ?_)
        go_simp
        refine (rfind_any t ak cs _ (HTR.out.2.below HB.out) HGT.out.1 HGT.out.2.1).mono ?_
        rintro e wc ⟨rfl, hb⟩
        have HB := Lib.hid (below_then HB.out HB.out.size hb)
        clear hb
        go_wp2_with fail
        have hHeld := HTS.out _ HB.out
        refine hK.out _ _ (HTS.out _ HB.out) ?_
        clear hK K
        try simp only [Act.put, List.setIfInBounds_toArray, List.set_cons_zero, List.set_cons_succ]
        refine held_take (i := 38) (v := ?z32v) rfl (by as_aux_lemma => kernel_rfl) (by as_aux_lemma => kernel_rfl) (by as_aux_lemma => kernel_rfl) (fun _ _ _ h => h) (by rfl) ?z32y hHeld ?_
        case z32y => ((intro w _hSw; (try dsimp only at _hSw); go_simp); try (with_reducible rfl))
        try simp only [Act.put, List.setIfInBounds_toArray, List.set_cons_zero, List.set_cons_succ]
        refine held_take (i := 39) (v := ?z33v) rfl (by as_aux_lemma => kernel_rfl) (by as_aux_lemma => kernel_rfl) (by as_aux_lemma => kernel_rfl) (fun _ _ _ h => h) (by rfl) ?z33y hHeld ?_
        case z33y => ((intro w _hSw; (try dsimp only at _hSw); go_simp); try (with_reducible rfl))
        try simp only [Act.put, List.setIfInBounds_toArray, List.set_cons_zero, List.set_cons_succ]
        refine held_take (i := 40) (v := ?z34v) rfl (by as_aux_lemma => kernel_rfl) (by as_aux_lemma => kernel_rfl) (by as_aux_lemma => kernel_rfl) (fun _ _ _ h => h) (by rfl) ?z34y hHeld ?_
        case z34y => ((intro w _hSw; (try dsimp only at _hSw); go_simp); try (with_reducible rfl))
        try simp only [Act.put, List.setIfInBounds_toArray, List.set_cons_zero, List.set_cons_succ]
        refine held_take (i := 41) (v := ?z35v) rfl (by as_aux_lemma => kernel_rfl) (by as_aux_lemma => kernel_rfl) (by as_aux_lemma => kernel_rfl) (fun _ _ _ h => h) (by rfl) ?z35y hHeld ?_
        case z35y => ((intro w _hSw; (try dsimp only at _hSw); go_simp); try (with_reducible rfl))
        try simp only [Act.put, List.setIfInBounds_toArray, List.set_cons_zero, List.set_cons_succ]
        refine held_take (i := 42) (v := ?z36v) rfl (by as_aux_lemma => kernel_rfl) (by as_aux_lemma => kernel_rfl) (by as_aux_lemma => kernel_rfl) (fun _ _ _ h => h) (by rfl) ?z36y hHeld ?_
        case z36y => ((intro w _hSw; (try dsimp only at _hSw); go_simp); try (with_reducible rfl))
        try simp only [Act.put, List.setIfInBounds_toArray, List.set_cons_zero, List.set_cons_succ]
        refine held_take (i := 43) (v := ?z37v) rfl (by as_aux_lemma => kernel_rfl) (by as_aux_lemma => kernel_rfl) (by as_aux_lemma => kernel_rfl) (fun _ _ _ h => h) (by rfl) ?z37y hHeld ?_
        case z37y => ((intro w _hSw; (try dsimp only at _hSw); go_simp); try (with_reducible rfl))
        try simp only [Act.put, List.setIfInBounds_toArray, List.set_cons_zero, List.set_cons_succ]
        refine held_take (i := 44) (v := ?z38v) rfl (by as_aux_lemma => kernel_rfl) (by as_aux_lemma => kernel_rfl) (by as_aux_lemma => kernel_rfl) (fun _ _ _ h => h) (by rfl) ?z38y hHeld ?_
        case z38y => ((intro w _hSw; (try dsimp only at _hSw); go_simp); try (with_reducible rfl))
        try simp only [Act.put, List.setIfInBounds_toArray, List.set_cons_zero, List.set_cons_succ]
        refine held_take (i := 45) (v := ?z39v) rfl (by as_aux_lemma => kernel_rfl) (by as_aux_lemma => kernel_rfl) (by as_aux_lemma => kernel_rfl) (fun _ _ _ h => h) (by rfl) ?z39y hHeld ?_
        case z39y => ((intro w _hSw; (try dsimp only at _hSw); go_simp); try (with_reducible rfl))
        try simp only [Act.put, List.setIfInBounds_toArray, List.set_cons_zero, List.set_cons_succ]
        refine held_row (i := 47) rfl (by as_aux_lemma => kernel_rfl) (by as_aux_lemma => kernel_rfl) (by as_aux_lemma => kernel_rfl) _ _ rfl _ _ rfl ?z40C ?z40D (fun _ _ _ h => h) (by rfl) ?z40a ?z40b ?z40c ?z40d hHeld ?_
        case z40a => (intro w hSw; (try dsimp only at hSw); go_split_ands; assumption)
        case z40b => assumption
        case z40c => rfl
        case z40d => first | assumption | (simp only [*]; done)
        try simp only [Act.put, List.setIfInBounds_toArray, List.set_cons_zero, List.set_cons_succ]
        refine held_take (i := 48) (v := ?z41v) rfl (by as_aux_lemma => kernel_rfl) (by as_aux_lemma => kernel_rfl) (by as_aux_lemma => kernel_rfl) (fun _ _ _ h => h) (by rfl) ?z41y hHeld ?_
        case z41y => ((intro w _hSw; (try dsimp only at _hSw); go_simp); try (with_reducible rfl))
        try simp only [Act.put, List.setIfInBounds_toArray, List.set_cons_zero, List.set_cons_succ]
        refine held_take (i := 49) (v := ?z42v) rfl (by as_aux_lemma => kernel_rfl) (by as_aux_lemma => kernel_rfl) (by as_aux_lemma => kernel_rfl) (fun _ _ _ h => h) (by rfl) ?z42y hHeld ?_
        case z42y => ((intro w _hSw; (try dsimp only at _hSw); go_simp); try (with_reducible rfl))
        try simp only [Act.put, List.setIfInBounds_toArray, List.set_cons_zero, List.set_cons_succ]
        refine held_take (i := 50) (v := ?z43v) rfl (by as_aux_lemma => kernel_rfl) (by as_aux_lemma => kernel_rfl) (by as_aux_lemma => kernel_rfl) (fun _ _ _ h => h) (by rfl) ?z43y hHeld ?_
        case z43y => ((intro w _hSw; (try dsimp only at _hSw); go_simp); try (with_reducible rfl))
        try simp only [Act.put, List.setIfInBounds_toArray, List.set_cons_zero, List.set_cons_succ]
        refine held_take (i := 51) (v := ?z44v) rfl (by as_aux_lemma => kernel_rfl) (by as_aux_lemma => kernel_rfl) (by as_aux_lemma => kernel_rfl) (fun _ _ _ h => h) (by rfl) ?z44y hHeld ?_
        case z44y => ((intro w _hSw; (try dsimp only at _hSw); go_simp); try (with_reducible rfl))
        try simp only [Act.put, List.setIfInBounds_toArray, List.set_cons_zero, List.set_cons_succ]
        refine held_step (i := 46) rfl (by as_aux_lemma => kernel_rfl) (by rfl) (fun K hK => ?_)
        go_simp
        refine (range_rd t v ak aw _ (HTR.out.1.below HB.out) HGT.out.1 HGT.out.2.1).mono ?_
        rintro e wc ⟨Ar, cr, rfl, hr, hb⟩
        have HB := Lib.hid (below_then HB.out HB.out.size hb)
        clear hb
        have HR1 := Lib.hid hr
        clear hr
        go_wp2_with fail
        have hHeld := HTS.out _ HB.out
        refine hK.out _ _ (HTS.out _ HB.out) ?_
        clear hK K
        try simp only [Act.put, List.setIfInBounds_toArray, List.set_cons_zero, List.set_cons_succ]
        refine held_step (i := 52) rfl (by as_aux_lemma => kernel_rfl) (by rfl) (fun K hK => ?_)
        go_simp
        refine (rrange_any t ak aw cs _ (HTR.out.2.below HB.out) HGT.out.2.1).mono ?_
        rintro e wc ⟨As, cs', rfl, hr, hb'⟩
        have HR1 := Lib.hid (And.intro (HR1.out.below hb') hr)
        have HB := Lib.hid (below_then HB.out HB.out.size hb')
        clear hr hb'
        go_wp2_with fail
        have hHeld := HTS.out _ HB.out
        refine hK.out _ _ (HTS.out _ HB.out) ?_
        clear hK K
        try simp only [Act.put, List.setIfInBounds_toArray, List.set_cons_zero, List.set_cons_succ]
        refine held_step (i := 53) rfl (by as_aux_lemma => kernel_rfl) (by rfl) (fun K hK => ?_)
        go_simp
        refine (pairs_same _ _ _ _ _ (rangeO ak aw t) _ rfl (Nat.le_trans (rangeO_le ak aw t) HGT.out.2.1) HR1.out.1 HR1.out.2).mono ?_
        rintro e wc ⟨rfl, hb⟩
        have HB := Lib.hid (below_then HB.out HB.out.size hb)
        clear hb
        go_wp2_with fail
        have hHeld := HTS.out _ HB.out
        refine hK.out _ _ (HTS.out _ HB.out) ?_
        clear hK K
        try simp only [Act.put, List.setIfInBounds_toArray, List.set_cons_zero, List.set_cons_succ]
        refine held_take (i := 54) (v := ?z45v) rfl (by as_aux_lemma => kernel_rfl) (by as_aux_lemma => kernel_rfl) (by as_aux_lemma => kernel_rfl) (fun _ _ _ h => h) (by rfl) ?z45y hHeld ?_
        case z45y => ((intro w _hSw; (try dsimp only at _hSw); go_simp); try (with_reducible rfl))
        try simp only [Act.put, List.setIfInBounds_toArray, List.set_cons_zero, List.set_cons_succ]
        refine held_take (i := 55) (v := ?z46v) rfl (by as_aux_lemma => kernel_rfl) (by as_aux_lemma => kernel_rfl) (by as_aux_lemma => kernel_rfl) (fun _ _ _ h => h) (by rfl) ?z46y hHeld ?_
        case z46y => ((intro w _hSw; (try dsimp only at _hSw); go_simp); try (with_reducible rfl))
        try simp only [Act.put, List.setIfInBounds_toArray, List.set_cons_zero, List.set_cons_succ]
        refine held_take (i := 56) (v := ?z47v) rfl (by as_aux_lemma => kernel_rfl) (by as_aux_lemma => kernel_rfl) (by as_aux_lemma => kernel_rfl) (fun _ _ _ h => h) (by rfl) ?z47y hHeld ?_
        case z47y => ((intro w _hSw; (try dsimp only at _hSw); go_simp); try (with_reducible rfl))
        try simp only [Act.put, List.setIfInBounds_toArray, List.set_cons_zero, List.set_cons_succ]
        refine held_take (i := 58) (v := ?z48v) rfl (by as_aux_lemma => kernel_rfl) (by as_aux_lemma => kernel_rfl) (by as_aux_lemma => kernel_rfl) (fun _ _ _ h => h) (by rfl) ?z48y hHeld ?_
        case z48y => ((intro w _hSw; (try dsimp only at _hSw); go_simp); try (with_reducible rfl))
        try simp only [Act.put, List.setIfInBounds_toArray, List.set_cons_zero, List.set_cons_succ]
        refine held_step (i := 57) rfl (by as_aux_lemma => kernel_rfl) (by rfl) (fun K hK => ?_)
        go_simp
        refine (range_rd t v [] [] _ (HTR.out.1.below HB.out) HGT.out.1 HGT.out.2.1).mono ?_
        rintro e wc ⟨At, ct, rfl, hr, hb⟩
        have HB := Lib.hid (below_then HB.out HB.out.size hb)
        clear hb
        rw [show rangeO [] [] t = pairsO t from between_all _] at hr ⊢
        have HR2 := Lib.hid hr
        clear hr
        rw [HN4.out]
        go_wp2_with fail
        have hHeld := HTS.out _ HB.out
        refine hK.out _ _ (HTS.out _ HB.out) ?_
        clear hK K
        try simp only [Act.put, List.setIfInBounds_toArray, List.set_cons_zero, List.set_cons_succ]
        refine held_step (i := 59) rfl (by as_aux_lemma => kernel_rfl) (by rfl) (fun K hK => ?_)
        go_simp
        refine (pairs_same _ _ _ _ _ (pairsO t) _ HN4.out.symm (by rw [← HN5.out]; exact HGT.out.2.1) HR2.out (HRD.out.below HB.out)).mono ?_
        rintro e wc ⟨rfl, hb⟩
        have HB := Lib.hid (below_then HB.out HB.out.size hb)
        clear hb
        go_wp2_with fail
        have hHeld := HTS.out _ HB.out
        refine hK.out _ _ (HTS.out _ HB.out) ?_
        clear hK K
        try simp only [Act.put, List.setIfInBounds_toArray, List.set_cons_zero, List.set_cons_succ]
        refine held_take (i := 60) (v := ?z49v) rfl (by as_aux_lemma => kernel_rfl) (by as_aux_lemma => kernel_rfl) (by as_aux_lemma => kernel_rfl) (fun _ _ _ h => h) (by rfl) ?z49y hHeld ?_
        case z49y => ((intro w _hSw; (try dsimp only at _hSw); go_simp); try (with_reducible rfl))
        try simp only [Act.put, List.setIfInBounds_toArray, List.set_cons_zero, List.set_cons_succ]
        refine held_take (i := 61) (v := ?z50v) rfl (by as_aux_lemma => kernel_rfl) (by as_aux_lemma => kernel_rfl) (by as_aux_lemma => kernel_rfl) (fun _ _ _ h => h) (by rfl) ?z50y hHeld ?_
        case z50y => ((intro w _hSw; (try dsimp only at _hSw); go_simp); try (with_reducible rfl))
        try simp only [Act.put, List.setIfInBounds_toArray, List.set_cons_zero, List.set_cons_succ]
        refine held_take (i := 62) (v := ?z51v) rfl (by as_aux_lemma => kernel_rfl) (by as_aux_lemma => kernel_rfl) (by as_aux_lemma => kernel_rfl) (fun _ _ _ h => h) (by rfl) ?z51y hHeld ?_
        case z51y => ((intro w _hSw; (try dsimp only at _hSw); go_simp); try (with_reducible rfl))
        try simp only [Act.put, List.setIfInBounds_toArray, List.set_cons_zero, List.set_cons_succ]
        refine held_take (i := 63) (v := ?z52v) rfl (by as_aux_lemma => kernel_rfl) (by as_aux_lemma => kernel_rfl) (by as_aux_lemma => kernel_rfl) (fun _ _ _ h => h) (by rfl) ?z52y hHeld ?_
        case z52y => ((intro w _hSw; (try dsimp only at _hSw); go_simp); try (with_reducible rfl))
        try simp only [Act.put, List.setIfInBounds_toArray, List.set_cons_zero, List.set_cons_succ]
        refine held_take (i := 64) (v := ?z53v) rfl (by as_aux_lemma => kernel_rfl) (by as_aux_lemma => kernel_rfl) (by as_aux_lemma => kernel_rfl) (fun _ _ _ h => h) (by rfl) ?z53y hHeld ?_
        case z53y => ((intro w _hSw; (try dsimp only at _hSw); go_simp); try (with_reducible rfl))
        try simp only [Act.put, List.setIfInBounds_toArray, List.set_cons_zero, List.set_cons_succ]
        refine held_take (i := 65) (v := ?z54v) rfl (by as_aux_lemma => kernel_rfl) (by as_aux_lemma => kernel_rfl) (by as_aux_lemma => kernel_rfl) (fun _ _ _ h => h) (by rfl) ?z54y hHeld ?_
        case z54y => ((intro w _hSw; (try dsimp only at _hSw); go_simp); try (with_reducible rfl))
        try simp only [Act.put, List.setIfInBounds_toArray, List.set_cons_zero, List.set_cons_succ]
        refine held_take (i := 67) (v := ?z55v) rfl (by as_aux_lemma => kernel_rfl) (by as_aux_lemma => kernel_rfl) (by as_aux_lemma => kernel_rfl) (fun _ _ _ h => h) (by rfl) ?z55y hHeld ?_
        case z55y => ((intro w _hSw; (try dsimp only at _hSw); go_simp); try (with_reducible rfl))
        try simp only [Act.put, List.setIfInBounds_toArray, List.set_cons_zero, List.set_cons_succ]
        refine held_take (i := 68) (v := ?z56v) rfl (by as_aux_lemma => kernel_rfl) (by as_aux_lemma => kernel_rfl) (by as_aux_lemma => kernel_rfl) (fun _ _ _ h => h) (by rfl) ?z56y hHeld ?_
        case z56y => ((intro w _hSw; (try dsimp only at _hSw); go_simp); try (with_reducible rfl))
        try simp only [Act.put, List.setIfInBounds_toArray, List.set_cons_zero, List.set_cons_succ]
        refine held_take (i := 69) (v := ?z57v) rfl (by as_aux_lemma => kernel_rfl) (by as_aux_lemma => kernel_rfl) (by as_aux_lemma => kernel_rfl) (fun _ _ _ h => h) (by rfl) ?z57y hHeld ?_
        case z57y => ((intro w _hSw; (try dsimp only at _hSw); go_simp); try (with_reducible rfl))
        try simp only [Act.put, List.setIfInBounds_toArray, List.set_cons_zero, List.set_cons_succ]
        refine held_take (i := 70) (v := ?z58v) rfl (by as_aux_lemma => kernel_rfl) (by as_aux_lemma => kernel_rfl) (by as_aux_lemma => kernel_rfl) (fun _ _ _ h => h) (by rfl) ?z58y hHeld ?_
        case z58y => ((intro w _hSw; (try dsimp only at _hSw); go_simp); try (with_reducible rfl))
        try simp only [Act.put, List.setIfInBounds_toArray, List.set_cons_zero, List.set_cons_succ]
        refine held_step (i := 66) rfl (by as_aux_lemma => kernel_rfl) (by rfl) (fun K hK => ?_)
        go_simp
        refine (avleaf_any ak aw _ _ rl _ rfl rfl HRT.out.2.1 HA.out.2.2.2.1 HA.out.2.2.2.2 (HTT.out.1.below HB.out HTT.out.1.lt)).mono ?_
        rintro e wc ⟨rfl, hb⟩
        have HB := Lib.hid (below_then HB.out HB.out.size hb)
        clear hb
        go_wp2_with fail
        have hHeld := HTS.out _ HB.out
        refine hK.out _ _ (HTS.out _ HB.out) ?_
        clear hK K
        try simp only [Act.put, List.setIfInBounds_toArray, List.set_cons_zero, List.set_cons_succ]
        refine held_step (i := 71) rfl (by as_aux_lemma => kernel_rfl) (by rfl) (fun K hK => ?_)
        go_simp
        refine (rleaf7_any ak aw _ HA.out.2.2.2.1 HA.out.2.2.2.2).mono ?_
        rintro e wc ⟨cv, rfl, hcv, -, hb⟩
        have HB := Lib.hid (below_then HB.out HB.out.size hb)
        clear hb
        obtain rfl : rl = cv := HRT.out.2.1.trans hcv.symm
        clear hcv
        go_wp2_with fail
        have hHeld := HTS.out _ HB.out
        refine hK.out _ _ (HTS.out _ HB.out) ?_
        clear hK K
        try simp only [Act.put, List.setIfInBounds_toArray, List.set_cons_zero, List.set_cons_succ]
        refine held_take (i := 72) (v := ?z59v) rfl (by as_aux_lemma => kernel_rfl) (by as_aux_lemma => kernel_rfl) (by as_aux_lemma => kernel_rfl) (fun _ _ _ h => h) (by rfl) ?z59y hHeld ?_
        case z59y => ((intro w _hSw; (try dsimp only at _hSw); go_simp); try (with_reducible rfl))
        try simp only [Act.put, List.setIfInBounds_toArray, List.set_cons_zero, List.set_cons_succ]
        refine held_take (i := 73) (v := ?z60v) rfl (by as_aux_lemma => kernel_rfl) (by as_aux_lemma => kernel_rfl) (by as_aux_lemma => kernel_rfl) (fun _ _ _ h => h) (by rfl) ?z60y hHeld ?_
        case z60y => ((intro w _hSw; (try dsimp only at _hSw); go_simp); try (with_reducible rfl))
        try simp only [Act.put, List.setIfInBounds_toArray, List.set_cons_zero, List.set_cons_succ]
        refine held_take (i := 74) (v := ?z61v) rfl (by as_aux_lemma => kernel_rfl) (by as_aux_lemma => kernel_rfl) (by as_aux_lemma => kernel_rfl) (fun _ _ _ h => h) (by rfl) ?z61y hHeld ?_
        case z61y => ((intro w _hSw; (try dsimp only at _hSw); go_simp); try (with_reducible rfl))
        try simp only [Act.put, List.setIfInBounds_toArray, List.set_cons_zero, List.set_cons_succ]
        refine held_take (i := 75) (v := ?z62v) rfl (by as_aux_lemma => kernel_rfl) (by as_aux_lemma => kernel_rfl) (by as_aux_lemma => kernel_rfl) (fun _ _ _ h => h) (by rfl) ?z62y hHeld ?_
        case z62y => ((intro w _hSw; (try dsimp only at _hSw); go_simp); try (with_reducible rfl))
        try simp only [Act.put, List.setIfInBounds_toArray, List.set_cons_zero, List.set_cons_succ]
        refine held_take (i := 77) (v := ?z63v) rfl (by as_aux_lemma => kernel_rfl) (by as_aux_lemma => kernel_rfl) (by as_aux_lemma => kernel_rfl) (fun _ _ _ h => h) (by rfl) ?z63y hHeld ?_
        case z63y => ((intro w _hSw; (try dsimp only at _hSw); go_simp); try (with_reducible rfl))
        try simp only [Act.put, List.setIfInBounds_toArray, List.set_cons_zero, List.set_cons_succ]
        refine held_take (i := 79) (v := ?z64v) rfl (by as_aux_lemma => kernel_rfl) (by as_aux_lemma => kernel_rfl) (by as_aux_lemma => kernel_rfl) (fun _ _ _ h => h) (by rfl) ?z64y hHeld ?_
        case z64y => ((intro w _hSw; (try dsimp only at _hSw); go_simp); try (with_reducible rfl))
        try simp only [Act.put, List.setIfInBounds_toArray, List.set_cons_zero, List.set_cons_succ]
        refine held_take (i := 81) (v := ?z65v) rfl (by as_aux_lemma => kernel_rfl) (by as_aux_lemma => kernel_rfl) (by as_aux_lemma => kernel_rfl) (fun _ _ _ h => h) (by rfl) ?z65y hHeld ?_
        case z65y => ((intro w _hSw; (try dsimp only at _hSw); go_simp); try (with_reducible rfl))
        try simp only [Act.put, List.setIfInBounds_toArray, List.set_cons_zero, List.set_cons_succ]
        refine held_step (i := 76) rfl (by as_aux_lemma => kernel_rfl) (by rfl) (fun K hK => ?_)
        go_simp
        refine (root_any t v rt _ (HTR.out.1.below HB.out) HRT.out.1 (HTT.out.1.below HB.out HTT.out.1.lt)).mono ?_
        rintro e wc ⟨rfl, hb⟩
        have HB := Lib.hid (below_then HB.out HB.out.size hb)
        clear hb
        go_wp2_with fail
        have hHeld := HTS.out _ HB.out
        refine hK.out _ _ (HTS.out _ HB.out) ?_
        clear hK K
        try simp only [Act.put, List.setIfInBounds_toArray, List.set_cons_zero, List.set_cons_succ]
        refine held_step (i := 78) rfl (by as_aux_lemma => kernel_rfl) (by rfl) (fun K hK => ?_)
        go_simp
        refine (avnode_any 1 2 (rootO t) (List.replicate 32 0) rt ((List.replicate 32 0).map B) rn _ (rootO_length t) rfl HRT.out.1 rfl HRT.out.2.2 (by decide) (by decide) (HTT.out.1.below HB.out HTT.out.1.lt)).mono ?_
        rintro e wc ⟨rfl, hb⟩
        have HB := Lib.hid (below_then HB.out HB.out.size hb)
        clear hb
        go_wp2_with fail
        have hHeld := HTS.out _ HB.out
        refine hK.out _ _ (HTS.out _ HB.out) ?_
        clear hK K
        try simp only [Act.put, List.setIfInBounds_toArray, List.set_cons_zero, List.set_cons_succ]
        refine held_step (i := 80) rfl (by as_aux_lemma => kernel_rfl) (by rfl) (fun K hK => ?_)
        go_simp
        refine (root_any t v rt _ (HTR.out.1.below HB.out) HRT.out.1 (HTT.out.1.below HB.out HTT.out.1.lt)).mono ?_
        rintro e wc ⟨rfl, hb⟩
        have HB := Lib.hid (below_then HB.out HB.out.size hb)
        clear hb
        go_wp2_with fail
        have hHeld := HTS.out _ HB.out
        refine hK.out _ _ (HTS.out _ HB.out) ?_
        clear hK K
        try simp only [Act.put, List.setIfInBounds_toArray, List.set_cons_zero, List.set_cons_succ]
        refine held_step (i := 82) rfl (by as_aux_lemma => kernel_rfl) (by rfl) (fun K hK => ?_)
        go_simp
        refine (rnode7_any 1 2 (rootO t) (List.replicate 32 0) rt ((List.replicate 32 0).map B) _ (by decide) (by decide) (rootO_length t) rfl HRT.out.1 rfl).mono ?_
        rintro e wc ⟨cv, rfl, hcv, -, hb⟩
        have HB := Lib.hid (below_then HB.out HB.out.size hb)
        clear hb
        obtain rfl : rn = cv := HRT.out.2.2.trans hcv.symm
        clear hcv
        go_wp2_with fail
        have hHeld := HTS.out _ HB.out
        refine hK.out _ _ (HTS.out _ HB.out) ?_
        clear hK K
        try simp only [Act.put, List.setIfInBounds_toArray, List.set_cons_zero, List.set_cons_succ]
        refine held_take (i := 83) (v := ?z66v) rfl (by as_aux_lemma => kernel_rfl) (by as_aux_lemma => kernel_rfl) (by as_aux_lemma => kernel_rfl) (fun _ _ _ h => h) (by rfl) ?z66y hHeld ?_
        case z66y => ((intro w _hSw; (try dsimp only at _hSw); go_simp); try (with_reducible rfl))
        try simp only [Act.put, List.setIfInBounds_toArray, List.set_cons_zero, List.set_cons_succ]
        refine held_take (i := 84) (v := ?z67v) rfl (by as_aux_lemma => kernel_rfl) (by as_aux_lemma => kernel_rfl) (by as_aux_lemma => kernel_rfl) (fun _ _ _ h => h) (by rfl) ?z67y hHeld ?_
        case z67y => ((intro w _hSw; (try dsimp only at _hSw); go_simp); try (with_reducible rfl))
        try simp only [Act.put, List.setIfInBounds_toArray, List.set_cons_zero, List.set_cons_succ]
        refine held_take (i := 85) (v := ?z68v) rfl (by as_aux_lemma => kernel_rfl) (by as_aux_lemma => kernel_rfl) (by as_aux_lemma => kernel_rfl) (fun _ _ _ h => h) (by rfl) ?z68y hHeld ?_
        case z68y => ((intro w _hSw; (try dsimp only at _hSw); go_simp); try (with_reducible rfl))
        try simp only [Act.put, List.setIfInBounds_toArray, List.set_cons_zero, List.set_cons_succ]
        refine held_step (i := 86) rfl (by as_aux_lemma => kernel_rfl) (by rfl) (fun K hK => ?_)
        go_simp
        refine (sure07_any _ (HTT.out.1.below HB.out HTT.out.1.lt)).mono ?_
        rintro e wc ⟨rfl, hb⟩
        have HB := Lib.hid (below_then HB.out HB.out.size hb)
        clear hb
        go_wp2_with fail
        have hHeld := HTS.out _ HB.out
        refine hK.out _ _ (HTS.out _ HB.out) ?_
        clear hK K
        try simp only [Act.put, List.setIfInBounds_toArray, List.set_cons_zero, List.set_cons_succ]
        refine held_take (i := 87) (v := ?z69v) rfl (by as_aux_lemma => kernel_rfl) (by as_aux_lemma => kernel_rfl) (by as_aux_lemma => kernel_rfl) (fun _ _ _ h => h) (by rfl) ?z69y hHeld ?_
        case z69y => ((intro w _hSw; (try dsimp only at _hSw); go_simp); try (with_reducible rfl))
        try simp only [Act.put, List.setIfInBounds_toArray, List.set_cons_zero, List.set_cons_succ]
        refine held_take (i := 88) (v := ?z70v) rfl (by as_aux_lemma => kernel_rfl) (by as_aux_lemma => kernel_rfl) (by as_aux_lemma => kernel_rfl) (fun _ _ _ h => h) (by rfl) ?z70y hHeld ?_
        case z70y => ((intro w _hSw; (try dsimp only at _hSw); go_simp); try (with_reducible rfl))
        try simp only [Act.put, List.setIfInBounds_toArray, List.set_cons_zero, List.set_cons_succ]
        refine wpAnyH_done (by as_aux_lemma => kernel_rfl) ?_ _
        go_wp2
        go_ret
        exact ⟨rfl, below_then HW.out HW.out.size HB.out⟩
end Go.Proofs.YtdekealpachhmaaDoor
