/- FrameRecords: the walk. -/
import Derived.Test.YtdmopnmifdjcnaaDoorFr3E
import Derived.Test.YtdmopnmifdjcnaaDoorBlk
namespace Go.Proofs.YtdmopnmifdjcnaaDoor
open Go Go.RowKit Go.Isth

def UInv (w8 : World) (base M : Nat) (A10 : Option Addr) (c10 : Nat) (v23 : Value) (wr : World) : Prop :=
  ∃ (k : Nat) (ys : List UInt8), v23 = .int .i64 (k : Nat) ∧ k ≤ M ∧ ys.length = M ∧ wr.ownsRow base 5 1 (.slice A10 M c10) M (ys.map B) ∧ w8.grownBy wr ((Value.slice A10 M c10).ownBlock)
set_option maxRecDepth 100000 in
set_option maxHeartbeats 4000000 in
theorem records_any (Ap Ab : Option Addr) (np cp nb cb : Nat) (p b : List UInt8) (w : World) (hp : p.length = np) (hpm : np ≤ 1048576) (hb : b.length = nb) (hbm : nb ≤ 1048576) (hbc : nb ≤ cb) (hrp : Rd w Ap (p.map B)) (hrb : Rd w Ab (b.map B)) (hg : TypeLaid w) :
    Calls Tryd.prog 3 #[.slice Ap np cp, .slice Ab nb cb] w fun e w' => e = .returned (.bool true) ∧ Below w.heap.size w w' := by
  have HT := Lib.hid (And.intro hp (And.intro hpm (And.intro hb (And.intro hbm (And.intro hbc (And.intro hrp (And.intro hrb hg)))))))
  have hbI : (nb : Int) ≤ 1048576 := by omega
  clear hp hpm hb hbm hbc hrp hrb hg
  obtain ⟨o, kf, hF⟩ := FrIs.any p
  obtain ⟨q, n1, k1, hO⟩ := OneIs.any b
  obtain ⟨L, hL⟩ : ∃ L, o.length = L := ⟨_, rfl⟩
  obtain ⟨M, hM⟩ : ∃ M, q.length = M := ⟨_, rfl⟩
  obtain ⟨so, hso⟩ : ∃ s : ByteArray, s = ⟨o.toArray⟩ := ⟨_, rfl⟩
  obtain ⟨sq, hsq⟩ : ∃ s : ByteArray, s = ⟨q.toArray⟩ := ⟨_, rfl⟩
  obtain ⟨sb, hsb⟩ : ∃ s : ByteArray, s = ⟨b.toArray⟩ := ⟨_, rfl⟩
  have hMI : (M : Int) ≤ 1048576 := by have := hO.le; omega
  have HF := Lib.hid (And.intro hF (And.intro hL hso))
  have HO := Lib.hid (And.intro hO (And.intro hM (And.intro hsq hsb)))
  clear hF hO hL hM hso hsq hsb
  go_enter Tryd.func3, Tryd.ntmps3
  go_wp2_with fail
  refine (twin_any Ab nb cb b w HT.out.2.2.1.symm (by have := HT.out.2.2.2.1; have := HT.out.2.2.1; omega) HT.out.2.2.2.2.2.2.1).mono ?_
  rintro e w1 ⟨v1, rfl, ho1, hb1⟩
  rw [HT.out.2.2.1] at ho1
  obtain ⟨A5, c5, rfl, hc5, hr5, _⟩ := own_slice ho1
  have H1 := Lib.hid (And.intro hb1 (And.intro hr5 hc5))
  clear ho1 hb1 hr5 hc5
  go_wp2_with fail
  refine (twin_any Ap np cp p w1 HT.out.1.symm (by have := HT.out.2.1; have := HT.out.1; omega) (HT.out.2.2.2.2.2.1.below H1.out.1)).mono ?_
  rintro e w2 ⟨v2, rfl, ho2, hb2⟩
  rw [HT.out.1] at ho2
  obtain ⟨A2, c2, rfl, _, hr2, _⟩ := own_slice ho2
  have H2 := Lib.hid (And.intro (below_then H1.out.1 H1.out.1.size hb2) (And.intro (H1.out.2.1.below hb2) hr2))
  clear ho2 hb2 hr2
  go_wp2_with fail
  refine (wframe_all A2 np c2 kf L p o w2 HF.out.1 HF.out.2.1 HT.out.1 HT.out.2.1 H2.out.2.2).mono ?_
  rintro e w3 ⟨A6, c6, v7, rfl, hr6, hn7, hb3⟩
  have H3 := Lib.hid (And.intro (below_then H2.out.1 H2.out.1.size hb3) (And.intro (H2.out.2.1.below hb3) (And.intro hr6 hn7)))
  clear hr6 hn7 hb3
  go_wp2_with fail
  refine (rframe_all Ap np cp kf L p o w3 HF.out.1 HF.out.2.1 HT.out.1 HT.out.2.1 (HT.out.2.2.2.2.2.1.below H3.out.1)).mono ?_
  rintro e w4 ⟨A8, c8, rfl, hr8, hb4⟩
  have H4 := Lib.hid (And.intro (below_then H3.out.1 H3.out.1.size hb4) (And.intro (H3.out.2.1.below hb4) (And.intro (H3.out.2.2.1.below hb4) (And.intro (H3.out.2.2.2.below hb4) hr8))))
  clear hr8 hb4
  go_wp2_with fail
  refine (wone_all A5 nb c5 n1 M k1 b q w4 HO.out.1 HO.out.2.1 HT.out.2.2.1 H1.out.2.2 HT.out.2.2.2.1 H4.out.2.1).mono ?_
  rintro e w5 ⟨A10, c10, v12, rfl, ho5, hn12, hb5⟩
  have H5 := Lib.hid (And.intro hb5 (And.intro ho5 hn12))
  clear hb5 ho5 hn12
  go_wp2_with fail
  refine (rone_all Ab nb cb n1 M k1 b q w5 HO.out.1 HO.out.2.1 HT.out.2.2.1 HT.out.2.2.2.2.1 HT.out.2.2.2.1 (HT.out.2.2.2.2.2.2.1.below (below_then H4.out.1 H4.out.1.size H5.out.1))).mono ?_
  rintro e w6 ⟨A13, c13, rfl, hr13, hb6⟩
  have H6 := Lib.hid (And.intro (below_then H5.out.1 H5.out.1.size hb6) (And.intro (own_below H5.out.2.1 hb6) (And.intro (H5.out.2.2.below hb6) (And.intro hr13 hb6))))
  clear hr13 hb6
  go_wp2_with fail
  refine (scan_any A5 nb c5 b w6 HT.out.2.2.1.symm H1.out.2.2 (by have := HT.out.2.2.2.1; have := HT.out.2.2.1; omega) (H4.out.2.1.below H6.out.1)).mono ?_
  rintro e w7 ⟨ps, a, code, vl, vs, ev, hsc, rfl, _, hol, hrows, hcode, hb7⟩
  obtain ⟨A16, c16, rfl, _, hr16, _, hl16⟩ := own_slice hol
  have H7 := Lib.hid (And.intro (below_then H6.out.1 H6.out.1.size hb7) (And.intro (own_below H6.out.2.1 hb7) (And.intro (H6.out.2.2.1.below hb7) (And.intro hsc (And.intro hr16 (And.intro (show ∀ ad, A16 = some ad → w6.heap.size ≤ ad.block from fun ad e => (hl16 ad e).1) (And.intro hrows hcode)))))))
  have HSZ7 := Lib.hid hb7.size
  clear hsc hol hrows hcode hb7 hr16 hl16
  go_wp2_with fail
  refine (rscan_any Ab nb cb b w7 HT.out.2.2.1 HT.out.2.2.2.2.1 (by have := HT.out.2.2.2.1; omega) (HT.out.2.2.2.2.2.2.1.below (below_then H4.out.1 H4.out.1.size H7.out.1))).mono ?_
  rintro e w8 ⟨ps', a', code', A19, c19, vs', hsc', rfl, hvl', hpl', hr19, hl19, hrd19, hb8⟩
  obtain ⟨e1, e2, e3⟩ := hsc'.det H7.out.2.2.2.1
  subst e1
  subst e2
  subst e3
  have hvl : vs.length = ps'.length := H7.out.2.2.2.2.2.2.1.1
  have H8 := Lib.hid (show Below w4.heap.size w4 w8 ∧ w8.ownsRow w4.heap.size 5 1 (.slice A10 M c10) M (q.map B) ∧ CodeIs w8 v12 k1 ∧ Rd w8 A16 vs ∧ Rows1 w8 w6.heap.size 5 vs ps' ∧ CodeIs w8 ev code' ∧ Rd w8 A19 vs' ∧ (∀ ad, A19 = some ad → w7.heap.size ≤ ad.block) ∧ (∀ wx, Rd wx Ab (b.map B) → RdRows wx vs' ps') ∧ Scans b ps' a' code' ∧ vs.length = ps'.length ∧ vs'.length = ps'.length ∧ ps'.length ≤ b.length from
    ⟨below_then H7.out.1 H7.out.1.size hb8, own_below H7.out.2.1 hb8, H7.out.2.2.1.below hb8, H7.out.2.2.2.2.1.below hb8, H7.out.2.2.2.2.2.2.1.below hb8, H7.out.2.2.2.2.2.2.2.below hb8, hr19, hl19, hrd19, hsc', hvl, hvl', hpl'⟩)
  have H67 := Lib.hid (show w5.heap.size ≤ w6.heap.size ∧ w6.heap.size ≤ w7.heap.size from ⟨H6.out.2.2.2.2.size, HSZ7.out⟩)
  obtain ⟨_, _, e10, _, hr10, _⟩ := own_slice H8.out.2.1
  injection e10 with e101 _ e102
  subst e101
  subst e102
  have hcu : (convert 22 9 (.slice A10 M c10)).run Tryd.prog w8 = .ok (.string sq) w8 := by
    rw [HO.out.2.2.1]; exact run_str Tryd.underlying22 Tryd.underlying5 Tryd.underlying9 A10 M c10 q w8 HO.out.2.1.symm hr10
  have hcv : (convert 22 9 (.slice A13 M c13)).run Tryd.prog w8 = .ok (.string sq) w8 := by
    rw [HO.out.2.2.1]; exact run_str Tryd.underlying22 Tryd.underlying5 Tryd.underlying9 A13 M c13 q w8 HO.out.2.1.symm (H6.out.2.2.2.1 w8 (HT.out.2.2.2.2.2.2.1.below (below_then H4.out.1 H4.out.1.size H8.out.1)))
  clear hvl hvl' hpl' hr19 hl19 hrd19 hb8 hsc' hr10
  go_wp2_with fail
  clear hcu hcv
  go_loopw [23] (fun v23 wr => UInv w8 w4.heap.size M A10 c10 v23 wr) (fun v23 _ => M - (intOf v23).toNat)
  case atStart => exact ⟨0, q, rfl, Nat.zero_le _, HO.out.2.1, H8.out.2.1, World.grownBy.refl _ _⟩
  case round =>
    obtain ⟨k, ys, rfl, hk, hyl, ho, hg⟩ := hrel
    by_cases hlt : k < M
    · obtain ⟨g, rfl⟩ : ∃ g, A10 = some ⟨g, 0, none⟩ := by
        rcases ho.2 with ⟨_, h0⟩ | ⟨g, cap, cur, e, _⟩
        · exfalso; omega
        · injection e with e _ _; exact ⟨g, e⟩
      have hcell := ho.cellAt k (by omega)
      rw [List.getElem?_eq_getElem (by rw [List.length_map]; omega)] at hcell
      simp only [List.getElem_map] at hcell
      have hfr := ho.frozenAt k
      have hst := ho.stored k (B (ys[k] ^^^ 255))
      rw [← List.map_set] at hst
      have hxor : bits .xor .u8 ((ys[k]).toNat : Int) 255 = ((ys[k] ^^^ 255).toNat : Int) := xor8 ys[k] 255
      have hgs := grown_setC wr g k (B (ys[k] ^^^ 255))
      have HS := Lib.hid (And.intro hst (And.intro hg (And.intro hgs (And.intro hyl hlt))))
      generalize ys[k] ^^^ 255 = y at *
      generalize ys[k] = x0 at *
      have hkI : (k : Int) < (M : Int) := by omega
      clear hst hg hgs ho hyl hlt hk
      go_wp2_with fail
      go_roundw
      case rel => exact ⟨k + 1, ys.set k y, by go_num, HS.out.2.2.2.2, by rw [List.length_set]; exact HS.out.2.2.2.1, HS.out.1.1, grown_trans HS.out.2.1 HS.out.2.2.1 (.inl rfl)⟩
      case measure => have := HS.out.2.2.2.2; simp [intOf]; omega
    · have hB4 : Below w4.heap.size w4 wr := H8.out.1.grown hg H8.out.1.size (fun g e => (H8.out.2.1.lt g e).1)
      have hBw : Below w.heap.size w wr := below_then H4.out.1 H4.out.1.size hB4
      have hlt6 : ∀ g, (Value.slice A10 M c10).ownBlock = some g → g < w6.heap.size := fun g e => by have := (H5.out.2.1.lt g e).2; have := H67.out.1; omega
      have hr16 : Rd wr A16 vs := H8.out.2.2.2.1.grown hg (fun ad e e2 => by have := hlt6 _ e2; have := H7.out.2.2.2.2.2.1 ad e; omega)
      have hr19 : Rd wr A19 vs' := H8.out.2.2.2.2.2.2.1.grown hg (fun ad e e2 => by have := hlt6 _ e2; have := H8.out.2.2.2.2.2.2.2.1 ad e; have := H67.out.2; omega)
      have hrows : RdRows wr vs ps' := (rows1_grown H8.out.2.2.2.2.1 hg hlt6).rd (scans_len H8.out.2.2.2.2.2.2.2.2.2.1)
      have hrows' : RdRows wr vs' ps' := H8.out.2.2.2.2.2.2.2.2.1 wr (HT.out.2.2.2.2.2.2.1.below hBw)
      have HN := Lib.hid (show Below w.heap.size w wr ∧ Below w4.heap.size w4 wr ∧ CodeIs wr v7 kf ∧ CodeIs wr v12 k1 ∧ CodeIs wr ev code' ∧ Rd wr A16 vs ∧ Rd wr A19 vs' ∧ RdRows wr vs ps' ∧ RdRows wr vs' ps' from
        ⟨hBw, hB4, H4.out.2.2.2.1.below hB4, code_grown H8.out.2.2.1 H8.out.2.1 hg rfl, code_grown H8.out.2.2.2.2.2.1 H8.out.2.1 hg rfl, hr16, hr19, hrows, hrows'⟩)
      have hcx : (convert 22 9 (.slice A6 L c6)).run Tryd.prog wr = .ok (.string so) wr := by
        rw [HF.out.2.2]; exact run_str Tryd.underlying22 Tryd.underlying5 Tryd.underlying9 A6 L c6 o wr HF.out.2.1.symm (H4.out.2.2.1.below hB4)
      have hcy : (convert 22 9 (.slice A8 L c8)).run Tryd.prog wr = .ok (.string so) wr := by
        rw [HF.out.2.2]; exact run_str Tryd.underlying22 Tryd.underlying5 Tryd.underlying9 A8 L c8 o wr HF.out.2.1.symm (H4.out.2.2.2.2.below hB4)
      obtain ⟨P, hP⟩ : ∃ P, ps'.length = P := ⟨_, rfl⟩
      have HP := Lib.hid (show ps'.length = P ∧ vs.length = P ∧ vs'.length = P ∧ P ≤ 1048576 by have := H8.out.2.2.2.2.2.2.2.2.2.2; have := HT.out.2.2.1; have := HT.out.2.2.2.1; omega)
      have hvP : vs.length = P := HP.out.2.1
      rw [hP, hvP]
      have hltI : ¬ (k : Int) < (M : Int) := by omega
      clear hB4 hBw hlt6 hr16 hr19 hrows hrows' hg ho hyl hk hP hvP
      go_wp2_with fail
      refine (num03_all v7 kf wr HN.out.2.2.1 (HT.out.2.2.2.2.2.2.2.below HN.out.1 HT.out.2.2.2.2.2.2.2.lt)).mono ?_
      rintro e wa ⟨rfl, hba⟩
      have Ja := Lib.hid hba
      clear hba hcx hcy
      go_wp2_with fail
      refine (num03_all v12 k1 wa (HN.out.2.2.2.1.below Ja.out) (HT.out.2.2.2.2.2.2.2.below (below_then HN.out.1 HN.out.1.size Ja.out) HT.out.2.2.2.2.2.2.2.lt)).mono ?_
      rintro e wb ⟨rfl, hbb⟩
      have Jb := Lib.hid (below_then Ja.out Ja.out.size hbb)
      clear hbb
      go_wp2_with fail
      refine (lists_true A16 A19 P c16 P c19 vs vs' ps' wb HP.out.2.1.symm HP.out.2.2.1.symm (by have := HP.out; omega) (HN.out.2.2.2.2.2.1.below Jb.out) (HN.out.2.2.2.2.2.2.1.below Jb.out) (HN.out.2.2.2.2.2.2.2.1.below Jb.out) (HN.out.2.2.2.2.2.2.2.2.below Jb.out)).mono ?_
      rintro e wc ⟨rfl, mq, rfl⟩
      have Jc := Lib.hid (below_drewN Jb.out mq)
      generalize wb.drewN mq = wc at *
      go_wp2_with fail
      refine (num03_all ev code' wc (HN.out.2.2.2.2.1.below Jc.out) (HT.out.2.2.2.2.2.2.2.below (below_then HN.out.1 HN.out.1.size Jc.out) HT.out.2.2.2.2.2.2.2.lt)).mono ?_
      rintro e wd ⟨rfl, hbd⟩
      have Jd := Lib.hid (below_then Jc.out Jc.out.size hbd)
      clear hbd
      go_wp2_with fail
      refine (torn_any v12 k1 wd (HN.out.2.2.2.1.below Jd.out)).mono ?_
      rintro e we ⟨rfl, rfl⟩
      go_wp2_with fail
      refine (torn_any .nilIface 0 we (.inl ⟨rfl, rfl⟩)).mono ?_
      rintro e wf ⟨rfl, rfl⟩
      have h012 : ((0 : Int) == 12) = false := rfl
      go_wp2_with fail
      have H4r := Lib.hid (H4.out.2.1.below (below_then HN.out.2.1 HN.out.2.1.size Jd.out))
      have Hbr := Lib.hid (HT.out.2.2.2.2.2.2.1.below (below_then HN.out.1 HN.out.1.size Jd.out))
      refine (sum_rd A5 nb c5 b wf HT.out.2.2.1.symm (by have := HT.out.2.2.2.1; have := HT.out.2.2.1; omega) H4r.out).mono ?_
      rintro e wg ⟨rfl, rfl⟩
      go_wp2_with fail
      refine (rsum03_any Ab nb cb b wg HT.out.2.2.1 (by have := HT.out.2.2.2.1; omega) Hbr.out).mono ?_
      rintro e wh ⟨rfl, rfl⟩
      have hcm : (convert 22 9 (.slice A5 nb c5)).run Tryd.prog wg = .ok (.string sb) wg := by
        rw [HO.out.2.2.2]; exact run_str Tryd.underlying22 Tryd.underlying5 Tryd.underlying9 A5 nb c5 b wg HT.out.2.2.1.symm H4r.out
      have hcb : (convert 22 9 (.slice Ab nb cb)).run Tryd.prog wg = .ok (.string sb) wg := by
        rw [HO.out.2.2.2]; exact run_str Tryd.underlying22 Tryd.underlying5 Tryd.underlying9 Ab nb cb b wg HT.out.2.2.1.symm Hbr.out
      go_wp2_with fail
      refine (sure_any wg).mono ?_
      rintro e wi ⟨rfl, hbi⟩
      have Ji := Lib.hid (below_then Jd.out Jd.out.size hbi)
      clear hbi hcm hcb
      go_wp2_with fail
      go_ret
      exact ⟨rfl, below_then HN.out.1 HN.out.1.size Ji.out⟩
#print axioms records_any
end Go.Proofs.YtdmopnmifdjcnaaDoor
