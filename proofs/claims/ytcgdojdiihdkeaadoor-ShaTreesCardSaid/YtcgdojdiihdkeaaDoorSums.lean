/- ShaSums: the walk. -/
import Derived.Test.YtcgdojdiihdkeaaDoorParse
import Derived.Test.YtcgdojdiihdkeaaDoorCuts
import Derived.Test.YtcgdojdiihdkeaaDoorRefB
import Derived.Test.YtcgdojdiihdkeaaDoorNum1
import Derived.Test.YtcgdojdiihdkeaaDoorReg
namespace Go.Proofs.YtcgdojdiihdkeaaDoor
open Go Go.RowKit Go.Isth

theorem rsum1_len (A : Option Addr) (c m : Nat) (bs : List UInt8) (w : World) (hm : m = bs.length) (hr : Rd w A (bs.map B)) (hl : m ≤ 140737488355200) :
    Calls Tryd.prog 30 #[.slice A m c] w fun e w' => e = .returned (HV (sumF bs)) ∧ Below w.heap.size w w' := by
  subst hm
  exact refsum_any A c bs w hl hr
theorem wsum1_to (A : Option Addr) (c m : Nat) (bs : List UInt8) (w w0 : World) (h0 : m = bs.length) (hw : Below w0.heap.size w0 w) (hc : m ≤ c) (hm : m ≤ 140737488355328) (hr : Rd w A (bs.map B)) (ht : TabLaid w0) :
    Calls Tryd.prog 17 #[.slice A m c] w fun e w' => e = .returned (HV (sumF bs)) ∧ Below w.heap.size w w' := by
  subst h0
  exact sum_any A c bs w hc hm hr (ht.below hw ht.lt)
theorem twin01_to (A : Option Addr) (c n : Nat) (bs : List UInt8) (w w0 : World) (hn : bs.length = n) (hm : n ≤ 140737488355328) (hr : Rd w0 A (bs.map B)) (hw : Below w0.heap.size w0 w) :
    Calls Tryd.prog 31 #[.slice A n c] w fun e w' => ∃ A' c', e = .returned (.slice A' n c') ∧ n ≤ c' ∧ Rd w' A' (bs.map B) ∧ (∀ ad, A' = some ad → w.heap.size ≤ ad.block) ∧ Below w.heap.size w w' := by
  subst hn
  have HM := Lib.hid hm
  have hr := hr.below hw
  clear hm hw
  go_enter Tryd.func31, Tryd.ntmps31
  go_wp2_with (at_builtin; refine wpList_app tBs rfl _ _ rfl w.heap.size (.slice none 0 0) 0 [] rfl (World.ownsRow_nil _ _ _ _) A bs.length c (bs.map B) rfl hr (by simp) one_bytes (by have := HM.out; unfold maxLen; omega) (by have := HM.out; omega) (Nat.le_refl _) ?_)
  intro v1 w1 ho1 hx1
  have hb := hx1.below (B := w.heap.size) (Nat.le_refl _) (fun k e => by cases e)
  have ho2 : w1.ownsRow w.heap.size 5 1 v1 bs.length (bs.map B) := by simpa using ho1
  obtain ⟨A1, c1, rfl, hc1, hr1, _, hl1⟩ := own_slice ho2
  have H1 := Lib.hid (And.intro hc1 (And.intro hr1 (And.intro hl1 hb)))
  clear ho1 ho2 hx1 hc1 hr1 hl1 hb
  go_wp2_with fail
  go_ret
  exact ⟨A1, c1, rfl, H1.out.1, H1.out.2.1, fun ad e => (H1.out.2.2.1 ad e).1, H1.out.2.2.2⟩
theorem hsum_nil (csz : List Value) (w : World) (hz : csz = List.replicate 32 (B 0)) : Calls Tryd.prog 16 #[.pointer none] w fun e w' => e = .returned (.agg csz.toArray) ∧ Below w.heap.size w w' := by
  subst hz
  go_enter Tryd.func16, Tryd.ntmps16
  have hz2 := Blk_new w (List.replicate 32 (B 0)) 28
  have hb0 := (Below.refl w.heap.size w).alloc (Nat.le_refl _) (.cells (List.replicate 32 (B 0)).toArray 28)
  go_upto_region 1 with fail
  change Code.wp _ _ _ _ (w.alloc (.cells (List.replicate 32 (B 0)).toArray 28))
  generalize w.alloc (.cells (List.replicate 32 (B 0)).toArray 28) = w0 at *
  go_wp2_with (refine wpList_store_blk rfl 28 (.tmp 2) (.tmp 5) rfl w.heap.size (List.replicate 32 (B 0)) rfl rfl 28 _ hz2 (by kernel_rfl) rfl (by decide) ?_; intro w2 hw2 hg2)
  refine bodyPost_ret (results_blk rfl _ _ w.heap.size 28 (List.replicate 32 (B 0)) _ rfl hw2 Tryd.underlying28 rfl (by kernel_rfl)) rfl ⟨rfl, ?_⟩
  exact hb0.grown hg2 hb0.size (fun k e => by injection e with e; omega)
theorem hclone_nil (w : World) : Calls Tryd.prog 15 #[.pointer none] w fun e w' => e = .returned (.pointer none) ∧ w = w' := by
  go_enter Tryd.func15, Tryd.ntmps15
  go_wp2
  go_ret
  exact ⟨rfl, rfl⟩
theorem hwrite_nil (A : Option Addr) (m c : Nat) (w : World) : Calls Tryd.prog 14 #[.pointer none, .slice A m c] w fun e w' => e = .returned (.tuple #[]) ∧ w = w' := by
  go_enter Tryd.func14, Tryd.ntmps14
  go_wp2
  refine bodyPost_ret (results_none rfl _ _ _) rfl ⟨rfl, rfl⟩
theorem write_w (A : Option Addr) (c m base h : Nat) (v : Value) (bs xs : List UInt8) (w w0 : World) (hm0 : m = xs.length) (hB : base = w0.heap.size) (hw : Below w0.heap.size w0 w) (H : HashIs w base h v bs) (hm : bs.length + xs.length ≤ 140737488355328) (hr : Rd w A (xs.map B)) (hA : ∀ ad, A = some ad → ad.block ≠ h) (ht : TabLaid w0) :
    Calls Tryd.prog 14 #[PtrH h, .slice A m c] w fun e w' => e = .returned (.tuple #[]) ∧ ∃ v', HashIs w' base h v' (bs ++ xs) ∧ WExt w w' h v v' ∧ Below w0.heap.size w0 w' := by
  subst hm0; subst hB
  refine (write_any A c _ h v bs xs w H hm hr (fun ad e _ => hA ad e) (ht.below hw ht.lt) ht.lt).mono ?_
  rintro e w' ⟨rfl, v', h1, h2⟩
  exact ⟨rfl, v', h1, h2, hw.trans (h2.below H.at_ hw.size (fun k e => (H.tail.lt k e).1))⟩
theorem mod90 (z : Int) : ∃ k : Nat, k ≤ 89 ∧ IntKind.i64.wrap ((IntKind.u64.wrap z).tmod 90) = (k : Int) := by
  obtain ⟨k, hk, e⟩ := umod z 90 (by omega) (by omega)
  exact ⟨k, by omega, by rw [IntKind.wrap_i64, ← e, wrap64]⟩
def N1Is (w : World) (v : Value) (k : Nat) : Prop := (k = 0 ∧ v = .nilIface) ∨ FaultIs w v (k : Int)
theorem N1Is.below {w w' : World} {v : Value} {k : Nat} (h : N1Is w v k) (hb : Below w.heap.size w w') : N1Is w' v k := h.imp id (fun h => h.below hb)
theorem num01_all (v : Value) (k : Nat) (w : World) (h : N1Is w v k) (hg : TypeLaid w) : Calls Tryd.prog 36 #[v] w fun e w' => e = .returned (.int .i64 (k : Nat)) ∧ Below w.heap.size w w' := by
  rcases h with ⟨rfl, rfl⟩ | h
  · exact num01_nil w
  · exact num01_any v k w h hg
theorem text_st (cs : List Value) (h : List UInt8) (st : ByteArray) (w : World) (hcs : cs = h.map B) (hl : h.length = 32) (hs : st = ⟨(textF h).toArray⟩) :
    Calls Tryd.prog 34 #[.agg cs.toArray] w fun e w' => e = .returned (.string st) ∧ Below w.heap.size w w' := by
  subst hs
  exact text_to cs h w hcs hl
theorem rtext_st (cs : List Value) (h : List UInt8) (st : ByteArray) (w : World) (hcs : cs = h.map B) (hl : h.length = 32) (hs : st = ⟨(textF h).toArray⟩) :
    Calls Tryd.prog 35 #[.agg cs.toArray] w fun e w' => e = .returned (.string st) ∧ Below w.heap.size w w' := by
  subst hs
  exact rtext01_any cs h w hcs hl
def SumsInv (w2 : World) (hp : Nat) (bs : List UInt8) (n : Nat) (v9 v10 : Value) (wr : World) : Prop :=
  ∃ (p i : Nat) (v : Value), v9 = .int .i64 (p : Nat) ∧ v10 = .int .i64 (i : Nat) ∧ p ≤ n ∧ i ≤ 30 ∧ HashIs wr w2.heap.size hp v (bs.take p) ∧ Below w2.heap.size w2 wr
set_option maxRecDepth 100000 in
set_option maxHeartbeats 4000000 in
theorem sums_any (A Ac : Option Addr) (n c nc cc : Nat) (bs sl : List UInt8) (zs : List Int) (sv : ByteArray) (w : World) (hn : bs.length = n) (hnb : n ≤ 140737488351232) (hc : n ≤ c) (hr : Rd w A (bs.map B)) (hz : zs.length = nc) (hrz : Rd w Ac (zs.map (Value.int .i64))) (hsv : sv = ⟨sl.toArray⟩) (ht : TabLaid w) (htl : TypeLaid w) :
    Calls Tryd.prog 9 #[.slice A n c, .slice Ac nc cc, .string sv] w fun e w' => e = .returned (.bool true) ∧ Below w.heap.size w w' := by
  have HT := Lib.hid (And.intro trivial (And.intro hn (And.intro (show n ≤ 140737488355328 by omega) (And.intro hr (And.intro hz (And.intro hrz (And.intro hsv (And.intro hnb hc))))))))
  have ht : Hid (TabLaid w ∧ TypeLaid w) := Lib.hid ⟨ht, htl⟩
  have hnb' : (n : Int) ≤ 140737488351232 := by omega
  clear hn hr hz hrz hsv htl hnb hc
  obtain ⟨o, kf, hP⟩ := ParseIs.any sl
  obtain ⟨csw, hcw⟩ : ∃ cs, cs = (sumF bs).map B := ⟨_, rfl⟩
  obtain ⟨cso, hco⟩ : ∃ cs, cs = o.map B := ⟨_, rfl⟩
  obtain ⟨csz, hcz⟩ : ∃ cs, cs = List.replicate 32 (B 0) := ⟨_, rfl⟩
  obtain ⟨st, hst⟩ : ∃ s : ByteArray, s = ⟨(textF (sumF bs)).toArray⟩ := ⟨_, rfl⟩
  have hwl : csw.length = 32 := by rw [hcw, List.length_map, sumF_length]
  have hol : cso.length = 32 := by rw [hco, List.length_map]; exact hP.length
  have hw1 : ∀ u ∈ csw, u.oneCell' = true := by rw [hcw]; exact one_bytes
  have ho1 : ∀ u ∈ cso, u.oneCell' = true := by rw [hco]; exact one_bytes
  have hiw : (Tryd.prog.info? 28).map (·.size) = some csw.length := by rw [hwl]; kernel_rfl
  have hio : (Tryd.prog.info? 28).map (·.size) = some cso.length := by rw [hol]; kernel_rfl
  have hu28 := Tryd.underlying28
  have heqw : ∀ wx, (binOp .eql 28 (.agg csw.toArray) (.agg csw.toArray)).run Tryd.prog wx = .ok (.bool true) wx := by
    intro wx
    have h := run_eql_bytes aHash wx (sumF bs) (sumF bs) (sumF_length _) (sumF_length _)
    rw [← hcw] at h
    simpa using h
  have heqo : ∀ wx, (binOp .eql 28 (.agg cso.toArray) (.agg cso.toArray)).run Tryd.prog wx = .ok (.bool true) wx := by
    intro wx
    have h := run_eql_bytes aHash wx o o hP.length hP.length
    rw [← hco] at h
    simpa using h
  have heqz : ∀ wx, (binOp .eql 28 (.agg csz.toArray) (.agg csz.toArray)).run Tryd.prog wx = .ok (.bool true) wx := by
    intro wx
    have h := run_eql_bytes aHash wx (List.replicate 32 0) (List.replicate 32 0) rfl rfl
    rw [show (List.replicate 32 (0 : UInt8)).map B = csz by rw [hcz]; rfl] at h
    simpa using h
  have HCW := Lib.hid hcw
  have HCO := Lib.hid (And.intro hco hP)
  have HCZ := Lib.hid hcz
  have HST := Lib.hid hst
  have HIW := Lib.hid (show (some 32 : Option Nat) = some csw.length by rw [hwl])
  have HIO := Lib.hid (show (some 32 : Option Nat) = some cso.length by rw [hol])
  clear hcw hco hcz hst hP
  go_enter Tryd.func9, Tryd.ntmps9
  go_wp2_with fail
  refine (rsum1_len A c n bs w HT.out.2.1.symm HT.out.2.2.2.1 (by have := HT.out.2.2.2.2.2.2.2.1; omega)).mono ?_
  rintro e w1 ⟨rfl, hb1⟩
  rw [show HV (sumF bs) = .agg csw.toArray by rw [HCW.out]]
  have HB1 := Lib.hid hb1
  clear hb1
  go_wp2_with (refine wpList_store_blk rfl 28 (.tmp 7) (.tmp 19) rfl w1.heap.size csw rfl rfl 28 _ (heap_alloc_new w1 _) (Eq.trans (by kernel_rfl) HIW.out) (by rw [hwl]; rfl) hw1 ?_; intro w2 hw2 hg2)
  have hb2 : Below w1.heap.size w1 w2 := ((Below.refl w1.heap.size w1).alloc (Nat.le_refl _) _).grown hg2 (by simp) (fun r e => by injection e with e; omega)
  have H2 := Lib.hid (And.intro (below_then HB1.out HB1.out.size hb2) hw2)
  clear hw2 hg2 hb2
  generalize w1.heap.size = g7 at *
  have HT2 : Hid (TabLaid w2) := Lib.hid (ht.out.1.below H2.out.1 ht.out.1.lt)
  refine (newH_any w2).mono ?_
  rintro e w3 ⟨hp, rfl, h3, hb3⟩
  have H3 := Lib.hid (And.intro h3 hb3)
  clear h3 hb3
  go_wp2_with fail
  go_loopw [9, 10, 11] (fun v9 v10 _ wr => SumsInv w2 hp bs n v9 v10 wr) (fun _ v10 _ _ => 30 - (intOf v10).toNat)
  case atStart => exact ⟨0, 0, _, rfl, rfl, Nat.zero_le _, Nat.zero_le _, by simpa using H3.out.1, H3.out.2⟩
  case round =>
    obtain ⟨p, i, v, rfl, rfl, hp9, hi30, hH, hB⟩ := hrel
    have HS := Lib.hid (And.intro hH (And.intro hB (below_then H2.out.1 H2.out.1.size hB)))
    clear hH hB
    by_cases hend : i < nc ∧ i < 30
    · obtain ⟨hinc, hi3⟩ := hend
      obtain ⟨z, hzz⟩ : ∃ z, zs[i]? = some z := ⟨_, List.getElem?_eq_getElem (by have := HT.out.2.2.2.2.1; omega)⟩
      obtain ⟨bz, oz, rfl, hbz, hcell⟩ := HT.out.2.2.2.2.2.1.at_ (by rw [List.length_map]; have := HT.out.2.2.2.2.1; omega)
      have hcz : wr.cell? ⟨bz, oz + i, none⟩ = some (.int .i64 z) := by
        have h := hcell i (by rw [List.length_map]; have := HT.out.2.2.2.2.1; omega)
        rw [HS.out.2.2.cell (p := ⟨bz, oz + i, none⟩) hbz, h]
        have := (List.getElem?_eq_some_iff.1 hzz).2
        simp [this]
      obtain ⟨k, hk, hmod⟩ := mod90 z
      obtain ⟨m, hm⟩ : ∃ m, min k (n - p) = m := ⟨_, rfl⟩
      obtain ⟨q, hq⟩ : ∃ q, p + m = q := ⟨_, rfl⟩
      have hmin : min (k : Int) ((n : Int) - (p : Int)) = (m : Int) := by omega
      have hadd : (p : Int) + (m : Int) = (q : Int) := by omega
      have hpn : p ≤ q ∧ q ≤ n ∧ q - p = m := by omega
      have cm : ∀ wx, _ := fun wx => run_cut_mid tBs A n c (p : Int) (q : Int) (by omega) (by omega) (by have := HT.out.2.2.2.2.2.2.2.2; omega) wx
      simp only [Int.toNat_natCast, hpn.2.2] at cm
      have HQ := Lib.hid (And.intro hpn (And.intro hq hi3))
      have hpI : (p : Int) ≤ (n : Int) := by omega
      have hqI : (q : Int) ≤ (n : Int) := by omega
      have hkI : (k : Int) ≤ 89 := by omega
      clear hcell hbz hzz hk hm hq hpn hp9 hi30
      go_wp2_with fail
      refine (twin01_to (cutA A c p 1) (c - p) m ((bs.drop p).take m) wr wr (by have := HT.out.2.1; have := HQ.out; simp; omega) (by have := HQ.out; have := HT.out.2.2.1; omega) (rd_mid c p m (HT.out.2.2.2.1.below HS.out.2.2) (by have := HQ.out; have := HT.out.2.1; omega) (by rw [HT.out.2.1]; exact HT.out.2.2.2.2.2.2.2.2)) (Below.refl _ _)).mono ?_
      rintro e w5 ⟨A5, c5, rfl, hc5, hr5, hl5, hb5⟩
      have hA5 : ∀ ad, A5 = some ad → ad.block ≠ hp := fun ad e => by have := hl5 ad e; have := HS.out.1.blk.lt; omega
      have H5 := Lib.hid (And.intro hr5 (And.intro hA5 (And.intro (HS.out.1.below hb5) (below_then HS.out.2.1 HS.out.2.1.size hb5))))
      clear hc5 hr5 hl5 hb5 hA5 cm hmod hcz hmin
      go_wp2_with fail
      refine (write_w A5 c5 m w2.heap.size hp v (bs.take p) ((bs.drop p).take m) w5 w2 (by have := HT.out.2.1; have := HQ.out; simp; omega) rfl H5.out.2.2.2 H5.out.2.2.1 (by have := HT.out.2.1; have := HT.out.2.2.1; have := HQ.out; simp; omega) H5.out.1 H5.out.2.1 HT2.out).mono ?_
      rintro e w6 ⟨rfl, v6, h6, _, hb6⟩
      rw [show bs.take p ++ (bs.drop p).take m = bs.take q by rw [← HQ.out.2.1, List.take_add]] at h6
      have H6 := Lib.hid (And.intro h6 hb6)
      clear h6 hb6
      go_wp2_with fail
      refine (hsum_any _ hp v6 (bs.take q) w6 H6.out.1 (HT2.out.below H6.out.2 HT2.out.lt)).mono ?_
      rintro e w7 ⟨rfl, hb7⟩
      have H7 := Lib.hid (And.intro (H6.out.1.below hb7) (below_then H6.out.2 H6.out.2.size hb7))
      clear hb7
      go_wp2_with fail
      go_roundw
      case rel => exact ⟨q, i + 1, v6, rfl, by go_num, HQ.out.1.2.1, by have := HQ.out; omega, H7.out.1, H7.out.2⟩
      case measure => have := HQ.out.2.2; simp [intOf]; omega
    · have hor : ¬ ((i : Int) < (nc : Int)) ∨ ((i : Int) < (nc : Int) ∧ ¬ ((i : Int) < 30)) := by omega
      have cb : ∀ wx, _ := fun wx => run_cut_from tBs A n c (p : Int) (by omega) (by omega) wx
      simp only [Int.toNat_natCast] at cb
      have HP9 := Lib.hid hp9
      have hpI : (p : Int) ≤ (n : Int) := by omega
      obtain ⟨m, hm⟩ : ∃ m, n - p = m := ⟨_, rfl⟩
      rw [hm] at cb
      have HM := Lib.hid hm
      clear hend hp9 hi30 hm
      rcases hor with h | ⟨h, h'⟩
      · go_wp2_with fail
        refine (clone_any w2.heap.size hp v (bs.take p) wr HS.out.1).mono ?_
        rintro e w4 ⟨g, u4, rfl, g4, hg, hu, hb4⟩
        have h4 := HS.out.1.below hb4
        have ap : Apart hp v g u4 := ⟨by have := HS.out.1.blk.lt; omega, fun e => by have := (HS.out.1.tail.lt _ e).2; omega, fun e => by have := hu _ e; have := HS.out.1.blk.lt; omega, fun k e e' => by have := hu _ e; have := (HS.out.1.tail.lt _ e').2; omega⟩
        have H4 := Lib.hid (And.intro h4 (And.intro g4 (And.intro ap (And.intro (below_then HS.out.2.1 HS.out.2.1.size hb4) (below_then HS.out.2.2 HS.out.2.2.size hb4)))))
        clear h4 g4 ap hb4 hg hu
        go_wp2_with fail
        refine (twin01_to (cutA A c p 1) (c - p) m (bs.drop p) w4 w4 (by have := HT.out.2.1; have := HM.out; simp; omega) (by have := HM.out; have := HT.out.2.2.1; omega) (rd_from c p (HT.out.2.2.2.1.below H4.out.2.2.2.2) (by have := HP9.out; have := HT.out.2.1; omega) (by rw [HT.out.2.1]; exact HT.out.2.2.2.2.2.2.2.2)) (Below.refl _ _)).mono ?_
        rintro e w5 ⟨A5, c5, rfl, hc5, hr5, hl5, hb5⟩
        have hA5 : ∀ ad, A5 = some ad → ad.block ≠ hp := fun ad e => by have := hl5 ad e; have := H4.out.1.blk.lt; omega
        have H5 := Lib.hid (And.intro hr5 (And.intro hA5 (And.intro (H4.out.1.below hb5) (And.intro (H4.out.2.1.below hb5) (below_then H4.out.2.2.2.1 H4.out.2.2.2.1.size hb5)))))
        clear hc5 hr5 hl5 hb5 hA5 cb
        go_wp2_with fail
        refine (write_w A5 c5 m w2.heap.size hp v (bs.take p) (bs.drop p) w5 w2 (by have := HT.out.2.1; have := HM.out; simp; omega) rfl H5.out.2.2.2.2 H5.out.2.2.1 (by have := HT.out.2.1; have := HT.out.2.2.1; have := HP9.out; simp; omega) H5.out.1 H5.out.2.1 HT2.out).mono ?_
        rintro e w6 ⟨rfl, v6, h6, x6, hb6⟩
        rw [List.take_append_drop] at h6
        obtain ⟨g6, ap6⟩ := H5.out.2.2.2.1.beside x6 H4.out.2.2.1
        have H6 := Lib.hid (And.intro h6 (And.intro g6 (And.intro ap6 hb6)))
        clear h6 x6 g6 ap6 hb6
        have hcv := Lib.run_convert_bytes_const (P := Tryd.prog) w6 22 5 #[Value.int IntKind.u8 111, Value.int IntKind.u8 116, Value.int IntKind.u8 104, Value.int IntKind.u8 101, Value.int IntKind.u8 114] 5 5 Tryd.underlying22 Tryd.underlying5
        go_wp2_with fail
        clear hcv
        have hr7 : Rd (w6.alloc (.cells #[B 111, B 116, B 104, B 101, B 114] 5 (5, 6))) (some ⟨w6.heap.size, 0, none⟩) (([111, 116, 104, 101, 114] : List UInt8).map B) := fun _ => ⟨_, _, rfl, fun j u hu => by rw [World.cell?_alloc_mark, Nat.zero_add]; show (#[B 111, B 116, B 104, B 101, B 114] : Array Value)[j]? = some u; simpa using hu⟩
        have hb7 : Below w6.heap.size w6 (w6.alloc (.cells #[B 111, B 116, B 104, B 101, B 114] 5 (5, 6))) := (Below.refl _ _).alloc (Nat.le_refl _) _
        have hA7 : ∀ ad, (some ⟨w6.heap.size, 0, none⟩ : Option Addr) = some ad → ad.block ≠ g := fun ad e => by injection e with e; subst e; have := H6.out.2.1.blk.lt; show w6.heap.size ≠ g; omega
        refine (write_w _ 5 5 w2.heap.size g u4 (bs.take p) [111, 116, 104, 101, 114] _ w2 rfl rfl (below_then H6.out.2.2.2 H6.out.2.2.2.size hb7) (H6.out.2.1.below hb7) (by have := HT.out.2.1; have := HP9.out; have := HT.out.2.2.2.2.2.2.2.1; simp; omega) hr7 hA7 HT2.out).mono ?_
        rintro e w8 ⟨rfl, v8, _, x8, hb8⟩
        obtain ⟨h8, _⟩ := (H6.out.1.below hb7).beside x8 H6.out.2.2.1.symm
        have H8 := Lib.hid (And.intro h8 hb8)
        clear h8 x8 hb8 hr7 hb7 hA7
        go_wp2_with fail
        refine (wparse_any cso sl o sv kf w8 HCO.out.2 HCO.out.1 HT.out.2.2.2.2.2.2.1).mono ?_
        rintro e w9 ⟨v14e, rfl, hn14, hb9⟩
        have H9 := Lib.hid (And.intro (H8.out.1.below hb9) (And.intro (show N1Is w9 v14e kf from hn14) (below_then H8.out.2 H8.out.2.size hb9)))
        clear hn14 hb9
        go_wp2_with (refine wpList_store_blk rfl 28 (.tmp 13) (.tmp 76) rfl w9.heap.size cso rfl rfl 28 _ (heap_alloc_new w9 _) (Eq.trans (by kernel_rfl) HIO.out) (by rw [hol]; rfl) ho1 ?_; intro w10 hw10 hg10)
        have hb10 : Below w9.heap.size w9 w10 := ((Below.refl w9.heap.size w9).alloc (Nat.le_refl _) _).grown hg10 (by simp) (fun r e => by injection e with e; omega)
        have H10 := Lib.hid (And.intro (H9.out.1.below hb10) (And.intro (H9.out.2.1.below hb10) (And.intro (below_then H9.out.2.2 H9.out.2.2.size hb10) hw10)))
        clear hw10 hg10 hb10
        generalize w9.heap.size = g13 at *
        refine (rparse_any cso sl o sv kf w10 HCO.out.2 HCO.out.1 HT.out.2.2.2.2.2.2.1).mono ?_
        rintro e w11 ⟨rfl, hb11⟩
        have H11 := Lib.hid (And.intro (H10.out.1.below hb11) (And.intro (H10.out.2.1.below hb11) (And.intro (below_then H10.out.2.2.1 H10.out.2.2.1.size hb11) (H10.out.2.2.2.below hb11))))
        clear hb11
        go_wp2_with (first
          | (refine wpList_store_blk rfl 28 (.tmp 15) (.tmp 81) rfl w11.heap.size cso rfl rfl 28 _ (heap_alloc_new w11 _) (Eq.trans (by kernel_rfl) HIO.out) (by rw [hol]; rfl) ho1 ?_; intro w14 hw14 hg14)
          | (go_at_call 14; refine (hwrite_nil A n c _).mono ?_; rintro e w15 ⟨rfl, rfl⟩))
        have hb14 : Below w11.heap.size w11 w14 := ((Below.refl w11.heap.size w11).alloc (Nat.le_refl _) _).grown hg14 (by simp) (fun r e => by injection e with e; omega)
        have HN := Lib.hid (show HashIs w14 w2.heap.size hp v6 bs ∧ N1Is w14 v14e kf ∧ Below w.heap.size w w14 ∧ True from
          ⟨H11.out.1.below hb14, H11.out.2.1.below hb14, below_then H2.out.1 H2.out.1.size (below_then H11.out.2.2.1 H11.out.2.2.1.size hb14), trivial⟩)
        have HTS : Hid (∀ w', Below w14.heap.size w14 w' → w'.rangeAt g7 0 csw ∧ w'.rangeAt g13 0 cso ∧ w'.rangeAt w11.heap.size 0 cso) := by
          refine Lib.hid (fun w' hw' => ⟨fun j u hj => ?_, fun j u hj => ?_, fun j u hj => ?_⟩)
          · rw [Nat.zero_add]; exact (H2.out.2.below (below_then H11.out.2.2.1 H11.out.2.2.1.size (below_then hb14 hb14.size hw'))).cellD j u hj
          · rw [Nat.zero_add]; exact (H11.out.2.2.2.below (below_then hb14 hb14.size hw')).cellD j u hj
          · rw [Nat.zero_add]; exact (hw14.below hw').cellD j u hj
        clear hw14 hg14 hb14
        generalize w11.heap.size = g15 at *
        go_wp2_with fail
        refine wp_region_held_drew (S := (fun w' => w'.rangeAt g7 0 csw ∧ w'.rangeAt g13 0 cso ∧ w'.rangeAt g15 0 cso)) (by kernel_rfl) ?qs0 (fun hHeld => ?_)
        case qs0 => exact HTS.out _ (refl_drewN _ 1)
        refine held_take (i := 0) (v := ?qv0) rfl (by kernel_rfl) (by kernel_rfl) (by kernel_rfl) (fun _ _ _ h => h) (by rfl) ?qy0 hHeld ?_
        case qy0 => ((intro w _hSw; (try dsimp only at _hSw); go_simp); try (with_reducible rfl))
        try simp only [Act.put, List.setIfInBounds_toArray, List.set_cons_zero, List.set_cons_succ]
        refine held_row (i := 3) rfl (by kernel_rfl) (by kernel_rfl) (by kernel_rfl) _ _ rfl _ _ rfl ?qC3 ?qD3 (fun _ _ _ h => h) (by rfl) ?qa3 ?qb3 ?qc3 ?qd3 hHeld ?_
        case qa3 => (intro w hSw; (try dsimp only at hSw); go_split_ands; assumption)
        case qb3 => assumption
        case qc3 => rfl
        case qd3 => first | assumption | (simp only [*]; done)
        try simp only [Act.put, List.setIfInBounds_toArray, List.set_cons_zero, List.set_cons_succ]
        refine held_step (i := 1) rfl (by kernel_rfl) (by rfl) (fun K hK => ?_)
        go_simp
        refine (twin01_to A c n bs _ w HT.out.2.1 HT.out.2.2.1 HT.out.2.2.2.1 (below_then HN.out.2.2.1 HN.out.2.2.1.size (refl_drewN _ 1))).mono ?_
        rintro e wa ⟨At, ct, rfl, hct, hrt, _, hb⟩
        have J1 := Lib.hid (And.intro (below_then (refl_drewN w14 1) (Nat.le_refl _) hb) (And.intro hct hrt))
        clear hb hct hrt
        go_wp2_with fail
        have hHeld := HTS.out _ J1.out.1
        refine hK.out _ _ (HTS.out _ J1.out.1) ?_
        clear hK K
        try simp only [Act.put, List.setIfInBounds_toArray, List.set_cons_zero, List.set_cons_succ]
        refine held_step (i := 2) rfl (by kernel_rfl) (by rfl) (fun K hK => ?_)
        go_simp
        refine (wsum1_to At ct n bs wa w HT.out.2.1.symm (below_then HN.out.2.2.1 HN.out.2.2.1.size J1.out.1) J1.out.2.1 (by have := HT.out.2.2.1; omega) J1.out.2.2 ht.out.1).mono ?_
        rintro e wb ⟨rfl, hb⟩
        rw [show HV (sumF bs) = .agg csw.toArray by rw [HCW.out]]
        have J2 := Lib.hid (below_then J1.out.1 J1.out.1.size hb)
        clear hb
        go_wp2_with fail
        have hHeld := HTS.out _ J2.out
        refine hK.out _ _ (HTS.out _ J2.out) ?_
        clear hK K
        try simp only [Act.put, List.setIfInBounds_toArray, List.set_cons_zero, List.set_cons_succ]
        refine held_take (i := 4) (v := ?qv4) rfl (by kernel_rfl) (by kernel_rfl) (by kernel_rfl) (fun _ _ _ h => h) (by rfl) ?qy4 hHeld ?_
        case qy4 => ((intro w _hSw; (try dsimp only at _hSw); go_simp); try (with_reducible rfl))
        try simp only [Act.put, List.setIfInBounds_toArray, List.set_cons_zero, List.set_cons_succ]
        refine held_take (i := 5) (v := ?qv5) rfl (by kernel_rfl) (by kernel_rfl) (by kernel_rfl) (fun _ _ _ h => h) (by rfl) ?qy5 hHeld ?_
        case qy5 => ((intro w _hSw; (try dsimp only at _hSw); go_simp); try (with_reducible rfl))
        try simp only [Act.put, List.setIfInBounds_toArray, List.set_cons_zero, List.set_cons_succ]
        refine held_take (i := 6) (v := ?qv6) rfl (by kernel_rfl) (by kernel_rfl) (by kernel_rfl) (fun _ _ _ h => h) (by rfl) ?qy6 hHeld ?_
        case qy6 => ((intro w _hSw; (try dsimp only at _hSw); go_simp); try (with_reducible rfl))
        try simp only [Act.put, List.setIfInBounds_toArray, List.set_cons_zero, List.set_cons_succ]
        refine held_row (i := 8) rfl (by kernel_rfl) (by kernel_rfl) (by kernel_rfl) _ _ rfl _ _ rfl ?qC8 ?qD8 (fun _ _ _ h => h) (by rfl) ?qa8 ?qb8 ?qc8 ?qd8 hHeld ?_
        case qa8 => (intro w hSw; (try dsimp only at hSw); go_split_ands; assumption)
        case qb8 => assumption
        case qc8 => rfl
        case qd8 => first | assumption | (simp only [*]; done)
        try simp only [Act.put, List.setIfInBounds_toArray, List.set_cons_zero, List.set_cons_succ]
        refine held_step (i := 7) rfl (by kernel_rfl) (by rfl) (fun K hK => ?_)
        go_simp
        refine (hsum_any _ hp v6 bs wb (HN.out.1.below J2.out) (ht.out.1.below (below_then HN.out.2.2.1 HN.out.2.2.1.size J2.out) ht.out.1.lt)).mono ?_
        rintro e wd ⟨rfl, hb⟩
        rw [show HV (sumF bs) = .agg csw.toArray by rw [HCW.out]]
        have J3 := Lib.hid (below_then J2.out J2.out.size hb)
        clear hb
        go_wp2_with fail
        have hHeld := HTS.out _ J3.out
        refine hK.out _ _ (HTS.out _ J3.out) ?_
        clear hK K
        try simp only [Act.put, List.setIfInBounds_toArray, List.set_cons_zero, List.set_cons_succ]
        refine held_take (i := 9) (v := ?qv9) rfl (by kernel_rfl) (by kernel_rfl) (by kernel_rfl) (fun _ _ _ h => h) (by rfl) ?qy9 hHeld ?_
        case qy9 => ((intro w _hSw; (try dsimp only at _hSw); go_simp); try (with_reducible rfl))
        try simp only [Act.put, List.setIfInBounds_toArray, List.set_cons_zero, List.set_cons_succ]
        refine held_take (i := 10) (v := ?qv10) rfl (by kernel_rfl) (by kernel_rfl) (by kernel_rfl) (fun _ _ _ h => h) (by rfl) ?qy10 hHeld ?_
        case qy10 => ((intro w _hSw; (try dsimp only at _hSw); go_simp); try (with_reducible rfl))
        try simp only [Act.put, List.setIfInBounds_toArray, List.set_cons_zero, List.set_cons_succ]
        refine held_take (i := 11) (v := ?qv11) rfl (by kernel_rfl) (by kernel_rfl) (by kernel_rfl) (fun _ _ _ h => h) (by rfl) ?qy11 hHeld ?_
        case qy11 => ((intro w _hSw; (try dsimp only at _hSw); go_simp); try (with_reducible rfl))
        try simp only [Act.put, List.setIfInBounds_toArray, List.set_cons_zero, List.set_cons_succ]
        refine held_row (i := 12) rfl (by kernel_rfl) (by kernel_rfl) (by kernel_rfl) _ _ rfl _ _ rfl ?qC12 ?qD12 (fun _ _ _ h => h) (by rfl) ?qa12 ?qb12 ?qc12 ?qd12 hHeld ?_
        case qa12 => (intro w hSw; (try dsimp only at hSw); go_split_ands; assumption)
        case qb12 => assumption
        case qc12 => rfl
        case qd12 => first | assumption | (simp only [*]; done)
        try simp only [Act.put, List.setIfInBounds_toArray, List.set_cons_zero, List.set_cons_succ]
        refine held_row (i := 14) rfl (by kernel_rfl) (by kernel_rfl) (by kernel_rfl) _ _ rfl _ _ rfl ?qC14 ?qD14 (fun _ _ _ h => h) (by rfl) ?qa14 ?qb14 ?qc14 ?qd14 hHeld ?_
        case qa14 => (intro w hSw; (try dsimp only at hSw); go_split_ands; assumption)
        case qb14 => assumption
        case qc14 => rfl
        case qd14 => first | assumption | (simp only [*]; done)
        try simp only [Act.put, List.setIfInBounds_toArray, List.set_cons_zero, List.set_cons_succ]
        refine held_step (i := 13) rfl (by kernel_rfl) (by rfl) (fun K hK => ?_)
        go_simp
        refine (text_st csw (sumF bs) st wd HCW.out (sumF_length _) HST.out).mono ?_
        rintro e we ⟨rfl, hb⟩
        have J4 := Lib.hid (below_then J3.out J3.out.size hb)
        clear hb
        go_wp2_with fail
        have hHeld := HTS.out _ J4.out
        refine hK.out _ _ (HTS.out _ J4.out) ?_
        clear hK K
        try simp only [Act.put, List.setIfInBounds_toArray, List.set_cons_zero, List.set_cons_succ]
        refine held_step (i := 15) rfl (by kernel_rfl) (by rfl) (fun K hK => ?_)
        go_simp
        refine (rtext_st csw (sumF bs) st we HCW.out (sumF_length _) HST.out).mono ?_
        rintro e wf ⟨rfl, hb⟩
        have J5 := Lib.hid (below_then J4.out J4.out.size hb)
        clear hb
        go_wp2_with fail
        have hHeld := HTS.out _ J5.out
        refine hK.out _ _ (HTS.out _ J5.out) ?_
        clear hK K
        try simp only [Act.put, List.setIfInBounds_toArray, List.set_cons_zero, List.set_cons_succ]
        refine held_take (i := 16) (v := ?qv16) rfl (by kernel_rfl) (by kernel_rfl) (by kernel_rfl) (fun _ _ _ h => h) (by rfl) ?qy16 hHeld ?_
        case qy16 => ((intro w _hSw; (try dsimp only at _hSw); go_simp); try (with_reducible rfl))
        try simp only [Act.put, List.setIfInBounds_toArray, List.set_cons_zero, List.set_cons_succ]
        refine held_take (i := 17) (v := ?qv17) rfl (by kernel_rfl) (by kernel_rfl) (by kernel_rfl) (fun _ _ _ h => h) (by rfl) ?qy17 hHeld ?_
        case qy17 => ((intro w _hSw; (try dsimp only at _hSw); go_simp); try (with_reducible rfl))
        try simp only [Act.put, List.setIfInBounds_toArray, List.set_cons_zero, List.set_cons_succ]
        refine held_take (i := 18) (v := ?qv18) rfl (by kernel_rfl) (by kernel_rfl) (by kernel_rfl) (fun _ _ _ h => h) (by rfl) ?qy18 hHeld ?_
        case qy18 => ((intro w _hSw; (try dsimp only at _hSw); go_simp); try (with_reducible rfl))
        try simp only [Act.put, List.setIfInBounds_toArray, List.set_cons_zero, List.set_cons_succ]
        refine held_row (i := 19) rfl (by kernel_rfl) (by kernel_rfl) (by kernel_rfl) _ _ rfl _ _ rfl ?qC19 ?qD19 (fun _ _ _ h => h) (by rfl) ?qa19 ?qb19 ?qc19 ?qd19 hHeld ?_
        case qa19 => (intro w hSw; (try dsimp only at hSw); go_split_ands; assumption)
        case qb19 => assumption
        case qc19 => rfl
        case qd19 => first | assumption | (simp only [*]; done)
        try simp only [Act.put, List.setIfInBounds_toArray, List.set_cons_zero, List.set_cons_succ]
        refine held_row (i := 20) rfl (by kernel_rfl) (by kernel_rfl) (by kernel_rfl) _ _ rfl _ _ rfl ?qC20 ?qD20 (fun _ _ _ h => h) (by rfl) ?qa20 ?qb20 ?qc20 ?qd20 hHeld ?_
        case qa20 => (intro w hSw; (try dsimp only at hSw); go_split_ands; assumption)
        case qb20 => assumption
        case qc20 => rfl
        case qd20 => first | assumption | (simp only [*]; done)
        try simp only [Act.put, List.setIfInBounds_toArray, List.set_cons_zero, List.set_cons_succ]
        refine held_take (i := 21) (v := ?qv21) rfl (by kernel_rfl) (by kernel_rfl) (by kernel_rfl) (fun _ _ _ h => h) (by rfl) ?qy21 hHeld ?_
        case qy21 => ((intro w _hSw; (try dsimp only at _hSw); go_simp); try (with_reducible rfl))
        try simp only [Act.put, List.setIfInBounds_toArray, List.set_cons_zero, List.set_cons_succ]
        refine held_take (i := 22) (v := ?qv22) rfl (by kernel_rfl) (by kernel_rfl) (by kernel_rfl) (fun _ _ _ h => h) (by rfl) ?qy22 hHeld ?_
        case qy22 => ((intro w _hSw; (try dsimp only at _hSw); go_simp); try (with_reducible rfl))
        try simp only [Act.put, List.setIfInBounds_toArray, List.set_cons_zero, List.set_cons_succ]
        refine held_take (i := 23) (v := ?qv23) rfl (by kernel_rfl) (by kernel_rfl) (by kernel_rfl) (fun _ _ _ h => h) (by rfl) ?qy23 hHeld ?_
        case qy23 => ((intro w _hSw; (try dsimp only at _hSw); go_simp); try (with_reducible rfl))
        try simp only [Act.put, List.setIfInBounds_toArray, List.set_cons_zero, List.set_cons_succ]
        refine held_take (i := 24) (v := ?qv24) rfl (by kernel_rfl) (by kernel_rfl) (by kernel_rfl) (fun _ _ _ h => h) (by rfl) ?qy24 hHeld ?_
        case qy24 => ((intro w _hSw; (try dsimp only at _hSw); go_simp); try (with_reducible rfl))
        try simp only [Act.put, List.setIfInBounds_toArray, List.set_cons_zero, List.set_cons_succ]
        refine held_take (i := 26) (v := ?qv26) rfl (by kernel_rfl) (by kernel_rfl) (by kernel_rfl) (fun _ _ _ h => h) (by rfl) ?qy26 hHeld ?_
        case qy26 => ((intro w _hSw; (try dsimp only at _hSw); go_simp); try (with_reducible rfl))
        try simp only [Act.put, List.setIfInBounds_toArray, List.set_cons_zero, List.set_cons_succ]
        refine held_step (i := 25) rfl (by kernel_rfl) (by rfl) (fun K hK => ?_)
        go_simp
        refine (num01_all v14e kf _ (HN.out.2.1.below J5.out) (ht.out.2.below (below_then HN.out.2.2.1 HN.out.2.2.1.size J5.out) ht.out.2.lt)).mono ?_
        rintro e wg ⟨rfl, hb⟩
        have J6 := Lib.hid (below_then J5.out J5.out.size hb)
        clear hb
        go_wp2_with fail
        have hHeld := HTS.out _ J6.out
        refine hK.out _ _ (HTS.out _ J6.out) ?_
        clear hK K
        try simp only [Act.put, List.setIfInBounds_toArray, List.set_cons_zero, List.set_cons_succ]
        refine held_take (i := 27) (v := ?qv27) rfl (by kernel_rfl) (by kernel_rfl) (by kernel_rfl) (fun _ _ _ h => h) (by rfl) ?qy27 hHeld ?_
        case qy27 => ((intro w _hSw; (try dsimp only at _hSw); go_simp); try (with_reducible rfl))
        try simp only [Act.put, List.setIfInBounds_toArray, List.set_cons_zero, List.set_cons_succ]
        refine held_take (i := 28) (v := ?qv28) rfl (by kernel_rfl) (by kernel_rfl) (by kernel_rfl) (fun _ _ _ h => h) (by rfl) ?qy28 hHeld ?_
        case qy28 => ((intro w _hSw; (try dsimp only at _hSw); go_simp); try (with_reducible rfl))
        try simp only [Act.put, List.setIfInBounds_toArray, List.set_cons_zero, List.set_cons_succ]
        refine held_take (i := 29) (v := ?qv29) rfl (by kernel_rfl) (by kernel_rfl) (by kernel_rfl) (fun _ _ _ h => h) (by rfl) ?qy29 hHeld ?_
        case qy29 => ((intro w _hSw; (try dsimp only at _hSw); go_simp); try (with_reducible rfl))
        try simp only [Act.put, List.setIfInBounds_toArray, List.set_cons_zero, List.set_cons_succ]
        refine held_take (i := 30) (v := ?qv30) rfl (by kernel_rfl) (by kernel_rfl) (by kernel_rfl) (fun _ _ _ h => h) (by rfl) ?qy30 hHeld ?_
        case qy30 => ((intro w _hSw; (try dsimp only at _hSw); go_simp); try (with_reducible rfl))
        try simp only [Act.put, List.setIfInBounds_toArray, List.set_cons_zero, List.set_cons_succ]
        refine held_take (i := 32) (v := (.agg csz.toArray)) rfl (by kernel_rfl) (by kernel_rfl) (by kernel_rfl) (fun _ _ _ h => h) (by rfl) ?qy32 hHeld ?_
        case qy32 => (intro w _; go_simp; rw [HCZ.out]; rfl)
        try simp only [Act.put, List.setIfInBounds_toArray, List.set_cons_zero, List.set_cons_succ]
        refine held_step (i := 31) rfl (by kernel_rfl) (by rfl) (fun K hK => ?_)
        go_simp
        refine (hsum_nil csz wg HCZ.out).mono ?_
        rintro e wh ⟨rfl, hb⟩
        have J7 := Lib.hid (below_then J6.out J6.out.size hb)
        clear hb
        go_wp2_with fail
        have hHeld := HTS.out _ J7.out
        refine hK.out _ _ (HTS.out _ J7.out) ?_
        clear hK K
        try simp only [Act.put, List.setIfInBounds_toArray, List.set_cons_zero, List.set_cons_succ]
        refine held_take (i := 33) (v := ?qv33) rfl (by kernel_rfl) (by kernel_rfl) (by kernel_rfl) (fun _ _ _ h => h) (by rfl) ?qy33 hHeld ?_
        case qy33 => ((intro w _hSw; (try dsimp only at _hSw); go_simp); try (with_reducible rfl))
        try simp only [Act.put, List.setIfInBounds_toArray, List.set_cons_zero, List.set_cons_succ]
        refine held_take (i := 34) (v := ?qv34) rfl (by kernel_rfl) (by kernel_rfl) (by kernel_rfl) (fun _ _ _ h => h) (by rfl) ?qy34 hHeld ?_
        case qy34 => ((intro w _hSw; (try dsimp only at _hSw); go_simp); try (with_reducible rfl))
        try simp only [Act.put, List.setIfInBounds_toArray, List.set_cons_zero, List.set_cons_succ]
        refine held_take (i := 35) (v := ?qv35) rfl (by kernel_rfl) (by kernel_rfl) (by kernel_rfl) (fun _ _ _ h => h) (by rfl) ?qy35 hHeld ?_
        case qy35 => ((intro w _hSw; (try dsimp only at _hSw); go_simp); try (with_reducible rfl))
        try simp only [Act.put, List.setIfInBounds_toArray, List.set_cons_zero, List.set_cons_succ]
        refine held_take (i := 36) (v := ?qv36) rfl (by kernel_rfl) (by kernel_rfl) (by kernel_rfl) (fun _ _ _ h => h) (by rfl) ?qy36 hHeld ?_
        case qy36 => ((intro w _hSw; (try dsimp only at _hSw); go_simp); try (with_reducible rfl))
        try simp only [Act.put, List.setIfInBounds_toArray, List.set_cons_zero, List.set_cons_succ]
        refine held_step (i := 37) rfl (by kernel_rfl) (by rfl) (fun K hK => ?_)
        go_simp
        refine (hclone_nil wh).mono ?_
        rintro e wi ⟨rfl, rfl⟩
        go_wp2_with fail
        have hHeld := HTS.out _ J7.out
        refine hK.out _ _ (HTS.out _ J7.out) ?_
        clear hK K
        try simp only [Act.put, List.setIfInBounds_toArray, List.set_cons_zero, List.set_cons_succ]
        refine held_take (i := 38) (v := ?qv38) rfl (by kernel_rfl) (by kernel_rfl) (by kernel_rfl) (fun _ _ _ h => h) (by rfl) ?qy38 hHeld ?_
        case qy38 => ((intro w _hSw; (try dsimp only at _hSw); go_simp); try (with_reducible rfl))
        try simp only [Act.put, List.setIfInBounds_toArray, List.set_cons_zero, List.set_cons_succ]
        refine held_take (i := 39) (v := ?qv39) rfl (by kernel_rfl) (by kernel_rfl) (by kernel_rfl) (fun _ _ _ h => h) (by rfl) ?qy39 hHeld ?_
        case qy39 => ((intro w _hSw; (try dsimp only at _hSw); go_simp); try (with_reducible rfl))
        try simp only [Act.put, List.setIfInBounds_toArray, List.set_cons_zero, List.set_cons_succ]
        refine held_take (i := 40) (v := ?qv40) rfl (by kernel_rfl) (by kernel_rfl) (by kernel_rfl) (fun _ _ _ h => h) (by rfl) ?qy40 hHeld ?_
        case qy40 => ((intro w _hSw; (try dsimp only at _hSw); go_simp); try (with_reducible rfl))
        try simp only [Act.put, List.setIfInBounds_toArray, List.set_cons_zero, List.set_cons_succ]
        refine held_step (i := 41) rfl (by kernel_rfl) (by rfl) (fun K hK => ?_)
        go_simp
        refine (sure01_any _ (ht.out.1.below (below_then HN.out.2.2.1 HN.out.2.2.1.size J7.out) ht.out.1.lt)).mono ?_
        rintro e wj ⟨rfl, hb⟩
        have J8 := Lib.hid (below_then J7.out J7.out.size hb)
        clear hb
        go_wp2_with fail
        have hHeld := HTS.out _ J8.out
        refine hK.out _ _ (HTS.out _ J8.out) ?_
        clear hK K
        try simp only [Act.put, List.setIfInBounds_toArray, List.set_cons_zero, List.set_cons_succ]
        refine held_take (i := 42) (v := ?qv42) rfl (by kernel_rfl) (by kernel_rfl) (by kernel_rfl) (fun _ _ _ h => h) (by rfl) ?qy42 hHeld ?_
        case qy42 => ((intro w _hSw; (try dsimp only at _hSw); go_simp); try (with_reducible rfl))
        try simp only [Act.put, List.setIfInBounds_toArray, List.set_cons_zero, List.set_cons_succ]
        refine held_take (i := 43) (v := ?qv43) rfl (by kernel_rfl) (by kernel_rfl) (by kernel_rfl) (fun _ _ _ h => h) (by rfl) ?qy43 hHeld ?_
        case qy43 => ((intro w _hSw; (try dsimp only at _hSw); go_simp); try (with_reducible rfl))
        try simp only [Act.put, List.setIfInBounds_toArray, List.set_cons_zero, List.set_cons_succ]
        refine wpAnyH_done (by kernel_rfl) ?_ _
        go_wp2_with fail
        go_ret
        exact ⟨rfl, below_then HN.out.2.2.1 HN.out.2.2.1.size J8.out⟩
      · go_wp2_with fail
        refine (clone_any w2.heap.size hp v (bs.take p) wr HS.out.1).mono ?_
        rintro e w4 ⟨g, u4, rfl, g4, hg, hu, hb4⟩
        have h4 := HS.out.1.below hb4
        have ap : Apart hp v g u4 := ⟨by have := HS.out.1.blk.lt; omega, fun e => by have := (HS.out.1.tail.lt _ e).2; omega, fun e => by have := hu _ e; have := HS.out.1.blk.lt; omega, fun k e e' => by have := hu _ e; have := (HS.out.1.tail.lt _ e').2; omega⟩
        have H4 := Lib.hid (And.intro h4 (And.intro g4 (And.intro ap (And.intro (below_then HS.out.2.1 HS.out.2.1.size hb4) (below_then HS.out.2.2 HS.out.2.2.size hb4)))))
        clear h4 g4 ap hb4 hg hu
        go_wp2_with fail
        refine (twin01_to (cutA A c p 1) (c - p) m (bs.drop p) w4 w4 (by have := HT.out.2.1; have := HM.out; simp; omega) (by have := HM.out; have := HT.out.2.2.1; omega) (rd_from c p (HT.out.2.2.2.1.below H4.out.2.2.2.2) (by have := HP9.out; have := HT.out.2.1; omega) (by rw [HT.out.2.1]; exact HT.out.2.2.2.2.2.2.2.2)) (Below.refl _ _)).mono ?_
        rintro e w5 ⟨A5, c5, rfl, hc5, hr5, hl5, hb5⟩
        have hA5 : ∀ ad, A5 = some ad → ad.block ≠ hp := fun ad e => by have := hl5 ad e; have := H4.out.1.blk.lt; omega
        have H5 := Lib.hid (And.intro hr5 (And.intro hA5 (And.intro (H4.out.1.below hb5) (And.intro (H4.out.2.1.below hb5) (below_then H4.out.2.2.2.1 H4.out.2.2.2.1.size hb5)))))
        clear hc5 hr5 hl5 hb5 hA5 cb
        go_wp2_with fail
        refine (write_w A5 c5 m w2.heap.size hp v (bs.take p) (bs.drop p) w5 w2 (by have := HT.out.2.1; have := HM.out; simp; omega) rfl H5.out.2.2.2.2 H5.out.2.2.1 (by have := HT.out.2.1; have := HT.out.2.2.1; have := HP9.out; simp; omega) H5.out.1 H5.out.2.1 HT2.out).mono ?_
        rintro e w6 ⟨rfl, v6, h6, x6, hb6⟩
        rw [List.take_append_drop] at h6
        obtain ⟨g6, ap6⟩ := H5.out.2.2.2.1.beside x6 H4.out.2.2.1
        have H6 := Lib.hid (And.intro h6 (And.intro g6 (And.intro ap6 hb6)))
        clear h6 x6 g6 ap6 hb6
        have hcv := Lib.run_convert_bytes_const (P := Tryd.prog) w6 22 5 #[Value.int IntKind.u8 111, Value.int IntKind.u8 116, Value.int IntKind.u8 104, Value.int IntKind.u8 101, Value.int IntKind.u8 114] 5 5 Tryd.underlying22 Tryd.underlying5
        go_wp2_with fail
        clear hcv
        have hr7 : Rd (w6.alloc (.cells #[B 111, B 116, B 104, B 101, B 114] 5 (5, 6))) (some ⟨w6.heap.size, 0, none⟩) (([111, 116, 104, 101, 114] : List UInt8).map B) := fun _ => ⟨_, _, rfl, fun j u hu => by rw [World.cell?_alloc_mark, Nat.zero_add]; show (#[B 111, B 116, B 104, B 101, B 114] : Array Value)[j]? = some u; simpa using hu⟩
        have hb7 : Below w6.heap.size w6 (w6.alloc (.cells #[B 111, B 116, B 104, B 101, B 114] 5 (5, 6))) := (Below.refl _ _).alloc (Nat.le_refl _) _
        have hA7 : ∀ ad, (some ⟨w6.heap.size, 0, none⟩ : Option Addr) = some ad → ad.block ≠ g := fun ad e => by injection e with e; subst e; have := H6.out.2.1.blk.lt; show w6.heap.size ≠ g; omega
        refine (write_w _ 5 5 w2.heap.size g u4 (bs.take p) [111, 116, 104, 101, 114] _ w2 rfl rfl (below_then H6.out.2.2.2 H6.out.2.2.2.size hb7) (H6.out.2.1.below hb7) (by have := HT.out.2.1; have := HP9.out; have := HT.out.2.2.2.2.2.2.2.1; simp; omega) hr7 hA7 HT2.out).mono ?_
        rintro e w8 ⟨rfl, v8, _, x8, hb8⟩
        obtain ⟨h8, _⟩ := (H6.out.1.below hb7).beside x8 H6.out.2.2.1.symm
        have H8 := Lib.hid (And.intro h8 hb8)
        clear h8 x8 hb8 hr7 hb7 hA7
        go_wp2_with fail
        refine (wparse_any cso sl o sv kf w8 HCO.out.2 HCO.out.1 HT.out.2.2.2.2.2.2.1).mono ?_
        rintro e w9 ⟨v14e, rfl, hn14, hb9⟩
        have H9 := Lib.hid (And.intro (H8.out.1.below hb9) (And.intro (show N1Is w9 v14e kf from hn14) (below_then H8.out.2 H8.out.2.size hb9)))
        clear hn14 hb9
        go_wp2_with (refine wpList_store_blk rfl 28 (.tmp 13) (.tmp 76) rfl w9.heap.size cso rfl rfl 28 _ (heap_alloc_new w9 _) (Eq.trans (by kernel_rfl) HIO.out) (by rw [hol]; rfl) ho1 ?_; intro w10 hw10 hg10)
        have hb10 : Below w9.heap.size w9 w10 := ((Below.refl w9.heap.size w9).alloc (Nat.le_refl _) _).grown hg10 (by simp) (fun r e => by injection e with e; omega)
        have H10 := Lib.hid (And.intro (H9.out.1.below hb10) (And.intro (H9.out.2.1.below hb10) (And.intro (below_then H9.out.2.2 H9.out.2.2.size hb10) hw10)))
        clear hw10 hg10 hb10
        generalize w9.heap.size = g13 at *
        refine (rparse_any cso sl o sv kf w10 HCO.out.2 HCO.out.1 HT.out.2.2.2.2.2.2.1).mono ?_
        rintro e w11 ⟨rfl, hb11⟩
        have H11 := Lib.hid (And.intro (H10.out.1.below hb11) (And.intro (H10.out.2.1.below hb11) (And.intro (below_then H10.out.2.2.1 H10.out.2.2.1.size hb11) (H10.out.2.2.2.below hb11))))
        clear hb11
        go_wp2_with (first
          | (refine wpList_store_blk rfl 28 (.tmp 15) (.tmp 81) rfl w11.heap.size cso rfl rfl 28 _ (heap_alloc_new w11 _) (Eq.trans (by kernel_rfl) HIO.out) (by rw [hol]; rfl) ho1 ?_; intro w14 hw14 hg14)
          | (go_at_call 14; refine (hwrite_nil A n c _).mono ?_; rintro e w15 ⟨rfl, rfl⟩))
        have hb14 : Below w11.heap.size w11 w14 := ((Below.refl w11.heap.size w11).alloc (Nat.le_refl _) _).grown hg14 (by simp) (fun r e => by injection e with e; omega)
        have HN := Lib.hid (show HashIs w14 w2.heap.size hp v6 bs ∧ N1Is w14 v14e kf ∧ Below w.heap.size w w14 ∧ True from
          ⟨H11.out.1.below hb14, H11.out.2.1.below hb14, below_then H2.out.1 H2.out.1.size (below_then H11.out.2.2.1 H11.out.2.2.1.size hb14), trivial⟩)
        have HTS : Hid (∀ w', Below w14.heap.size w14 w' → w'.rangeAt g7 0 csw ∧ w'.rangeAt g13 0 cso ∧ w'.rangeAt w11.heap.size 0 cso) := by
          refine Lib.hid (fun w' hw' => ⟨fun j u hj => ?_, fun j u hj => ?_, fun j u hj => ?_⟩)
          · rw [Nat.zero_add]; exact (H2.out.2.below (below_then H11.out.2.2.1 H11.out.2.2.1.size (below_then hb14 hb14.size hw'))).cellD j u hj
          · rw [Nat.zero_add]; exact (H11.out.2.2.2.below (below_then hb14 hb14.size hw')).cellD j u hj
          · rw [Nat.zero_add]; exact (hw14.below hw').cellD j u hj
        clear hw14 hg14 hb14
        generalize w11.heap.size = g15 at *
        go_wp2_with fail
        refine wp_region_held_drew (S := (fun w' => w'.rangeAt g7 0 csw ∧ w'.rangeAt g13 0 cso ∧ w'.rangeAt g15 0 cso)) (by kernel_rfl) ?rs0 (fun hHeld => ?_)
        case rs0 => exact HTS.out _ (refl_drewN _ 1)
        refine held_take (i := 0) (v := ?rv0) rfl (by kernel_rfl) (by kernel_rfl) (by kernel_rfl) (fun _ _ _ h => h) (by rfl) ?ry0 hHeld ?_
        case ry0 => ((intro w _hSw; (try dsimp only at _hSw); go_simp); try (with_reducible rfl))
        try simp only [Act.put, List.setIfInBounds_toArray, List.set_cons_zero, List.set_cons_succ]
        refine held_row (i := 3) rfl (by kernel_rfl) (by kernel_rfl) (by kernel_rfl) _ _ rfl _ _ rfl ?rC3 ?rD3 (fun _ _ _ h => h) (by rfl) ?ra3 ?rb3 ?rc3 ?rd3 hHeld ?_
        case ra3 => (intro w hSw; (try dsimp only at hSw); go_split_ands; assumption)
        case rb3 => assumption
        case rc3 => rfl
        case rd3 => first | assumption | (simp only [*]; done)
        try simp only [Act.put, List.setIfInBounds_toArray, List.set_cons_zero, List.set_cons_succ]
        refine held_step (i := 1) rfl (by kernel_rfl) (by rfl) (fun K hK => ?_)
        go_simp
        refine (twin01_to A c n bs _ w HT.out.2.1 HT.out.2.2.1 HT.out.2.2.2.1 (below_then HN.out.2.2.1 HN.out.2.2.1.size (refl_drewN _ 1))).mono ?_
        rintro e wa ⟨At, ct, rfl, hct, hrt, _, hb⟩
        have J1 := Lib.hid (And.intro (below_then (refl_drewN w14 1) (Nat.le_refl _) hb) (And.intro hct hrt))
        clear hb hct hrt
        go_wp2_with fail
        have hHeld := HTS.out _ J1.out.1
        refine hK.out _ _ (HTS.out _ J1.out.1) ?_
        clear hK K
        try simp only [Act.put, List.setIfInBounds_toArray, List.set_cons_zero, List.set_cons_succ]
        refine held_step (i := 2) rfl (by kernel_rfl) (by rfl) (fun K hK => ?_)
        go_simp
        refine (wsum1_to At ct n bs wa w HT.out.2.1.symm (below_then HN.out.2.2.1 HN.out.2.2.1.size J1.out.1) J1.out.2.1 (by have := HT.out.2.2.1; omega) J1.out.2.2 ht.out.1).mono ?_
        rintro e wb ⟨rfl, hb⟩
        rw [show HV (sumF bs) = .agg csw.toArray by rw [HCW.out]]
        have J2 := Lib.hid (below_then J1.out.1 J1.out.1.size hb)
        clear hb
        go_wp2_with fail
        have hHeld := HTS.out _ J2.out
        refine hK.out _ _ (HTS.out _ J2.out) ?_
        clear hK K
        try simp only [Act.put, List.setIfInBounds_toArray, List.set_cons_zero, List.set_cons_succ]
        refine held_take (i := 4) (v := ?rv4) rfl (by kernel_rfl) (by kernel_rfl) (by kernel_rfl) (fun _ _ _ h => h) (by rfl) ?ry4 hHeld ?_
        case ry4 => ((intro w _hSw; (try dsimp only at _hSw); go_simp); try (with_reducible rfl))
        try simp only [Act.put, List.setIfInBounds_toArray, List.set_cons_zero, List.set_cons_succ]
        refine held_take (i := 5) (v := ?rv5) rfl (by kernel_rfl) (by kernel_rfl) (by kernel_rfl) (fun _ _ _ h => h) (by rfl) ?ry5 hHeld ?_
        case ry5 => ((intro w _hSw; (try dsimp only at _hSw); go_simp); try (with_reducible rfl))
        try simp only [Act.put, List.setIfInBounds_toArray, List.set_cons_zero, List.set_cons_succ]
        refine held_take (i := 6) (v := ?rv6) rfl (by kernel_rfl) (by kernel_rfl) (by kernel_rfl) (fun _ _ _ h => h) (by rfl) ?ry6 hHeld ?_
        case ry6 => ((intro w _hSw; (try dsimp only at _hSw); go_simp); try (with_reducible rfl))
        try simp only [Act.put, List.setIfInBounds_toArray, List.set_cons_zero, List.set_cons_succ]
        refine held_row (i := 8) rfl (by kernel_rfl) (by kernel_rfl) (by kernel_rfl) _ _ rfl _ _ rfl ?rC8 ?rD8 (fun _ _ _ h => h) (by rfl) ?ra8 ?rb8 ?rc8 ?rd8 hHeld ?_
        case ra8 => (intro w hSw; (try dsimp only at hSw); go_split_ands; assumption)
        case rb8 => assumption
        case rc8 => rfl
        case rd8 => first | assumption | (simp only [*]; done)
        try simp only [Act.put, List.setIfInBounds_toArray, List.set_cons_zero, List.set_cons_succ]
        refine held_step (i := 7) rfl (by kernel_rfl) (by rfl) (fun K hK => ?_)
        go_simp
        refine (hsum_any _ hp v6 bs wb (HN.out.1.below J2.out) (ht.out.1.below (below_then HN.out.2.2.1 HN.out.2.2.1.size J2.out) ht.out.1.lt)).mono ?_
        rintro e wd ⟨rfl, hb⟩
        rw [show HV (sumF bs) = .agg csw.toArray by rw [HCW.out]]
        have J3 := Lib.hid (below_then J2.out J2.out.size hb)
        clear hb
        go_wp2_with fail
        have hHeld := HTS.out _ J3.out
        refine hK.out _ _ (HTS.out _ J3.out) ?_
        clear hK K
        try simp only [Act.put, List.setIfInBounds_toArray, List.set_cons_zero, List.set_cons_succ]
        refine held_take (i := 9) (v := ?rv9) rfl (by kernel_rfl) (by kernel_rfl) (by kernel_rfl) (fun _ _ _ h => h) (by rfl) ?ry9 hHeld ?_
        case ry9 => ((intro w _hSw; (try dsimp only at _hSw); go_simp); try (with_reducible rfl))
        try simp only [Act.put, List.setIfInBounds_toArray, List.set_cons_zero, List.set_cons_succ]
        refine held_take (i := 10) (v := ?rv10) rfl (by kernel_rfl) (by kernel_rfl) (by kernel_rfl) (fun _ _ _ h => h) (by rfl) ?ry10 hHeld ?_
        case ry10 => ((intro w _hSw; (try dsimp only at _hSw); go_simp); try (with_reducible rfl))
        try simp only [Act.put, List.setIfInBounds_toArray, List.set_cons_zero, List.set_cons_succ]
        refine held_take (i := 11) (v := ?rv11) rfl (by kernel_rfl) (by kernel_rfl) (by kernel_rfl) (fun _ _ _ h => h) (by rfl) ?ry11 hHeld ?_
        case ry11 => ((intro w _hSw; (try dsimp only at _hSw); go_simp); try (with_reducible rfl))
        try simp only [Act.put, List.setIfInBounds_toArray, List.set_cons_zero, List.set_cons_succ]
        refine held_row (i := 12) rfl (by kernel_rfl) (by kernel_rfl) (by kernel_rfl) _ _ rfl _ _ rfl ?rC12 ?rD12 (fun _ _ _ h => h) (by rfl) ?ra12 ?rb12 ?rc12 ?rd12 hHeld ?_
        case ra12 => (intro w hSw; (try dsimp only at hSw); go_split_ands; assumption)
        case rb12 => assumption
        case rc12 => rfl
        case rd12 => first | assumption | (simp only [*]; done)
        try simp only [Act.put, List.setIfInBounds_toArray, List.set_cons_zero, List.set_cons_succ]
        refine held_row (i := 14) rfl (by kernel_rfl) (by kernel_rfl) (by kernel_rfl) _ _ rfl _ _ rfl ?rC14 ?rD14 (fun _ _ _ h => h) (by rfl) ?ra14 ?rb14 ?rc14 ?rd14 hHeld ?_
        case ra14 => (intro w hSw; (try dsimp only at hSw); go_split_ands; assumption)
        case rb14 => assumption
        case rc14 => rfl
        case rd14 => first | assumption | (simp only [*]; done)
        try simp only [Act.put, List.setIfInBounds_toArray, List.set_cons_zero, List.set_cons_succ]
        refine held_step (i := 13) rfl (by kernel_rfl) (by rfl) (fun K hK => ?_)
        go_simp
        refine (text_st csw (sumF bs) st wd HCW.out (sumF_length _) HST.out).mono ?_
        rintro e we ⟨rfl, hb⟩
        have J4 := Lib.hid (below_then J3.out J3.out.size hb)
        clear hb
        go_wp2_with fail
        have hHeld := HTS.out _ J4.out
        refine hK.out _ _ (HTS.out _ J4.out) ?_
        clear hK K
        try simp only [Act.put, List.setIfInBounds_toArray, List.set_cons_zero, List.set_cons_succ]
        refine held_step (i := 15) rfl (by kernel_rfl) (by rfl) (fun K hK => ?_)
        go_simp
        refine (rtext_st csw (sumF bs) st we HCW.out (sumF_length _) HST.out).mono ?_
        rintro e wf ⟨rfl, hb⟩
        have J5 := Lib.hid (below_then J4.out J4.out.size hb)
        clear hb
        go_wp2_with fail
        have hHeld := HTS.out _ J5.out
        refine hK.out _ _ (HTS.out _ J5.out) ?_
        clear hK K
        try simp only [Act.put, List.setIfInBounds_toArray, List.set_cons_zero, List.set_cons_succ]
        refine held_take (i := 16) (v := ?rv16) rfl (by kernel_rfl) (by kernel_rfl) (by kernel_rfl) (fun _ _ _ h => h) (by rfl) ?ry16 hHeld ?_
        case ry16 => ((intro w _hSw; (try dsimp only at _hSw); go_simp); try (with_reducible rfl))
        try simp only [Act.put, List.setIfInBounds_toArray, List.set_cons_zero, List.set_cons_succ]
        refine held_take (i := 17) (v := ?rv17) rfl (by kernel_rfl) (by kernel_rfl) (by kernel_rfl) (fun _ _ _ h => h) (by rfl) ?ry17 hHeld ?_
        case ry17 => ((intro w _hSw; (try dsimp only at _hSw); go_simp); try (with_reducible rfl))
        try simp only [Act.put, List.setIfInBounds_toArray, List.set_cons_zero, List.set_cons_succ]
        refine held_take (i := 18) (v := ?rv18) rfl (by kernel_rfl) (by kernel_rfl) (by kernel_rfl) (fun _ _ _ h => h) (by rfl) ?ry18 hHeld ?_
        case ry18 => ((intro w _hSw; (try dsimp only at _hSw); go_simp); try (with_reducible rfl))
        try simp only [Act.put, List.setIfInBounds_toArray, List.set_cons_zero, List.set_cons_succ]
        refine held_row (i := 19) rfl (by kernel_rfl) (by kernel_rfl) (by kernel_rfl) _ _ rfl _ _ rfl ?rC19 ?rD19 (fun _ _ _ h => h) (by rfl) ?ra19 ?rb19 ?rc19 ?rd19 hHeld ?_
        case ra19 => (intro w hSw; (try dsimp only at hSw); go_split_ands; assumption)
        case rb19 => assumption
        case rc19 => rfl
        case rd19 => first | assumption | (simp only [*]; done)
        try simp only [Act.put, List.setIfInBounds_toArray, List.set_cons_zero, List.set_cons_succ]
        refine held_row (i := 20) rfl (by kernel_rfl) (by kernel_rfl) (by kernel_rfl) _ _ rfl _ _ rfl ?rC20 ?rD20 (fun _ _ _ h => h) (by rfl) ?ra20 ?rb20 ?rc20 ?rd20 hHeld ?_
        case ra20 => (intro w hSw; (try dsimp only at hSw); go_split_ands; assumption)
        case rb20 => assumption
        case rc20 => rfl
        case rd20 => first | assumption | (simp only [*]; done)
        try simp only [Act.put, List.setIfInBounds_toArray, List.set_cons_zero, List.set_cons_succ]
        refine held_take (i := 21) (v := ?rv21) rfl (by kernel_rfl) (by kernel_rfl) (by kernel_rfl) (fun _ _ _ h => h) (by rfl) ?ry21 hHeld ?_
        case ry21 => ((intro w _hSw; (try dsimp only at _hSw); go_simp); try (with_reducible rfl))
        try simp only [Act.put, List.setIfInBounds_toArray, List.set_cons_zero, List.set_cons_succ]
        refine held_take (i := 22) (v := ?rv22) rfl (by kernel_rfl) (by kernel_rfl) (by kernel_rfl) (fun _ _ _ h => h) (by rfl) ?ry22 hHeld ?_
        case ry22 => ((intro w _hSw; (try dsimp only at _hSw); go_simp); try (with_reducible rfl))
        try simp only [Act.put, List.setIfInBounds_toArray, List.set_cons_zero, List.set_cons_succ]
        refine held_take (i := 23) (v := ?rv23) rfl (by kernel_rfl) (by kernel_rfl) (by kernel_rfl) (fun _ _ _ h => h) (by rfl) ?ry23 hHeld ?_
        case ry23 => ((intro w _hSw; (try dsimp only at _hSw); go_simp); try (with_reducible rfl))
        try simp only [Act.put, List.setIfInBounds_toArray, List.set_cons_zero, List.set_cons_succ]
        refine held_take (i := 24) (v := ?rv24) rfl (by kernel_rfl) (by kernel_rfl) (by kernel_rfl) (fun _ _ _ h => h) (by rfl) ?ry24 hHeld ?_
        case ry24 => ((intro w _hSw; (try dsimp only at _hSw); go_simp); try (with_reducible rfl))
        try simp only [Act.put, List.setIfInBounds_toArray, List.set_cons_zero, List.set_cons_succ]
        refine held_take (i := 26) (v := ?rv26) rfl (by kernel_rfl) (by kernel_rfl) (by kernel_rfl) (fun _ _ _ h => h) (by rfl) ?ry26 hHeld ?_
        case ry26 => ((intro w _hSw; (try dsimp only at _hSw); go_simp); try (with_reducible rfl))
        try simp only [Act.put, List.setIfInBounds_toArray, List.set_cons_zero, List.set_cons_succ]
        refine held_step (i := 25) rfl (by kernel_rfl) (by rfl) (fun K hK => ?_)
        go_simp
        refine (num01_all v14e kf _ (HN.out.2.1.below J5.out) (ht.out.2.below (below_then HN.out.2.2.1 HN.out.2.2.1.size J5.out) ht.out.2.lt)).mono ?_
        rintro e wg ⟨rfl, hb⟩
        have J6 := Lib.hid (below_then J5.out J5.out.size hb)
        clear hb
        go_wp2_with fail
        have hHeld := HTS.out _ J6.out
        refine hK.out _ _ (HTS.out _ J6.out) ?_
        clear hK K
        try simp only [Act.put, List.setIfInBounds_toArray, List.set_cons_zero, List.set_cons_succ]
        refine held_take (i := 27) (v := ?rv27) rfl (by kernel_rfl) (by kernel_rfl) (by kernel_rfl) (fun _ _ _ h => h) (by rfl) ?ry27 hHeld ?_
        case ry27 => ((intro w _hSw; (try dsimp only at _hSw); go_simp); try (with_reducible rfl))
        try simp only [Act.put, List.setIfInBounds_toArray, List.set_cons_zero, List.set_cons_succ]
        refine held_take (i := 28) (v := ?rv28) rfl (by kernel_rfl) (by kernel_rfl) (by kernel_rfl) (fun _ _ _ h => h) (by rfl) ?ry28 hHeld ?_
        case ry28 => ((intro w _hSw; (try dsimp only at _hSw); go_simp); try (with_reducible rfl))
        try simp only [Act.put, List.setIfInBounds_toArray, List.set_cons_zero, List.set_cons_succ]
        refine held_take (i := 29) (v := ?rv29) rfl (by kernel_rfl) (by kernel_rfl) (by kernel_rfl) (fun _ _ _ h => h) (by rfl) ?ry29 hHeld ?_
        case ry29 => ((intro w _hSw; (try dsimp only at _hSw); go_simp); try (with_reducible rfl))
        try simp only [Act.put, List.setIfInBounds_toArray, List.set_cons_zero, List.set_cons_succ]
        refine held_take (i := 30) (v := ?rv30) rfl (by kernel_rfl) (by kernel_rfl) (by kernel_rfl) (fun _ _ _ h => h) (by rfl) ?ry30 hHeld ?_
        case ry30 => ((intro w _hSw; (try dsimp only at _hSw); go_simp); try (with_reducible rfl))
        try simp only [Act.put, List.setIfInBounds_toArray, List.set_cons_zero, List.set_cons_succ]
        refine held_take (i := 32) (v := (.agg csz.toArray)) rfl (by kernel_rfl) (by kernel_rfl) (by kernel_rfl) (fun _ _ _ h => h) (by rfl) ?ry32 hHeld ?_
        case ry32 => (intro w _; go_simp; rw [HCZ.out]; rfl)
        try simp only [Act.put, List.setIfInBounds_toArray, List.set_cons_zero, List.set_cons_succ]
        refine held_step (i := 31) rfl (by kernel_rfl) (by rfl) (fun K hK => ?_)
        go_simp
        refine (hsum_nil csz wg HCZ.out).mono ?_
        rintro e wh ⟨rfl, hb⟩
        have J7 := Lib.hid (below_then J6.out J6.out.size hb)
        clear hb
        go_wp2_with fail
        have hHeld := HTS.out _ J7.out
        refine hK.out _ _ (HTS.out _ J7.out) ?_
        clear hK K
        try simp only [Act.put, List.setIfInBounds_toArray, List.set_cons_zero, List.set_cons_succ]
        refine held_take (i := 33) (v := ?rv33) rfl (by kernel_rfl) (by kernel_rfl) (by kernel_rfl) (fun _ _ _ h => h) (by rfl) ?ry33 hHeld ?_
        case ry33 => ((intro w _hSw; (try dsimp only at _hSw); go_simp); try (with_reducible rfl))
        try simp only [Act.put, List.setIfInBounds_toArray, List.set_cons_zero, List.set_cons_succ]
        refine held_take (i := 34) (v := ?rv34) rfl (by kernel_rfl) (by kernel_rfl) (by kernel_rfl) (fun _ _ _ h => h) (by rfl) ?ry34 hHeld ?_
        case ry34 => ((intro w _hSw; (try dsimp only at _hSw); go_simp); try (with_reducible rfl))
        try simp only [Act.put, List.setIfInBounds_toArray, List.set_cons_zero, List.set_cons_succ]
        refine held_take (i := 35) (v := ?rv35) rfl (by kernel_rfl) (by kernel_rfl) (by kernel_rfl) (fun _ _ _ h => h) (by rfl) ?ry35 hHeld ?_
        case ry35 => ((intro w _hSw; (try dsimp only at _hSw); go_simp); try (with_reducible rfl))
        try simp only [Act.put, List.setIfInBounds_toArray, List.set_cons_zero, List.set_cons_succ]
        refine held_take (i := 36) (v := ?rv36) rfl (by kernel_rfl) (by kernel_rfl) (by kernel_rfl) (fun _ _ _ h => h) (by rfl) ?ry36 hHeld ?_
        case ry36 => ((intro w _hSw; (try dsimp only at _hSw); go_simp); try (with_reducible rfl))
        try simp only [Act.put, List.setIfInBounds_toArray, List.set_cons_zero, List.set_cons_succ]
        refine held_step (i := 37) rfl (by kernel_rfl) (by rfl) (fun K hK => ?_)
        go_simp
        refine (hclone_nil wh).mono ?_
        rintro e wi ⟨rfl, rfl⟩
        go_wp2_with fail
        have hHeld := HTS.out _ J7.out
        refine hK.out _ _ (HTS.out _ J7.out) ?_
        clear hK K
        try simp only [Act.put, List.setIfInBounds_toArray, List.set_cons_zero, List.set_cons_succ]
        refine held_take (i := 38) (v := ?rv38) rfl (by kernel_rfl) (by kernel_rfl) (by kernel_rfl) (fun _ _ _ h => h) (by rfl) ?ry38 hHeld ?_
        case ry38 => ((intro w _hSw; (try dsimp only at _hSw); go_simp); try (with_reducible rfl))
        try simp only [Act.put, List.setIfInBounds_toArray, List.set_cons_zero, List.set_cons_succ]
        refine held_take (i := 39) (v := ?rv39) rfl (by kernel_rfl) (by kernel_rfl) (by kernel_rfl) (fun _ _ _ h => h) (by rfl) ?ry39 hHeld ?_
        case ry39 => ((intro w _hSw; (try dsimp only at _hSw); go_simp); try (with_reducible rfl))
        try simp only [Act.put, List.setIfInBounds_toArray, List.set_cons_zero, List.set_cons_succ]
        refine held_take (i := 40) (v := ?rv40) rfl (by kernel_rfl) (by kernel_rfl) (by kernel_rfl) (fun _ _ _ h => h) (by rfl) ?ry40 hHeld ?_
        case ry40 => ((intro w _hSw; (try dsimp only at _hSw); go_simp); try (with_reducible rfl))
        try simp only [Act.put, List.setIfInBounds_toArray, List.set_cons_zero, List.set_cons_succ]
        refine held_step (i := 41) rfl (by kernel_rfl) (by rfl) (fun K hK => ?_)
        go_simp
        refine (sure01_any _ (ht.out.1.below (below_then HN.out.2.2.1 HN.out.2.2.1.size J7.out) ht.out.1.lt)).mono ?_
        rintro e wj ⟨rfl, hb⟩
        have J8 := Lib.hid (below_then J7.out J7.out.size hb)
        clear hb
        go_wp2_with fail
        have hHeld := HTS.out _ J8.out
        refine hK.out _ _ (HTS.out _ J8.out) ?_
        clear hK K
        try simp only [Act.put, List.setIfInBounds_toArray, List.set_cons_zero, List.set_cons_succ]
        refine held_take (i := 42) (v := ?rv42) rfl (by kernel_rfl) (by kernel_rfl) (by kernel_rfl) (fun _ _ _ h => h) (by rfl) ?ry42 hHeld ?_
        case ry42 => ((intro w _hSw; (try dsimp only at _hSw); go_simp); try (with_reducible rfl))
        try simp only [Act.put, List.setIfInBounds_toArray, List.set_cons_zero, List.set_cons_succ]
        refine held_take (i := 43) (v := ?rv43) rfl (by kernel_rfl) (by kernel_rfl) (by kernel_rfl) (fun _ _ _ h => h) (by rfl) ?ry43 hHeld ?_
        case ry43 => ((intro w _hSw; (try dsimp only at _hSw); go_simp); try (with_reducible rfl))
        try simp only [Act.put, List.setIfInBounds_toArray, List.set_cons_zero, List.set_cons_succ]
        refine wpAnyH_done (by kernel_rfl) ?_ _
        go_wp2_with fail
        go_ret
        exact ⟨rfl, below_then HN.out.2.2.1 HN.out.2.2.1.size J8.out⟩
#print axioms sums_any
end Go.Proofs.YtcgdojdiihdkeaaDoor
