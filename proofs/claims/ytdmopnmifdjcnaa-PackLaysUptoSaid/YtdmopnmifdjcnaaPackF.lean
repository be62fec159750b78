/- isthmuslaw02.lay: laid in both. -/
import Derived.Test.YtdmopnmifdjcnaaPackE
import Derived.Test.YtdmopnmifdjcnaaPackQ
import Derived.Deep.Cut
import Derived.Laws.OwnMore
namespace Go.Proofs.Ytdmopnmifdjcnaa
open Go Go.RowKit Go.Isth

def LayPost (b : Nat) (bs cs xs : List UInt8) (base : Nat) (w : World) (e : Ending) (w' : World) : Prop :=
  ∃ (enc : List UInt8) (v' vb' : Value), e = .returned vb' ∧ enc.length ≤ xs.length + 42 ∧ WIs w' base b v' (bs ++ enc) ∧ w'.ownsRow base 5 1 vb' (cs ++ enc).length ((cs ++ enc).map B) ∧ (vb'.ownBlock = none ∨ vb'.ownBlock ≠ v'.ownBlock) ∧ Below base w w'

theorem lay_join2 {b : Nat} {bs cs xs enc : List UInt8} {base : Nat} {w w2 w3 : World} {v' vb' : Value} (hW2 : WIs w2 base b v' (bs ++ enc)) (hl : enc.length ≤ xs.length + 42)
    (h02 : Below base w w2) (hb : Below w2.heap.size w2 w3) (ho : w3.ownsRow w2.heap.size 5 1 vb' (cs ++ enc).length ((cs ++ enc).map B)) :
    LayPost b bs cs xs base w (.returned vb') w3 := by
  refine ⟨enc, v', vb', rfl, hl, hW2.below hb, own_mono ho hW2.small, ?_, h02.trans (hb.mono hW2.small)⟩
  rcases h : vb'.ownBlock with _ | k
  · exact .inl rfl
  · refine .inr fun e => ?_
    have h1 := (ho.lt k h).1
    have h2 := (hW2.own.lt k e.symm).2
    omega
/-- What is laid by the writer, then by the document's answer. -/
theorem lay_join {b : Nat} {bs cs xs enc : List UInt8} {base : Nat} {w w1 w2 w3 : World} {v v' vb' : Value} (hW : WIs w1 base b v bs) (hx : WExt w1 w2 b v v') (hW2 : WIs w2 base b v' (bs ++ enc)) (hl : enc.length ≤ xs.length + 42)
    (h01 : Below base w w1) (hb : Below w2.heap.size w2 w3) (ho : w3.ownsRow w2.heap.size 5 1 vb' (cs ++ enc).length ((cs ++ enc).map B)) :
    LayPost b bs cs xs base w (.returned vb') w3 :=
  lay_join2 hW2 hl (h01.trans (hx.below hW.at_ hW.small (fun k e => (hW.own.lt k e).1))) hb ho

def MineInv (w0 w2 : World) (vm : Value) (n : Nat) (i : Value) (wr : World) : Prop :=
  ∃ (k : Nat) (ys : List Value), i = .int .i64 k ∧ k ≤ n ∧ ys.length = n ∧ wr.ownsRow w0.heap.size 5 1 vm n ys ∧ w2.grownBy wr vm.ownBlock

theorem after_w {tT : TypeId} {b p : Nat} {bs cs xs hs : List UInt8} {base : Nat} {w1 w2 : World} {v v' vb : Value} {A : Option Addr} {k n : Int} {sl : Value} (hW : WIs w1 base b v bs) (hx : WExt w1 w2 b v v') (hT : ThingAt tT w1 p k n sl hs) (hp : b < p) (hvp : ∀ k, v.ownBlock = some k → k < p)
    (hvb : w1.ownsRow base 5 1 vb cs.length (cs.map B)) (hap : vb.ownBlock = none ∨ vb.ownBlock ≠ v.ownBlock) (hr : Rd w1 A (xs.map B)) (hA : ∀ ad, A = some ad → 0 < xs.length → ad.block < base) :
    ThingAt tT w2 p k n sl hs ∧ w2.ownsRow base 5 1 vb cs.length (cs.map B) ∧ Rd w2 A (xs.map B) := by
  refine ⟨hx.thing hT (by omega) (fun e => by have := hvp _ e; omega), hx.own (by decide) hW hvb hap, fun hp => (hx.rd hr (fun ad e => ?_)) hp⟩
  have h1 := hA ad e (by simpa using hp)
  have h2 := hW.at_
  exact ⟨by omega, fun e' => by have := (hW.own.lt _ e').1; omega⟩

set_option maxRecDepth 100000 in
set_option maxHeartbeats 2000000 in
theorem lay_any (b : Nat) (v vb : Value) (bs cs xs hs : List UInt8) (k n : Int) (A : Option Addr) (c base : Nat) (w : World) (hW : WIs w base b v bs) (hvb : w.ownsRow base 5 1 vb cs.length (cs.map B)) (hap : vb.ownBlock = none ∨ vb.ownBlock ≠ v.ownBlock)
    (hr : Rd w A (xs.map B)) (hA : ∀ ad, A = some ad → 0 < xs.length → ad.block < base) (hxs : xs.length ≤ 1048576) (hh : hs.length = 32) (h0 : -9223372036854775808 ≤ n) (h1 : n < 9223372036854775808) (hm : bs.length ≤ 1099511627776) (hmc : cs.length ≤ 1099511627776) :
    Calls Try.prog 21 #[Ptr b, vb, .agg (thingCells k n (.slice A xs.length c) hs).toArray] w (LayPost b bs cs xs base w) := by
  have HM := Lib.hid (And.intro hm (And.intro hmc hxs))
  have HH := Lib.hid hh
  have HNB := Lib.hid (And.intro h0 h1)
  have HA := Lib.hid hA
  clear hm hmc hxs hh h0 h1 hA
  go_enter Try.func21, Try.ntmps21
  go_upto_region 1 with fail
  have hb0 : Below w.heap.size w (w.alloc (.cells (thingCells k n (.slice A xs.length c) hs).toArray 53)) := (Below.refl _ _).alloc (Nat.le_refl _) _
  have hT0 : ThingAt 53 (w.alloc (.cells (thingCells k n (.slice A xs.length c) hs).toArray 53)) w.heap.size k n (.slice A xs.length c) hs := ⟨heap_alloc_new w _⟩
  have hr0 := hr.below hb0
  generalize hw0 : w.alloc (.cells (thingCells k n (.slice A xs.length c) hs).toArray 53) = w0 at *
  clear hw0
  obtain ⟨q0, q1, q2, _⟩ := hT0.cells
  have HT0 := Lib.hid hT0
  have HB0 := Lib.hid hb0
  have HW := Lib.hid hW
  have HVB := Lib.hid (And.intro hvb hap)
  have HR := Lib.hid hr
  clear hT0 hb0 hW hvb hap hr
  go_wp2_with (at_builtin; refine wpList_app tBp rfl _ _ rfl w0.heap.size _ 0 [] rfl (World.ownsRow_nil _ _ _ _) _ xs.length _ _ rfl hr0 (by simp) one_bytes ?c2 ?c3 (Nat.le_refl _) ?_)
  case c2 => have := HM.out; unfold maxLen; omega
  case c3 => have := HM.out; omega
  intro vm w1 hom hxm
  have hb1 : Below w0.heap.size w0 w1 := hxm.below (Nat.le_refl _) (fun k e => by cases e)
  have hT1 := HT0.out.below hb1
  obtain ⟨p0, p1, p2, p3⟩ := hT1.cells
  have hb01 := below_trans HB0.out hb1
  have hW1 := HW.out.below hb01
  have hvb1 := own_below HVB.out.1 hb01
  have hrc := hr0.below hb1
  have HT1 := Lib.hid hT1
  have HB1 := Lib.hid (And.intro hb1 hb01)
  have HW1 := Lib.hid hW1
  have HVB1 := Lib.hid hvb1
  have HRC := Lib.hid hrc
  have HP3 := Lib.hid p3
  have HOM := Lib.hid hom
  clear q0 q1 q2 hr0 hT1 hb1 hb01 hW1 hvb1 hrc p3 hxm
  obtain ⟨j, hj, hje⟩ := umod k 6 (by omega) (by omega)
  rw [wrap64] at hje
  rw [← IntKind.wrap_i64] at hje
  have hB01 : Below base w w1 := HB1.out.2.mono HW.out.small
  have HB01 := Lib.hid hB01
  clear hB01
  obtain ⟨Avb, cvb, evb, _, _, _⟩ := own_slice HVB1.out
  subst evb
  have hbp : b < w.heap.size ∧ ∀ k, v.ownBlock = some k → k < w.heap.size := ⟨HW.out.lt, fun k e => (HW.out.own.lt k e).2⟩
  have HBP := Lib.hid hbp
  have hn64 : ∃ m : Nat, m < 18446744073709551616 ∧ IntKind.u64.wrap n = (m : Int) := ⟨(IntKind.u64.wrap n).toNat, by
    simp only [IntKind.wrap, IntKind.bits, IntKind.signed, Bool.false_and, Bool.false_eq_true, if_false]
    omega⟩
  obtain ⟨m, hm64, hmw⟩ := hn64
  have HMW := Lib.hid hmw
  have HM64 := Lib.hid hm64
  have HVM := Lib.hid (varint_len10 m hm64)
  have HZ := Lib.hid (zig_lt HNB.out.1 HNB.out.2)
  have HVZ := Lib.hid (varint_len10 (zig n) (zig_lt HNB.out.1 HNB.out.2))
  have HVX := Lib.hid (varint_len10 xs.length (by have := HM.out; omega))
  clear hmw hm64 hbp
  have hj' : j = 0 ∨ j = 1 ∨ j = 2 ∨ j = 3 ∨ j = 4 ∨ j = 5 := by omega
  rcases hj' with rfl | rfl | rfl | rfl | rfl | rfl
  · go_wp2_with fail
    rw [HMW.out]
    refine (uint_any m b v bs base w1 HM64.out HW1.out (by have := HM.out; omega)).mono ?_
    rintro e w2 ⟨rfl, v2, hw2, hx2⟩
    obtain ⟨hT2, hvb2, hr2⟩ := after_w HW1.out hx2 HT1.out HBP.out.1 HBP.out.2 HVB1.out HVB.out.2 HRC.out HA.out
    obtain ⟨q0, q1, q2, _⟩ := hT2.cells
    obtain ⟨Ab, cb, eb, _, hrb, _⟩ := own_slice hvb2
    injection eb with eb1 _ eb2
    subst eb1
    subst eb2
    have HW2 := Lib.hid hw2
    have HX2 := Lib.hid hx2
    clear hT2 hvb2 hr2 hw2 hx2 p0 p1 p2
    go_wp2_with fail
    rw [HMW.out]
    refine (refUint_any _ _ cs m w2 HM64.out hrb (by have := HM.out; omega)).mono ?_
    rintro e w3 ⟨v3, rfl, ho3, hb3⟩
    go_wp2
    go_ret
    exact lay_join HW1.out HX2.out HW2.out (by have := HVM.out; omega) HB01.out hb3 ho3
  · go_wp2_with fail
    refine (int_any n b v bs base w1 HNB.out.1 HNB.out.2 HW1.out (by have := HM.out; omega)).mono ?_
    rintro e w2 ⟨rfl, v2, hw2, hx2⟩
    obtain ⟨hT2, hvb2, hr2⟩ := after_w HW1.out hx2 HT1.out HBP.out.1 HBP.out.2 HVB1.out HVB.out.2 HRC.out HA.out
    obtain ⟨q0, q1, q2, _⟩ := hT2.cells
    obtain ⟨Ab, cb, eb, _, hrb, _⟩ := own_slice hvb2
    injection eb with eb1 _ eb2
    subst eb1
    subst eb2
    have HW2 := Lib.hid hw2
    have HX2 := Lib.hid hx2
    clear hT2 hvb2 hr2 hw2 hx2 p0 p1 p2
    go_wp2_with fail
    refine (refInt_any _ _ cs n w2 HNB.out.1 HNB.out.2 hrb (by have := HM.out; omega)).mono ?_
    rintro e w3 ⟨v3, rfl, ho3, hb3⟩
    go_wp2
    go_ret
    exact lay_join HW1.out HX2.out HW2.out (by have := HVZ.out; omega) HB01.out hb3 ho3
  · go_wp2_with fail
    refine (bool_any (decide (0 < n)) b v bs base w1 HW1.out (by have := HM.out; omega)).mono ?_
    rintro e w2 ⟨rfl, v2, hw2, hx2⟩
    obtain ⟨hT2, hvb2, hr2⟩ := after_w HW1.out hx2 HT1.out HBP.out.1 HBP.out.2 HVB1.out HVB.out.2 HRC.out HA.out
    obtain ⟨q0, q1, q2, _⟩ := hT2.cells
    obtain ⟨Ab, cb, eb, _, hrb, _⟩ := own_slice hvb2
    injection eb with eb1 _ eb2
    subst eb1
    subst eb2
    have HW2 := Lib.hid hw2
    have HX2 := Lib.hid hx2
    clear hT2 hvb2 hr2 hw2 hx2 p0 p1 p2
    go_wp2_with fail
    refine (refBool_any _ _ cs (decide (0 < n)) w2 hrb (by have := HM.out; omega)).mono ?_
    rintro e w3 ⟨v3, rfl, ho3, hb3⟩
    go_wp2
    go_ret
    exact lay_join HW1.out HX2.out HW2.out (by simp) HB01.out hb3 ho3
  · by_cases hpos : 0 < n
    · have hst := run_str Try.underlying23 Try.underlying5 Try.underlying9 A _ c xs w1 rfl HRC.out
      go_wp2_with fail
      refine (text_any ⟨xs.toArray⟩ b v bs base w1 HW1.out (by have := HM.out; simp; omega)).mono ?_
      rintro e w2 ⟨rfl, v2, hw2, hx2⟩
      clear hst
      have hapm : vm.ownBlock = none ∨ vm.ownBlock ≠ v.ownBlock := by
        rcases h : vm.ownBlock with _ | k
        · exact .inl rfl
        · refine .inr fun e => ?_
          have h1 := (HOM.out.lt k h).1
          have h2 := HBP.out.2 k e.symm
          have h3 := HB0.out.size
          omega
      have hom2 := hx2.own (by decide) HW1.out HOM.out hapm
      have hapm2 : vm.ownBlock = none ∨ vm.ownBlock ≠ v2.ownBlock := by
        rcases h : vm.ownBlock with _ | k
        · exact .inl rfl
        · refine .inr fun e => ?_
          have h1 := HOM.out.lt k h
          have h3 := HB0.out.size
          rcases hx2.same with e' | e'
          · have h2 := HBP.out.2 k (e'.symm.trans e.symm)
            omega
          · have := e' k e.symm
            omega
      have hmb : vm.ownBlock ≠ some b := own_block_ne (by decide) HOM.out HW1.out.cell
      obtain ⟨hT2, hvb2, hr2⟩ := after_w HW1.out hx2 HT1.out HBP.out.1 HBP.out.2 HVB1.out HVB.out.2 HRC.out HA.out
      have H2 := Lib.hid (And.intro hw2 (And.intro hx2 (And.intro hT2 (And.intro hvb2 hr2))))
      have HAP := Lib.hid (And.intro hapm2 hmb)
      have HOM2 := Lib.hid hom2
      clear hw2 hx2 hT2 hvb2 hr2 hapm hapm2 hmb hom2 p0 p1 p2
      go_wp2_with fail
      go_loopw [8] (fun i wr => MineInv w0 w2 vm xs.length i wr) (fun i _ => xs.length - (intOf i).toNat)
      case atStart => exact ⟨0, xs.map B, rfl, Nat.zero_le _, by simp, HOM2.out, World.grownBy.refl _ _⟩
      case round =>
        obtain ⟨i, ys, rfl, hi, hyl, howr, hgr⟩ := hrel
        by_cases hlt : i < xs.length
        · rcases howr.2 with ⟨_, h0⟩ | ⟨g, cap, cur, hvm, _⟩
          · omega
          · subst hvm
            have hcell := howr.cellAt i (by omega)
            rw [List.getElem?_eq_getElem (by omega)] at hcell
            generalize ys[i] = y0 at hcell
            have hfr := howr.frozenAt i
            have hst := howr.stored i (.int .u8 33)
            have HST := Lib.hid hst
            have HG := Lib.hid hgr
            have HY := Lib.hid hyl
            have HI := Lib.hid hlt; have hbig : (i : Int) + 1 ≤ 1048577 := by have := HM.out; omega
            clear hst hgr hyl howr hi
            go_wp2
            go_round
            case rel => exact ⟨i + 1, _, by simp, HI.out, by have := HY.out; simpa using this, HST.out.1, grown_trans HG.out HST.out.2 (.inl rfl)⟩
            case measure => have := HI.out; simp [intOf]; omega
        · obtain rfl : i = xs.length := by omega
          obtain ⟨Am', cm', em', _⟩ := own_slice howr
          subst em'
          have hxx : Ext w2 wr (.slice Am' xs.length cm') (.slice Am' xs.length cm') := ⟨hgr, .inl rfl⟩
          have hWr := H2.out.1.ext hxx HAP.out.2 HAP.out.1
          have hTr : ThingAt 53 wr w.heap.size k n (.slice A xs.length c) hs := H2.out.2.2.1.keep (hgr.block _ H2.out.2.2.1.lt (fun e => by
            have h1 := (HOM.out.lt _ e.symm).1
            have h2 := HT0.out.lt
            omega))
          have hvbr := own_block H2.out.2.2.2.1 (fun k' e => hgr.block _ (H2.out.2.2.2.1.lt k' e).2 (fun e' => by
            have h1 := (HOM.out.lt _ e'.symm).1
            have h2 := (HVB.out.1.lt k' e).2
            have h3 := HB0.out.size
            omega))
          have hrr : Rd wr A (xs.map B) := rd_grown H2.out.2.2.2.2 hgr (fun hp ad e e' => by
            have h1 := HA.out ad e (by simpa using hp)
            have h2 := (HOM.out.lt _ e').1
            have h3 := HB0.out.size
            have h4 := HW.out.small
            omega)
          have hbr : Below base w wr := (HB01.out.trans (H2.out.2.1.below HW1.out.at_ HW1.out.small (fun k e => (HW1.out.own.lt k e).1))).grown hgr (Nat.le_trans HW1.out.small H2.out.2.1.size) (fun k' e => by
            have h1 := (HOM.out.lt _ e).1
            have h3 := HB0.out.size
            have h4 := HW.out.small
            omega)
          obtain ⟨q0, q1, q2, _⟩ := hTr.cells
          obtain ⟨Ab, cb, eb, _, hrb, _⟩ := own_slice hvbr
          injection eb with eb1 _ eb2
          subst eb1
          subst eb2
          have HWR := Lib.hid hWr
          have HBR := Lib.hid hbr
          clear hTr hvbr hWr hbr hgr howr hyl hi hlt hxx
          go_wp2_with fail
          refine (refBytes_any _ _ _ _ cs xs wr hrb hrr (by have := HM.out; omega)).mono ?_
          rintro e w3 ⟨v3, rfl, ho3, hb3⟩
          go_wp2
          go_ret
          exact lay_join2 HWR.out (by have := HVX.out; rw [List.length_append]; omega) HBR.out hb3 ho3
    · obtain ⟨Am, cm, em, _, hrm, _⟩ := own_slice HOM.out
      have hnem : ∀ ad, Am = some ad → ad.block ≠ b ∧ v.ownBlock ≠ some ad.block := fun ad e => by
        have hk : vm.ownBlock = some ad.block := by rw [em, e]; rfl
        have h1 := (HOM.out.lt _ hk).1
        have h3 := HB0.out.size
        have h4 := HBP.out.1
        exact ⟨by omega, fun e' => by have := HBP.out.2 _ e'; omega⟩
      have hcall := bytes_any Am cm b v bs xs base w1 HW1.out (by have := HM.out; omega) hrm hnem
      rw [← em] at hcall
      clear em hrm hnem
      go_wp2_with fail
      refine hcall.mono ?_
      rintro e w2 ⟨rfl, v2, hw2, hx2⟩
      clear hcall
      have hapm : vm.ownBlock = none ∨ vm.ownBlock ≠ v.ownBlock := by
        rcases h : vm.ownBlock with _ | k
        · exact .inl rfl
        · refine .inr fun e => ?_
          have h1 := (HOM.out.lt k h).1
          have h2 := HBP.out.2 k e.symm
          have h3 := HB0.out.size
          omega
      have hom2 := hx2.own (by decide) HW1.out HOM.out hapm
      have hapm2 : vm.ownBlock = none ∨ vm.ownBlock ≠ v2.ownBlock := by
        rcases h : vm.ownBlock with _ | k
        · exact .inl rfl
        · refine .inr fun e => ?_
          have h1 := HOM.out.lt k h
          have h3 := HB0.out.size
          rcases hx2.same with e' | e'
          · have h2 := HBP.out.2 k (e'.symm.trans e.symm)
            omega
          · have := e' k e.symm
            omega
      have hmb : vm.ownBlock ≠ some b := own_block_ne (by decide) HOM.out HW1.out.cell
      obtain ⟨hT2, hvb2, hr2⟩ := after_w HW1.out hx2 HT1.out HBP.out.1 HBP.out.2 HVB1.out HVB.out.2 HRC.out HA.out
      have H2 := Lib.hid (And.intro hw2 (And.intro hx2 (And.intro hT2 (And.intro hvb2 hr2))))
      have HAP := Lib.hid (And.intro hapm2 hmb)
      have HOM2 := Lib.hid hom2
      clear hw2 hx2 hT2 hvb2 hr2 hapm hapm2 hmb hom2 p0 p1 p2
      go_wp2_with fail
      go_loopw [8] (fun i wr => MineInv w0 w2 vm xs.length i wr) (fun i _ => xs.length - (intOf i).toNat)
      case atStart => exact ⟨0, xs.map B, rfl, Nat.zero_le _, by simp, HOM2.out, World.grownBy.refl _ _⟩
      case round =>
        obtain ⟨i, ys, rfl, hi, hyl, howr, hgr⟩ := hrel
        by_cases hlt : i < xs.length
        · rcases howr.2 with ⟨_, h0⟩ | ⟨g, cap, cur, hvm, _⟩
          · omega
          · subst hvm
            have hcell := howr.cellAt i (by omega)
            rw [List.getElem?_eq_getElem (by omega)] at hcell
            generalize ys[i] = y0 at hcell
            have hfr := howr.frozenAt i
            have hst := howr.stored i (.int .u8 33)
            have HST := Lib.hid hst
            have HG := Lib.hid hgr
            have HY := Lib.hid hyl
            have HI := Lib.hid hlt; have hbig : (i : Int) + 1 ≤ 1048577 := by have := HM.out; omega
            clear hst hgr hyl howr hi
            go_wp2
            go_round
            case rel => exact ⟨i + 1, _, by simp, HI.out, by have := HY.out; simpa using this, HST.out.1, grown_trans HG.out HST.out.2 (.inl rfl)⟩
            case measure => have := HI.out; simp [intOf]; omega
        · obtain rfl : i = xs.length := by omega
          obtain ⟨Am', cm', em', _⟩ := own_slice howr
          subst em'
          have hxx : Ext w2 wr (.slice Am' xs.length cm') (.slice Am' xs.length cm') := ⟨hgr, .inl rfl⟩
          have hWr := H2.out.1.ext hxx HAP.out.2 HAP.out.1
          have hTr : ThingAt 53 wr w.heap.size k n (.slice A xs.length c) hs := H2.out.2.2.1.keep (hgr.block _ H2.out.2.2.1.lt (fun e => by
            have h1 := (HOM.out.lt _ e.symm).1
            have h2 := HT0.out.lt
            omega))
          have hvbr := own_block H2.out.2.2.2.1 (fun k' e => hgr.block _ (H2.out.2.2.2.1.lt k' e).2 (fun e' => by
            have h1 := (HOM.out.lt _ e'.symm).1
            have h2 := (HVB.out.1.lt k' e).2
            have h3 := HB0.out.size
            omega))
          have hrr : Rd wr A (xs.map B) := rd_grown H2.out.2.2.2.2 hgr (fun hp ad e e' => by
            have h1 := HA.out ad e (by simpa using hp)
            have h2 := (HOM.out.lt _ e').1
            have h3 := HB0.out.size
            have h4 := HW.out.small
            omega)
          have hbr : Below base w wr := (HB01.out.trans (H2.out.2.1.below HW1.out.at_ HW1.out.small (fun k e => (HW1.out.own.lt k e).1))).grown hgr (Nat.le_trans HW1.out.small H2.out.2.1.size) (fun k' e => by
            have h1 := (HOM.out.lt _ e).1
            have h3 := HB0.out.size
            have h4 := HW.out.small
            omega)
          obtain ⟨q0, q1, q2, _⟩ := hTr.cells
          obtain ⟨Ab, cb, eb, _, hrb, _⟩ := own_slice hvbr
          injection eb with eb1 _ eb2
          subst eb1
          subst eb2
          have HWR := Lib.hid hWr
          have HBR := Lib.hid hbr
          clear hTr hvbr hWr hbr hgr howr hyl hi hlt hxx
          go_wp2_with fail
          refine (refBytes_any _ _ _ _ cs xs wr hrb hrr (by have := HM.out; omega)).mono ?_
          rintro e w3 ⟨v3, rfl, ho3, hb3⟩
          go_wp2
          go_ret
          exact lay_join2 HWR.out (by have := HVX.out; rw [List.length_append]; omega) HBR.out hb3 ho3
  · have hld : (loadVar 48 ⟨w.heap.size, 3, none⟩).run Try.prog w1 = .ok (.agg (hs.map B).toArray) w1 := run_load_agg (n := 32) Try.underlying48 rfl (by kernel_rfl) w1 _ (hs.map B) (by simp [HH.out]) HP3.out
    go_wp2_with (refine wpList_load rfl (.tmp 69) rfl _ _ rfl hld ?_)
    refine (hash_any hs b v bs base w1 HH.out HW1.out (by have := HM.out; omega)).mono ?_
    rintro e w2 ⟨rfl, v2, hw2, hx2⟩
    obtain ⟨hT2, hvb2, hr2⟩ := after_w HW1.out hx2 HT1.out HBP.out.1 HBP.out.2 HVB1.out HVB.out.2 HRC.out HA.out
    obtain ⟨q0, q1, q2, q3⟩ := hT2.cells
    obtain ⟨Ab, cb, eb, _, hrb, _⟩ := own_slice hvb2
    injection eb with eb1 _ eb2
    subst eb1
    subst eb2
    have hld2 : (loadVar 48 ⟨w.heap.size, 3, none⟩).run Try.prog w2 = .ok (.agg (hs.map B).toArray) w2 := run_load_agg (n := 32) Try.underlying48 rfl (by kernel_rfl) w2 _ (hs.map B) (by simp [HH.out]) q3
    have HW2 := Lib.hid hw2
    have HX2 := Lib.hid hx2
    clear hT2 hvb2 hr2 hw2 hx2 p0 p1 p2 q3 hld
    go_wp2_with (refine wpList_load rfl (.tmp 73) rfl _ _ rfl hld2 ?_)
    refine (refHash_any _ _ cs hs w2 HH.out hrb (by have := HM.out; omega)).mono ?_
    rintro e w3 ⟨v3, rfl, ho3, hb3⟩
    go_wp2
    go_ret
    exact lay_join HW1.out HX2.out HW2.out (by have := HH.out; omega) HB01.out hb3 ho3
  · go_wp2_with fail
    rw [HMW.out]
    refine (uint_any m b v bs base w1 HM64.out HW1.out (by have := HM.out; omega)).mono ?_
    rintro e w2 ⟨rfl, v2, hw2, hx2⟩
    obtain ⟨hT2, hvb2, hr2⟩ := after_w HW1.out hx2 HT1.out HBP.out.1 HBP.out.2 HVB1.out HVB.out.2 HRC.out HA.out
    obtain ⟨q0, q1, q2, _⟩ := hT2.cells
    obtain ⟨Ab, cb, eb, _, hrb, _⟩ := own_slice hvb2
    injection eb with eb1 _ eb2
    subst eb1
    subst eb2
    have HW2 := Lib.hid hw2
    have HX2 := Lib.hid hx2
    clear hT2 hvb2 hr2 hw2 hx2 p0 p1 p2
    go_wp2_with fail
    rw [HMW.out]
    refine (refUint_any _ _ cs m w2 HM64.out hrb (by have := HM.out; omega)).mono ?_
    rintro e w3 ⟨v3, rfl, ho3, hb3⟩
    go_wp2
    go_ret
    exact lay_join HW1.out HX2.out HW2.out (by have := HVM.out; omega) HB01.out hb3 ho3
end Go.Proofs.Ytdmopnmifdjcnaa
