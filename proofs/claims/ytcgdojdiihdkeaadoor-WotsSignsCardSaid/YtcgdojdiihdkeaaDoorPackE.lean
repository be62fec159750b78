/- The document's answer for layer 2's writer: by its contracts. -/
import Derived.Test.YtcgdojdiihdkeaaDoorPackA
import Derived.Test.YtcgdojdiihdkeaaDoorPackT
import Derived.Deep.Cut
import Derived.Deep.RegionLaw
namespace Go.Proofs.YtcgdojdiihdkeaaDoor
open Go Go.RowKit Go.Isth

def RefInv (w : World) (cs : List UInt8) (n : Nat) (x o : Value) (wr : World) : Prop :=
  ∃ (m : Nat) (pre : List UInt8), x = .int .u64 m ∧ m ≤ n ∧ varint n = pre ++ varint m ∧ wr.ownsRow w.heap.size 5 1 o (cs ++ pre).length ((cs ++ pre).map B) ∧ Below w.heap.size w wr

set_option maxRecDepth 100000 in
set_option maxHeartbeats 1000000 in
theorem refUint_any (A : Option Addr) (c : Nat) (cs : List UInt8) (n : Nat) (w : World) (hn : n < 18446744073709551616) (hr : Rd w A (cs.map B)) (hm : cs.length ≤ 35184372088832) :
    Calls Tryd.prog 72 #[.slice A cs.length c, .int .u64 n] w fun e w' => ∃ v, e = .returned v ∧ w'.ownsRow w.heap.size 5 1 v (cs ++ varint n).length ((cs ++ varint n).map B) ∧ Below w.heap.size w w' := by
  have HN := Lib.hid hn
  have HM := Lib.hid hm
  have HL10 := Lib.hid (varint_len10 n hn)
  clear hn hm
  go_enter Tryd.func72, Tryd.ntmps72
  go_wp2_with (at_builtin; refine wpList_app tBp rfl _ _ rfl w.heap.size _ 0 [] rfl (World.ownsRow_nil _ _ _ _) _ cs.length _ _ rfl hr (by simp) one_bytes ?c2 ?c3 (Nat.le_refl _) ?_)
  case c2 => have := HM.out; unfold maxLen; omega
  case c3 => have := HM.out; omega
  intro v1 w1 ho1 hx1
  have hb1 : Below w.heap.size w w1 := hx1.below (Nat.le_refl _) (fun k e => by cases e)
  have HO := Lib.hid ho1
  have HB1 := Lib.hid hb1
  clear ho1 hx1 hb1 hr
  go_wp2_with fail
  go_loopw [1, 5] (fun x o wr => RefInv w cs n x o wr) (fun x _ _ => (intOf x).toNat)
  case atStart => exact ⟨n, [], rfl, Nat.le_refl _, rfl, by simpa using HO.out, HB1.out⟩
  case round =>
    obtain ⟨m, pre, rfl, hmn, hv, hown, hbw⟩ := hrel
    have hpl : (cs ++ pre).length ≤ 35184372088842 := by have := HL10.out; rw [hv, List.length_append] at this; have := HM.out; rw [List.length_append]; omega
    have hsm := hbw.size
    by_cases hlt : m < 128
    · rw [varint_small hlt] at hv
      have hB := B_ofNat (n := m) (by omega)
      have HV := Lib.hid hv
      have HL := Lib.hid hpl
      have HBW := Lib.hid hbw
      clear hv hpl hbw hmn
      generalize UInt8.ofNat m = y at *
      have HB := Lib.hid hB
      clear hB
      go_wp2_with (at_builtin; refine wpList_app tBp rfl _ _ rfl w.heap.size _ _ _ rfl (hown.alloc _) _ 1 1 [.int .u8 (m : Int)] rfl (Rd_alloc _ _ _) rfl ?c1 ?c2 ?c3 ?c4 ?_)
      case c1 => exact one_cell1 rfl
      case c2 => have := HL.out; unfold maxLen; omega
      case c3 => have := HL.out; omega
      case c4 => rw [World.size_alloc]; omega
      intro v2 w2 ho2 hx2
      have hb2 : Below w.heap.size w w2 := HBW.out.trans (((Below.refl w.heap.size wr).alloc hsm _).trans (hx2.below (by rw [World.size_alloc]; omega) (fun k e => (hown.lt k e).1)))
      have HO2 := Lib.hid ho2
      have HB2 := Lib.hid hb2
      clear ho2 hx2 hb2 hown
      go_wp2
      go_ret
      refine ⟨_, rfl, ?_, HB2.out⟩
      have h := HO2.out
      rw [HV.out, ← List.append_assoc, List.length_append, List.map_append]
      simpa [HB.out] using h
    · rw [varint_great hlt] at hv
      have hB : B (UInt8.ofNat (m % 128 + 128)) = .int .u8 ((m : Int) % 128 + 128) := by rw [B_ofNat (n := m % 128 + 128) (by omega)]; simp
      have hmi : (128 : Int) ≤ (m : Int) := by omega
      have hw8 : IntKind.u8.wrap (IntKind.u8.wrap ((m : Int) % 128) + 128) = ((m % 128 + 128 : Nat) : Int) := by
        simp only [IntKind.wrap, IntKind.bits, IntKind.signed, Bool.false_and, Bool.false_eq_true, if_false]
        omega
      have HV := Lib.hid hv
      have HL := Lib.hid hpl
      have HBW := Lib.hid hbw
      have HMN := Lib.hid hmn
      have hq : IntKind.u64.wrap ((m : Int) / 128) = ((m / 128 : Nat) : Int) := by
        have := HN.out
        rw [← u64_nat (n := m / 128) (by omega), Int.natCast_ediv]; rfl
      have HQ := Lib.hid hq
      clear hv hpl hbw hmn hq
      generalize UInt8.ofNat (m % 128 + 128) = y at *
      have HB := Lib.hid hB
      clear hB
      go_wp2_with (at_builtin; refine wpList_app tBp rfl _ _ rfl w.heap.size _ _ _ rfl (hown.alloc _) _ 1 1 [.int .u8 ((m : Int) % 128 + 128)] rfl (Rd_alloc _ _ _) rfl ?c1 ?c2 ?c3 ?c4 ?_)
      case c1 => exact one_cell1 rfl
      case c2 => have := HL.out; unfold maxLen; omega
      case c3 => have := HL.out; omega
      case c4 => rw [World.size_alloc]; omega
      intro v2 w2 ho2 hx2
      have hb2 : Below w.heap.size w w2 := HBW.out.trans (((Below.refl w.heap.size wr).alloc hsm _).trans (hx2.below (by rw [World.size_alloc]; omega) (fun k e => (hown.lt k e).1)))
      have HO2 := Lib.hid ho2
      have HB2 := Lib.hid hb2
      clear ho2 hx2 hb2 hown
      go_wp2
      go_round
      case rel =>
        refine ⟨m / 128, pre ++ [y], congrArg (Value.int .u64) HQ.out, by have := HMN.out; omega, by rw [HV.out]; simp, ?_, HB2.out⟩
        have h := HO2.out
        rw [← List.append_assoc, List.length_append, List.map_append]
        simpa [HB.out] using h
      case measure => simp only [intOf]; rw [HQ.out]; simp; omega




theorem refHash_any (A : Option Addr) (c : Nat) (cs hs : List UInt8) (w : World) (hh : hs.length = 32) (hr : Rd w A (cs.map B)) (hm : cs.length ≤ 17592186044416) :
    Calls Tryd.prog 71 #[.slice A cs.length c, .agg (hs.map B).toArray] w fun e w' => ∃ v, e = .returned v ∧ w'.ownsRow w.heap.size 5 1 v (cs ++ hs).length ((cs ++ hs).map B) ∧ Below w.heap.size w w' := by
  have HM := Lib.hid hm
  have HH := Lib.hid hh
  clear hm hh
  go_enter Tryd.func71, Tryd.ntmps71
  go_upto_region 2 with fail
  have hr1 := hr.alloc (.cells (hs.map B).toArray 28)
  have hh1 : Rd (w.alloc (.cells (hs.map B).toArray 28)) (some ⟨w.heap.size, 0, none⟩) (hs.map B) := by simpa using Rd_alloc w (hs.map B).toArray 28
  have hsz : (w.alloc (.cells (hs.map B).toArray 28)).heap.size = w.heap.size + 1 := World.size_alloc _ _
  have hb1 : Below w.heap.size w (w.alloc (.cells (hs.map B).toArray 28)) := (Below.refl _ _).alloc (Nat.le_refl _) _
  generalize hw0 : w.alloc (.cells (hs.map B).toArray 28) = w0 at *
  clear hw0
  have hbase : w.heap.size ≤ w0.heap.size := by omega
  have HS := Lib.hid hsz
  have HR1 := Lib.hid hr1
  have HH1 := Lib.hid hh1
  have HB1 := Lib.hid hb1
  have HBS := Lib.hid hbase
  have hl1 : (cs.map B).length = cs.length * 1 := by simp
  have hl2 : (hs.map B).length = 32 * 1 := by simp [HH.out]
  have hm1 : 0 + cs.length ≤ maxLen := by have := HM.out; unfold maxLen; omega
  have hm2 : (0 + cs.length) * 1 ≤ 140737488355328 := by have := HM.out; omega
  have hm3 : (0 + cs.length) + 32 ≤ maxLen := by have := HM.out; unfold maxLen; omega
  have hm4 : ((0 + cs.length) + 32) * 1 ≤ 140737488355328 := by have := HM.out; omega
  have HX1 := Lib.hid (And.intro hl1 (And.intro hm1 hm2))
  have HX2 := Lib.hid (And.intro hl2 (And.intro hm3 hm4))
  clear hr hr1 hh1 hsz hb1 hbase hl1 hl2 hm1 hm2 hm3 hm4
  go_region_law (first
    | (refine step_app tBp rfl (.tmp 6) (.tmp 7) rfl w.heap.size (.slice none 0 0) 0 [] rfl (World.ownsRow_nil _ _ _ _) A cs.length c (cs.map B) rfl HR1.out HX1.out.1 one_bytes HX1.out.2.1 HX1.out.2.2 HBS.out ?_; intro v1 w1 ho1 hx1)
    | (refine step_app tBp rfl (.tmp 8) (.tmp 9) rfl w.heap.size v1 (0 + cs.length) ([] ++ cs.map B) rfl ho1 (some ⟨w.heap.size, 0, none⟩) 32 32 (hs.map B) rfl (HH1.out.below (of_drew (hx1.below (Nat.le_refl _) (fun k e => by cases e)))) HX2.out.1 one_bytes HX2.out.2.1 HX2.out.2.2 (Nat.le_trans HBS.out hx1.size) ?_; intro v2 w2 ho2 hx2))
  go_wp2
  go_ret
  refine ⟨_, rfl, ?_, HB1.out.trans ((of_drew (hx1.below (Nat.le_refl _) (fun k e => by cases e))).mono HBS.out |>.trans (hx2.below (Nat.le_trans HBS.out hx1.size) (fun k e => (ho1.lt k e).1)))⟩
  have e1 : (cs ++ hs).length = 0 + cs.length + 32 := by have := HH.out; simp; omega
  have e2 : (cs ++ hs).map B = [] ++ cs.map B ++ hs.map B := by simp
  rw [e1, e2]
  exact ho2
end Go.Proofs.YtcgdojdiihdkeaaDoor
