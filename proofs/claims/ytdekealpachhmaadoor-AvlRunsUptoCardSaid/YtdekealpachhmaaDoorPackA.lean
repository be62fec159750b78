/- Layer 2's writer by its contracts. -/
import Derived.Test.YtdekealpachhmaaDoorProg
import Derived.Test.YtdekealpachhmaaDoorPackP
import Derived.Outline
import Derived.BigQuiet
import Derived.Deep.QuietTactic
namespace Go.Proofs.YtdekealpachhmaaDoor
open Go Go.RowKit Go.Isth

theorem tBp : SlT Tryd.prog 135 5 (.int .u8 0) 1 1 := ⟨Tryd.underlying135, by kernel_rfl, rfl, by decide⟩
abbrev WIs (w : World) (base b : Nat) (v : Value) (bs : List UInt8) : Prop := WriterIs 182 5 w base b v bs
abbrev Ptr (b : Nat) : Value := .pointer (some ⟨b, 0, none⟩)

theorem new_any (w : World) : Calls Tryd.prog 69 #[] w fun e w' => e = .returned (Ptr w.heap.size) ∧ WIs w' w.heap.size w.heap.size (.slice none 0 0) [] ∧ Below w.heap.size w w' := by
  go_enter Tryd.func69, Tryd.ntmps69
  go_wp2
  go_ret
  exact ⟨rfl, ⟨heap_alloc_new w _, Nat.le_refl _, World.ownsRow_nil _ _ _ _, ((Below.refl w.heap.size w).alloc (Nat.le_refl _) _).size⟩, (Below.refl _ _).alloc (Nat.le_refl _) _⟩

theorem raw_any (A : Option Addr) (c b : Nat) (v : Value) (bs xs : List UInt8) (base : Nat) (w : World) (hW : WIs w base b v bs) (hm : bs.length + xs.length ≤ 70368744177664) (hr : Rd w A (xs.map B)) :
    Calls Tryd.prog 97 #[Ptr b, .slice A xs.length c] w fun e w' => e = .returned (Ptr b) ∧ ∃ v', WIs w' base b v' (bs ++ xs) ∧ WExt w w' b v v' := by
  have hc0 := hW.boxed.cell
  have hown := hW.own
  have hsm := hW.small
  have HW := Lib.hid hW
  have HM := Lib.hid hm
  clear hW hm
  go_enter Tryd.func97, Tryd.ntmps97
  go_wp2_with (at_builtin; refine wpList_app tBp rfl _ _ rfl base _ _ _ rfl hown _ xs.length _ _ rfl hr (by simp) one_bytes ?c2 ?c3 hsm ?_)
  case c2 => have := HM.out; unfold maxLen; omega
  case c3 => have := HM.out; omega
  intro v1 w1 ho1 hx1
  have hbx := HW.out.boxed_ext (by decide) hx1
  have hc1 := hbx.cell
  have hf1 := hbx.frozen
  obtain ⟨A1, c1, rfl, _⟩ := own_slice ho1
  have hput := writer_set (by decide) (bs ++ xs) HW.out ho1 (by simp) (by simp) hx1
  go_wp2
  go_ret
  exact ⟨rfl, _, hput.1, hput.2⟩

def UintInv (w : World) (base b n : Nat) (v : Value) (bs : List UInt8) (x : Value) (wr : World) : Prop :=
  ∃ (m : Nat) (pre : List UInt8) (v' : Value), x = .int .u64 m ∧ m ≤ n ∧ varint n = pre ++ varint m ∧ WIs wr base b v' (bs ++ pre) ∧ WExt w wr b v v'

set_option maxRecDepth 100000 in
set_option maxHeartbeats 1000000 in
theorem uint_any (n : Nat) (b : Nat) (v : Value) (bs : List UInt8) (base : Nat) (w : World) (hn : n < 18446744073709551616) (hW : WIs w base b v bs) (hm : bs.length ≤ 35184372088832) :
    Calls Tryd.prog 72 #[Ptr b, .int .u64 n] w fun e w' => e = .returned (Ptr b) ∧ ∃ v', WIs w' base b v' (bs ++ varint n) ∧ WExt w w' b v v' := by
  go_enter Tryd.func72, Tryd.ntmps72
  have HN := Lib.hid hn
  have HW := Lib.hid hW
  have HM := Lib.hid hm
  clear hn hW hm
  go_wp2_with fail
  go_loopw [1] (fun x wr => UintInv w base b n v bs x wr) (fun x _ => (intOf x).toNat)
  case atStart => exact ⟨n, [], v, rfl, Nat.le_refl _, rfl, by simpa using HW.out, WExt.refl _ _ _⟩
  case round =>
    obtain ⟨m, pre, v1, rfl, hmn, hv, hW1, hx1⟩ := hrel
    have hl10 := varint_len10 n HN.out
    have hpl : (bs ++ pre).length ≤ 35184372088842 := by rw [hv, List.length_append] at hl10; have := HM.out; rw [List.length_append]; omega
    have hc0 := hW1.boxed.cell
    have hown := hW1.own
    have hsm := hW1.small
    have hm64 : m < 18446744073709551616 := Nat.lt_of_le_of_lt hmn HN.out
    by_cases hlt : m < 128
    · rw [varint_small hlt] at hv
      have hB := B_ofNat (n := m) (by omega)
      have HV := Lib.hid hv
      have HL := Lib.hid hpl
      have HW1 := Lib.hid hW1
      have HX1 := Lib.hid hx1
      clear hv hpl hW1 hx1 hl10 HN HM HW hmn hm64
      generalize UInt8.ofNat m = y at *
      have HB := Lib.hid hB
      clear hB
      go_wp2_with (at_builtin; refine wpList_app tBp rfl _ _ rfl base _ _ _ rfl (hown.alloc _) _ 1 1 [.int .u8 (m : Int)] rfl (Rd_alloc _ _ _) rfl ?c1 ?c2 ?c3 ?c4 ?_)
      case c1 => exact one_cell1 rfl
      case c2 => have := HL.out; unfold maxLen; omega
      case c3 => have := HL.out; omega
      case c4 => rw [World.size_alloc]; omega
      intro v2 w2 ho2 hx2
      have hx2' := (Ext.alloc wr _ v1).trans hx2
      have hbx := HW1.out.boxed_ext (by decide) hx2'
      have hc1 := hbx.cell
      have hf1 := hbx.frozen
      obtain ⟨A1, c1, rfl, _⟩ := own_slice ho2
      have hput := writer_set (by decide) (bs ++ pre ++ [y]) HW1.out ho2 (by simp; try omega) (by simp [HB.out]) hx2'
      have HP := Lib.hid hput
      clear hput ho2 hx2 hx2'
      go_wp2
      go_ret
      refine ⟨rfl, _, ?_, HX1.out.trans HP.out.2⟩
      rw [HV.out, ← List.append_assoc]
      exact HP.out.1
    · rw [varint_great hlt] at hv
      have hB := low_B m
      have hsh : (m : Int) / 128 = ((m / 128 : Nat) : Int) := by simp
      have HV := Lib.hid hv
      have HL := Lib.hid hpl
      have HW1 := Lib.hid hW1
      have HX1 := Lib.hid hx1
      have HMN := Lib.hid hmn
      clear hv hpl hW1 hx1 hl10 HN HM HW hm64 hmn
      have HSH := Lib.hid hsh
      clear hsh
      generalize UInt8.ofNat (m % 128 + 128) = y at *
      have hor : bits .or .u8 ((m : Int) % 256) 128 = ((y.toNat : Nat) : Int) := by injection hB with _ h; exact h.symm
      clear hB
      go_wp2_with ((at_builtin; refine wpList_app tBp rfl _ _ rfl base _ _ _ rfl (hown.alloc _) _ 1 1 [B y] rfl (Rd_alloc _ _ _) rfl ?c1 ?c2 ?c3 ?c4 ?_))
      case c1 => exact one_cell1 rfl
      case c2 => have := HL.out; unfold maxLen; omega
      case c3 => have := HL.out; omega
      case c4 => rw [World.size_alloc]; omega
      intro v2 w2 ho2 hx2
      have hx2' := (Ext.alloc wr _ v1).trans hx2
      have hbx := HW1.out.boxed_ext (by decide) hx2'
      have hc1 := hbx.cell
      have hf1 := hbx.frozen
      obtain ⟨A1, c1, rfl, _⟩ := own_slice ho2
      have hput := writer_set (by decide) (bs ++ pre ++ [y]) HW1.out ho2 (by simp; try omega) (by simp) hx2'
      have HP := Lib.hid hput
      clear hput ho2 hx2 hx2'
      go_wp2
      go_round
      case rel =>
        refine ⟨m / 128, pre ++ [y], _, by simp, by have := HMN.out; omega, by rw [HV.out]; simp, ?_, HX1.out.trans HP.out.2⟩
        rw [← List.append_assoc]
        exact HP.out.1
      case measure => simp [intOf]; omega

theorem done_any (b : Nat) (v : Value) (bs : List UInt8) (base : Nat) (w : World) (hW : WIs w base b v bs) (hm : bs.length ≤ 70368744177664) :
    Calls Tryd.prog 71 #[Ptr b] w fun e w' => ∃ v', e = .returned v' ∧ w'.ownsRow w.heap.size 5 1 v' bs.length (bs.map B) ∧ Below w.heap.size w w' := by
  have hc0 := hW.boxed.cell
  obtain ⟨A, c, rfl, _, hr, _⟩ := own_slice hW.own
  have HM := Lib.hid hm
  clear hm hW
  go_enter Tryd.func71, Tryd.ntmps71
  go_wp2_with (at_builtin; refine wpList_app tBp rfl _ _ rfl w.heap.size _ 0 [] rfl (World.ownsRow_nil _ _ _ _) _ bs.length _ _ rfl hr (by simp) one_bytes ?c2 ?c3 (Nat.le_refl _) ?_)
  case c2 => have := HM.out; unfold maxLen; omega
  case c3 => have := HM.out; omega
  intro v1 w1 ho1 hx1
  go_wp2
  go_ret
  refine ⟨_, rfl, ?_, hx1.below (Nat.le_refl _) (fun k e => by cases e)⟩
  simpa using ho1


theorem hash_any (hs : List UInt8) (b : Nat) (v : Value) (bs : List UInt8) (base : Nat) (w : World) (hh : hs.length = 32) (hW : WIs w base b v bs) (hm : bs.length ≤ 35184372088832) :
    Calls Tryd.prog 73 #[Ptr b, .agg (hs.map B).toArray] w fun e w' => e = .returned (Ptr b) ∧ ∃ v', WIs w' base b v' (bs ++ hs) ∧ WExt w w' b v v' := by
  have HM := Lib.hid hm
  have HW := Lib.hid hW
  have HH := Lib.hid hh
  clear hm hW hh
  go_enter Tryd.func73, Tryd.ntmps73
  go_wp2_with fail
  have hraw := raw_any (some ⟨w.heap.size, 0, none⟩) 32 b v bs hs base _ (HW.out.alloc (.cells (hs.map B).toArray 46)) (by have := HM.out; have := HH.out; omega) (by simpa using Rd_alloc w (hs.map B).toArray 46)
  rw [HH.out] at hraw
  refine hraw.mono ?_
  rintro e w1 ⟨rfl, v1, h1, h2⟩
  go_wp2
  go_ret
  exact ⟨rfl, v1, h1, (WExt.of_ext (Ext.alloc w _ v) b).trans h2⟩

theorem bytes_any (A : Option Addr) (c b : Nat) (v : Value) (bs xs : List UInt8) (base : Nat) (w : World) (hW : WIs w base b v bs) (hm : bs.length + xs.length ≤ 17592186044416) (hr : Rd w A (xs.map B)) (hne : ∀ ad, A = some ad → 0 < xs.length → ad.block ≠ b ∧ v.ownBlock ≠ some ad.block) :
    Calls Tryd.prog 96 #[Ptr b, .slice A xs.length c] w fun e w' => e = .returned (Ptr b) ∧ ∃ v', WIs w' base b v' (bs ++ (varint xs.length ++ xs)) ∧ WExt w w' b v v' := by
  go_enter Tryd.func96, Tryd.ntmps96
  have hw := u64_nat (n := xs.length) (by omega)
  have HM := Lib.hid hm
  have HW := Lib.hid hW
  clear hm hW
  go_wp2_with fail
  refine (uint_any xs.length b v bs base w (by have := HM.out; omega) HW.out (by have := HM.out; omega)).mono ?_
  rintro e w1 ⟨rfl, v1, h1, h2⟩
  have hl10 := varint_len10 xs.length (by have := HM.out; omega)
  have HL := Lib.hid hl10
  have H1 := Lib.hid h1
  clear hl10 h1 hw
  go_wp2_with fail
  refine (raw_any A c b v1 _ xs base w1 H1.out (by have := HM.out; have := HL.out; rw [List.length_append]; omega) (fun hp => (h2.rd hr (fun ad e => hne ad e (by simpa using hp))) hp)).mono ?_
  rintro e w2 ⟨rfl, v2, h3, h4⟩
  go_wp2
  go_ret
  exact ⟨rfl, v2, by rw [← List.append_assoc]; exact h3, h2.trans h4⟩

theorem text_any (s : ByteArray) (b : Nat) (v : Value) (bs : List UInt8) (base : Nat) (w : World) (hW : WIs w base b v bs) (hm : bs.length + s.data.toList.length ≤ 17592186044416) :
    Calls Tryd.prog 70 #[Ptr b, .string s] w fun e w' => e = .returned (Ptr b) ∧ ∃ v', WIs w' base b v' (bs ++ (varint s.data.toList.length ++ s.data.toList)) ∧ WExt w w' b v v' := by
  go_enter Tryd.func70, Tryd.ntmps70
  obtain ⟨c, w1, hcv, hc, hr, hb, hsz⟩ := run_text Tryd.underlying9 Tryd.underlying135 Tryd.underlying5 s w
  have HM := Lib.hid hm
  have HW := Lib.hid hW
  have HR := Lib.hid hr
  have HB := Lib.hid hb
  clear hm hW hr hb hsz hc
  go_wp2_with fail
  have hvl : ∀ k, v.ownBlock = some k → k < w.heap.size := fun k e => (HW.out.own.lt k e).2
  refine (bytes_any (some ⟨w.heap.size, 0, none⟩) c b v bs s.data.toList base w1 (HW.out.below HB.out) HM.out HR.out (fun ad e _ => by
    cases e
    exact ⟨fun e => absurd HW.out.lt (by simp only at e; omega), fun e => by have := hvl _ e; simp only at this; omega⟩)).mono ?_
  rintro e w2 ⟨rfl, v2, h3, h4⟩
  go_wp2
  go_ret
  exact ⟨rfl, v2, h3, (WExt.of_below HB.out b v).trans h4⟩

#print axioms uint_any

end Go.Proofs.YtdekealpachhmaaDoor
