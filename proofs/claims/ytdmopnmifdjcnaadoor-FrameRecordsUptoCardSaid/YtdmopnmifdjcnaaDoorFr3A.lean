/- The reference of layer 3: Sum, four, Frame by their contracts. -/
import Derived.Test.YtdmopnmifdjcnaaDoorFr3P
import Derived.Test.YtdmopnmifdjcnaaDoorFrameB
import Derived.Test.YtdmopnmifdjcnaaDoorPackT
import Derived.Deep.RegionHeld3
namespace Go.Proofs.YtdmopnmifdjcnaaDoor
open Go Go.RowKit Go.Isth

theorem bit_odd (x : BitVec 32) (h : x.toNat % 2 = 1) : bits .xor .u32 ((x.toNat : Int) / 2) 3988292384 = ((crcBit x).toNat : Int) := by
  have h1 : (x.toNat : Int) / (2 : Int) = ((x >>> 1).toNat : Int) := shr32 x 1
  rw [crcBit_odd x h, h1]
  exact xor32 (x >>> 1) 0xedb88320#32
theorem bit_even (x : BitVec 32) (h : x.toNat % 2 = 0) : (x.toNat : Int) / 2 = ((crcBit x).toNat : Int) := by
  rw [crcBit_even x h]; exact shr32 x 1
theorem sub_all (x : BitVec 32) : 4294967295 - (x.toNat : Int) = ((~~~ x).toNat : Int) := by
  rw [BitVec.toNat_not]
  have := x.isLt
  omega
set_option maxRecDepth 100000 in
theorem rsum03_any (A : Option Addr) (m c : Nat) (bs : List UInt8) (w : World) (hm : bs.length = m) (hn : m ≤ 140737488351232) (hr : Rd w A (bs.map B)) :
    Calls Tryd.prog 18 #[.slice A m c] w fun e w' => e = .returned (U (crc bs)) ∧ w = w' := by
  subst hm
  have HT := Lib.hid (And.intro hn hr)
  have hnI : (bs.length : Int) ≤ 140737488351232 := by omega
  clear hn hr
  go_enter Tryd.func18, Tryd.ntmps18
  go_wp2_with fail
  go_loopw [3, 4] (fun x i wr => w = wr ∧ ∃ k : Nat, k ≤ bs.length ∧ i = .int .i64 k ∧ x = U (crcFrom 0xffffffff#32 (bs.take k))) (fun _ i _ => bs.length - (intOf i).toNat)
  case atStart => exact ⟨rfl, 0, Nat.zero_le _, rfl, rfl⟩
  case round =>
    obtain ⟨rfl, k, hk, rfl, rfl⟩ := hrel
    by_cases hlt : k < bs.length
    · obtain ⟨b0, o0, rfl, _, hc⟩ := HT.out.2.at_ (by rw [List.length_map]; omega)
      have hck := hc k (by rw [List.length_map]; exact hlt)
      simp only [List.getElem_map] at hck
      have hs := crcFrom_snoc 0xffffffff#32 bs k hlt
      generalize crcFrom 0xffffffff#32 (bs.take k) = x at *
      generalize bs[k] = b at *
      have hb := b.toNat_lt
      have HS := Lib.hid (And.intro hs hlt)
      have hin := crc_in x b
      have hltI : (k : Int) < (bs.length : Int) := by omega
      clear hs hc hlt hk
      go_wp2_with fail
      go_loopw [3, 5] (fun x' i wr => w = wr ∧ ∃ m : Nat, m ≤ 8 ∧ i = .int .i64 m ∧ x' = U (crcBits m (crcIn x b))) (fun _ i _ => 8 - (intOf i).toNat)
      case atStart => exact ⟨rfl, 0, Nat.zero_le _, rfl, by first | rfl | exact congrArg (Value.int .u32) hin⟩
      case round =>
        obtain ⟨rfl, m, hm, rfl, rfl⟩ := hrel
        by_cases hlt : m < 8
        · generalize hY : crcBits m (crcIn x b) = y at *
          have HY := Lib.hid hY
          obtain ⟨h, hh⟩ : ∃ h, y.toNat / 2 = h := ⟨_, rfl⟩
          have hdiv : (y.toNat : Int).tdiv 2 = (h : Int) := by rw [Int.tdiv_eq_ediv_of_nonneg (by omega)]; omega
          have hyl := y.isLt
          have hw : IntKind.u32.wrap (h : Int) = (h : Int) := by
            simp only [IntKind.wrap, IntKind.bits, IntKind.signed, Bool.false_and, Bool.false_eq_true, if_false]; omega
          have HM := Lib.hid hlt
          have hmI : (m : Int) < 8 := by omega
          clear hY hin hck hlt hm
          rcases Nat.mod_two_eq_zero_or_one y.toNat with h2 | h2
          · have hmod : (y.toNat : Int).tmod 2 = 0 := by rw [Int.tmod_eq_emod_of_nonneg (by omega)]; omega
            have hr := bit_even y h2
            have hr2 : (h : Int) = ((crcBit y).toNat : Int) := by rw [← hr]; omega
            have HR := Lib.hid hr2
            clear hr hr2 hh h2 hyl
            go_wp2_with fail
            go_roundw
            case rel => exact ⟨trivial, m + 1, HM.out, by go_num, by rw [crcBits, HY.out]; exact congrArg (Value.int .u32) HR.out⟩
            case measure => have := HM.out; simp [intOf]; omega
          · have hmod : (y.toNat : Int).tmod 2 = 1 := by rw [Int.tmod_eq_emod_of_nonneg (by omega)]; omega
            have hr := bit_odd y h2
            rw [show (y.toNat : Int) / 2 = (h : Int) by omega] at hr
            have HR := Lib.hid hr
            clear hr hh h2 hyl
            go_wp2_with fail
            go_roundw
            case rel => exact ⟨trivial, m + 1, HM.out, by go_num, by rw [crcBits, HY.out]; exact congrArg (Value.int .u32) HR.out⟩
            case measure => have := HM.out; simp [intOf]; omega
        · obtain rfl : m = 8 := by omega
          clear hin hck
          go_wp2_with fail
          go_roundw
          case rel => exact ⟨trivial, k + 1, HS.out.2, by go_num, congrArg U HS.out.1.symm⟩
          case measure => have := HS.out.2; simp [intOf]; omega
    · obtain rfl : k = bs.length := by omega
      have hsub := sub_all (crcFrom 0xffffffff#32 bs)
      have HSUB := Lib.hid hsub
      rw [List.take_length] at *
      clear hsub
      go_wp2_with fail
      go_ret
      exact ⟨congrArg (fun z => Ending.returned (.int .u32 z)) HSUB.out, rfl⟩
end Go.Proofs.YtdmopnmifdjcnaaDoor
