/- SHA-256 as the reference says it, plain: one padded message. No program. Layer 1's reference: turn, constants by their contracts. The document's answer for layer 2's writer: by its contracts. Layer 1's reference: Sum by its contract. Layer 7's reference: what Leaf and Node lay and sum, by their contracts. Layer 7's reference: Leaf, Node by their contracts. Layer 7's reference: Root by its contract. Layer 7's reference: Path by its contract. -/
import Derived.Test.YtdekealpachhmaaDoorShaP
import Derived.Test.YtdekealpachhmaaDoorShaC
import Derived.Test.YtdekealpachhmaaDoorPackT
import Derived.Test.YtdekealpachhmaaDoorPackA
import Derived.Deep.Cut
import Derived.Deep.RegionLaw
import Derived.Test.YtdekealpachhmaaDoorRvG
import Derived.Lib.AppendStr
import Derived.Test.YtdekealpachhmaaDoorGrown

namespace Go.Isth
open Go

def zerosN (r : Nat) : Nat := tailSize r - 9 - r
/-- The message with all that is laid behind it. -/
def padF (bs : List UInt8) : List UInt8 := bs ++ (128 :: (List.replicate (zerosN (bs.length % 64)) 0 ++ be64 (bs.length * 8 % 18446744073709551616)))
def blocksN (n : Nat) : Nat := n / 64 + tailSize (n % 64) / 64
theorem zeros_fits (n z : Nat) (hz : z ≤ zerosN (n % 64)) : ((n + 1 + z) % 64 = 56 ↔ z = zerosN (n % 64)) := by
  unfold zerosN tailSize at *
  split at hz <;> split <;> omega
theorem zerosN_le (r : Nat) : zerosN (r % 64) ≤ 63 := by
  unfold zerosN tailSize; split <;> omega
theorem padF_length (bs : List UInt8) : (padF bs).length = 64 * blocksN bs.length := by
  unfold padF blocksN
  simp only [List.length_append, List.length_cons, List.length_replicate, be64_length]
  unfold zerosN tailSize
  split <;> omega
theorem sum_pad (bs : List UInt8) : sumF bs = outF (absN (blocksN bs.length) kStart (padF bs)) := by
  unfold sumF endF blocksN
  have hr : (bs.drop (bs.length / 64 * 64)).length = bs.length % 64 := by rw [List.length_drop]; omega
  rw [hr, absN_add]
  have h1 : absN (bs.length / 64) kStart (padF bs) = absN (bs.length / 64) kStart bs := by unfold padF; rw [absN_append _ _ _ _ (by omega)]
  have h2 : (padF bs).drop (64 * (bs.length / 64)) = tailF (bs.drop (bs.length / 64 * 64)) bs.length := by
    unfold padF tailF
    rw [List.drop_append_of_le_length (by omega), hr, Nat.mul_comm 64]
    rfl
  rw [h1, h2]
theorem ch_or (e f g : W32) : (e &&& f) ||| (~~~ e &&& g) = (e &&& f) ^^^ (~~~ e &&& g) := by
  apply BitVec.eq_of_getLsbD_eq
  intro i hi
  simp only [BitVec.getLsbD_or, BitVec.getLsbD_and, BitVec.getLsbD_xor, BitVec.getLsbD_not, hi, decide_true, Bool.true_and]
  cases e.getLsbD i <;> cases f.getLsbD i <;> cases g.getLsbD i <;> rfl
theorem maj_or (a b c : W32) : (a &&& b) ||| (a &&& c) ||| (b &&& c) = (a &&& b) ^^^ (a &&& c) ^^^ (b &&& c) := by
  apply BitVec.eq_of_getLsbD_eq
  intro i hi
  simp only [BitVec.getLsbD_or, BitVec.getLsbD_and, BitVec.getLsbD_xor]
  cases a.getLsbD i <;> cases b.getLsbD i <;> cases c.getLsbD i <;> rfl
theorem ones_xor (e : W32) : (4294967295#32 : W32) ^^^ e = ~~~ e := BitVec.allOnes_xor
theorem next_ref (l : List W32) (x16 x15 x7 x2 : W32) (h : wNext l = x16 + lowS x15 + x7 + highS x2) : wNext l = highS x2 + x7 + lowS x15 + x16 := by
  rw [h]; ac_rfl
/-- The words of a block, as far as they are reckoned. -/
def wordsK (b : List UInt8) (k : Nat) : List W32 := if k ≤ 16 then (words16 b).take k else schedN (k - 16) (words16 b)
theorem wordsK_length (b : List UInt8) (k : Nat) : (wordsK b k).length = k := by
  unfold wordsK
  split
  · rw [List.length_take, words16_length]; omega
  · rw [schedN_length, words16_length]; omega
theorem wordsK_next (b : List UInt8) (k : Nat) (h : 16 ≤ k) : wordsK b (k + 1) = snocW (wordsK b k) := by
  unfold wordsK
  rw [if_neg (by omega)]
  by_cases hk : k = 16
  · subst hk
    rw [if_pos (by omega), List.take_of_length_le (by rw [words16_length]; omega)]; rfl
  · rw [if_neg (by omega), show k + 1 - 16 = (k - 16) + 1 by omega]; rfl
theorem wordsK_low (b : List UInt8) (k : Nat) (h : k ≤ 16) : wordsK b k = (words16 b).take k := by unfold wordsK; rw [if_pos h]
theorem wordsK_end (b : List UInt8) : wordsK b 64 = schedN 48 (words16 b) := by unfold wordsK; rw [if_neg (by decide)]
#print axioms sum_pad
#print axioms next_ref
end Go.Isth

namespace Go.Isth
open Go Go.RowKit
/-- Two results that lie in blocks. -/
theorem results_cells2 {P : Program} {fn : Func} {p q : Tmp} {tp tq : TypeId} (h : fn.results = #[.cell p tp, .cell q tq]) (tmps : Array Value) (w : World) (g g' : Nat) (t t' : TypeId) (cs cs' : List Value) (d d' : TypeDesc)
    (hp : tmps.getD p undef = .pointer (some ⟨g, 0, none⟩)) (hg : Blk w g t cs) (hu : P.underlying tp = some d) (hd : (match d with | .struct _ => true | .array _ _ => true | _ => false) = true) (hi : (P.info? tp).map (·.size) = some cs.length)
    (hq : tmps.getD q undef = .pointer (some ⟨g', 0, none⟩)) (hg' : Blk w g' t' cs') (hu' : P.underlying tq = some d') (hd' : (match d' with | .struct _ => true | .array _ _ => true | _ => false) = true) (hi' : (P.info? tq).map (·.size) = some cs'.length) :
    (results fn tmps).run P w = .ok (.tuple #[.agg cs.toArray, .agg cs'.toArray]) w := by
  have hl := run_load_agg (P := P) hu hd hi w ⟨g, 0, none⟩ cs rfl (fun j u hj => by rw [add_plain, Nat.zero_add]; exact hg.cellD j u hj)
  have hl' := run_load_agg (P := P) hu' hd' hi' w ⟨g', 0, none⟩ cs' rfl (fun j u hj => by rw [add_plain, Nat.zero_add]; exact hg'.cellD j u hj)
  have hp2 : tmps[p]?.getD undef = .pointer (some ⟨g, 0, none⟩) := by simpa using hp
  have hq2 : tmps[q]?.getD undef = .pointer (some ⟨g', 0, none⟩) := by simpa using hq
  simp [results, h, hp2, hq2, asAddr, hl, hl', Result.andThen]
end Go.Isth
namespace Go.Proofs.YtdekealpachhmaaDoor
open Go Go.RowKit Go.Isth

def rotT (x : W32) (k : Int) : W32 := rotr x k.toNat
theorem turn_any (x : W32) (k : Int) (w : World) (h0 : 0 < k) (h1 : k < 32) : Calls Tryd.prog 100 #[U x, .int .u64 k] w fun e w' => e = .returned (U (rotT x k)) ∧ w' = w := by
  obtain ⟨m, rfl⟩ := Int.eq_ofNat_of_zero_le (show 0 ≤ k by omega)
  have hm : m < 32 := by omega
  have hsub : (32 : Int) - (m : Int) = ((32 - m : Nat) : Int) := by omega
  go_enter Tryd.func100, Tryd.ntmps100
  go_wp2
  go_ret
  refine ⟨congrArg (fun z => Ending.returned (.int .u32 z)) ?_, rfl⟩
  rw [shl32, shr32, or32, BitVec.or_comm]
  rfl
abbrev kVals : List Value := [.int .u32 1116352408, .int .u32 1899447441, .int .u32 3049323471, .int .u32 3921009573, .int .u32 961987163, .int .u32 1508970993, .int .u32 2453635748, .int .u32 2870763221, .int .u32 3624381080, .int .u32 310598401, .int .u32 607225278, .int .u32 1426881987, .int .u32 1925078388, .int .u32 2162078206, .int .u32 2614888103, .int .u32 3248222580, .int .u32 3835390401, .int .u32 4022224774, .int .u32 264347078, .int .u32 604807628, .int .u32 770255983, .int .u32 1249150122, .int .u32 1555081692, .int .u32 1996064986, .int .u32 2554220882, .int .u32 2821834349, .int .u32 2952996808, .int .u32 3210313671, .int .u32 3336571891, .int .u32 3584528711, .int .u32 113926993, .int .u32 338241895, .int .u32 666307205, .int .u32 773529912, .int .u32 1294757372, .int .u32 1396182291, .int .u32 1695183700, .int .u32 1986661051, .int .u32 2177026350, .int .u32 2456956037, .int .u32 2730485921, .int .u32 2820302411, .int .u32 3259730800, .int .u32 3345764771, .int .u32 3516065817, .int .u32 3600352804, .int .u32 4094571909, .int .u32 275423344, .int .u32 430227734, .int .u32 506948616, .int .u32 659060556, .int .u32 883997877, .int .u32 958139571, .int .u32 1322822218, .int .u32 1537002063, .int .u32 1747873779, .int .u32 1955562222, .int .u32 2024104815, .int .u32 2227730452, .int .u32 2361852424, .int .u32 2428436474, .int .u32 2756734187, .int .u32 3204031479, .int .u32 3329325298]
theorem kVals_eq : kTab.map U = kVals := by kernel_rfl
abbrev hVals : List Value := [.int .u32 1779033703, .int .u32 3144134277, .int .u32 1013904242, .int .u32 2773480762, .int .u32 1359893119, .int .u32 2600822924, .int .u32 528734635, .int .u32 1541459225]
theorem hVals_eq : kStart.list.map U = hVals := by kernel_rfl
set_option maxRecDepth 100000 in
set_option maxHeartbeats 2000000 in
theorem constants_any (w : World) : Calls Tryd.prog 99 #[] w fun e w' => e = .returned (.tuple #[.agg (kTab.map U).toArray, WV kStart]) ∧ Below w.heap.size w w' := by
  go_enter Tryd.func99, Tryd.ntmps99
  go_upto_region 1 with fail
  have hz1 := (Blk_new w (List.replicate 64 (Value.int .u32 0)) 186).alloc (.cells (List.replicate 8 (Value.int .u32 0)).toArray 164)
  have hz2 := Blk_new (w.alloc (.cells (List.replicate 64 (Value.int .u32 0)).toArray 186)) (List.replicate 8 (Value.int .u32 0)) 164
  have hb0 := ((Below.refl w.heap.size w).alloc (Nat.le_refl _) (.cells (List.replicate 64 (Value.int .u32 0)).toArray 186)).alloc (by simp) (.cells (List.replicate 8 (Value.int .u32 0)).toArray 164)
  simp only [World.size_alloc] at hz2
  change Code.wp _ _ _ _ ((w.alloc (.cells (List.replicate 64 (Value.int .u32 0)).toArray 186)).alloc (.cells (List.replicate 8 (Value.int .u32 0)).toArray 164))
  generalize (w.alloc (.cells (List.replicate 64 (Value.int .u32 0)).toArray 186)).alloc (.cells (List.replicate 8 (Value.int .u32 0)).toArray 164) = w0 at *
  go_wp2_with (first
    | (refine wpList_store_blk rfl 186 (.tmp 0) (.tmp 2) rfl w.heap.size kVals rfl rfl 186 _ hz1 (by kernel_rfl) (by rfl) (by decide) ?_; intro w1 hw1 hg1
       have hz3 := hz2.grown hg1 (by simp)
       have hb1 := hb0.grown hg1 hb0.size (fun k e => by injection e with e; omega))
    | (refine wpList_store_blk rfl 164 (.tmp 1) (.tmp 3) rfl (w.heap.size + 1) hVals rfl rfl 164 _ hz3 (by kernel_rfl) (by rfl) (by decide) ?_; intro w2 hw2 hg2
       have hz4 := hw1.grown hg2 (by simp)
       have hb2 := hb1.grown hg2 hb1.size (fun k e => by injection e with e; omega)))
  refine bodyPost_ret (results_cells2 rfl _ _ w.heap.size (w.heap.size + 1) 186 164 kVals hVals _ _ rfl hz4 Tryd.underlying186 rfl (by kernel_rfl) rfl hw2 Tryd.underlying164 rfl (by kernel_rfl)) rfl ⟨by rw [kVals_eq]; show _ = Ending.returned (.tuple #[_, .agg (kStart.list.map U).toArray]); rw [hVals_eq], hb2⟩
#print axioms turn_any
#print axioms constants_any
end Go.Proofs.YtdekealpachhmaaDoor

namespace Go.Proofs.YtdekealpachhmaaDoor
open Go Go.RowKit Go.Isth

def RefInv (w : World) (cs : List UInt8) (n : Nat) (x o : Value) (wr : World) : Prop :=
  ∃ (m : Nat) (pre : List UInt8), x = .int .u64 m ∧ m ≤ n ∧ varint n = pre ++ varint m ∧ wr.ownsRow w.heap.size 5 1 o (cs ++ pre).length ((cs ++ pre).map B) ∧ Below w.heap.size w wr

set_option maxRecDepth 100000 in
set_option maxHeartbeats 1000000 in
theorem refUint_any (A : Option Addr) (c : Nat) (cs : List UInt8) (n : Nat) (w : World) (hn : n < 18446744073709551616) (hr : Rd w A (cs.map B)) (hm : cs.length ≤ 35184372088832) :
    Calls Tryd.prog 80 #[.slice A cs.length c, .int .u64 n] w fun e w' => ∃ v, e = .returned v ∧ w'.ownsRow w.heap.size 5 1 v (cs ++ varint n).length ((cs ++ varint n).map B) ∧ Below w.heap.size w w' := by
  have HN := Lib.hid hn
  have HM := Lib.hid hm
  have HL10 := Lib.hid (varint_len10 n hn)
  clear hn hm
  go_enter Tryd.func80, Tryd.ntmps80
  go_wp2_with (at_builtin; refine wpList_app tBp rfl _ _ rfl w.heap.size _ 0 [] rfl (World.ownsRow_nil _ _ _ _) _ cs.length _ _ rfl hr (by simp) one_bytes ?c2 ?c3 (Nat.le_refl _) ?_)
  case c2 => have := HM.out; unfold maxLen; omega
  case c3 => have := HM.out; omega
  intro v1 w1 ho1 hx1
  have hb1 : Below w.heap.size w w1 := hx1.below (Nat.le_refl _) (fun k e => by cases e)
  have HO := Lib.hid ho1
  have HB1 := Lib.hid hb1
  clear ho1 hx1 hb1 hr
  go_wp2_with fail
  go_loopw [1, 5] (fun x o wr => RefInv w cs n x o wr) (fun x _ _ => (intOf x).toNat)
  case atStart => exact ⟨n, [], rfl, Nat.le_refl _, rfl, by simpa using HO.out, HB1.out⟩
  case round =>
    obtain ⟨m, pre, rfl, hmn, hv, hown, hbw⟩ := hrel
    have hpl : (cs ++ pre).length ≤ 35184372088842 := by have := HL10.out; rw [hv, List.length_append] at this; have := HM.out; rw [List.length_append]; omega
    have hsm := hbw.size
    by_cases hlt : m < 128
    · rw [varint_small hlt] at hv
      have hB := B_ofNat (n := m) (by omega)
      have HV := Lib.hid hv
      have HL := Lib.hid hpl
      have HBW := Lib.hid hbw
      clear hv hpl hbw hmn
      generalize UInt8.ofNat m = y at *
      have HB := Lib.hid hB
      clear hB
      go_wp2_with (at_builtin; refine wpList_app tBp rfl _ _ rfl w.heap.size _ _ _ rfl (hown.alloc _) _ 1 1 [.int .u8 (m : Int)] rfl (Rd_alloc _ _ _) rfl ?c1 ?c2 ?c3 ?c4 ?_)
      case c1 => exact one_cell1 rfl
      case c2 => have := HL.out; unfold maxLen; omega
      case c3 => have := HL.out; omega
      case c4 => rw [World.size_alloc]; omega
      intro v2 w2 ho2 hx2
      have hb2 : Below w.heap.size w w2 := HBW.out.trans (((Below.refl w.heap.size wr).alloc hsm _).trans (hx2.below (by rw [World.size_alloc]; omega) (fun k e => (hown.lt k e).1)))
      have HO2 := Lib.hid ho2
      have HB2 := Lib.hid hb2
      clear ho2 hx2 hb2 hown
      go_wp2
      go_ret
      refine ⟨_, rfl, ?_, HB2.out⟩
      have h := HO2.out
      rw [HV.out, ← List.append_assoc, List.length_append, List.map_append]
      simpa [HB.out] using h
    · rw [varint_great hlt] at hv
      have hB : B (UInt8.ofNat (m % 128 + 128)) = .int .u8 ((m : Int) % 128 + 128) := by rw [B_ofNat (n := m % 128 + 128) (by omega)]; simp
      have hmi : (128 : Int) ≤ (m : Int) := by omega
      have hw8 : IntKind.u8.wrap (IntKind.u8.wrap ((m : Int) % 128) + 128) = ((m % 128 + 128 : Nat) : Int) := by
        simp only [IntKind.wrap, IntKind.bits, IntKind.signed, Bool.false_and, Bool.false_eq_true, if_false]
        omega
      have HV := Lib.hid hv
      have HL := Lib.hid hpl
      have HBW := Lib.hid hbw
      have HMN := Lib.hid hmn
      have hq : IntKind.u64.wrap ((m : Int) / 128) = ((m / 128 : Nat) : Int) := by
        have := HN.out
        rw [← u64_nat (n := m / 128) (by omega), Int.natCast_ediv]; rfl
      have HQ := Lib.hid hq
      clear hv hpl hbw hmn hq
      generalize UInt8.ofNat (m % 128 + 128) = y at *
      have HB := Lib.hid hB
      clear hB
      go_wp2_with (at_builtin; refine wpList_app tBp rfl _ _ rfl w.heap.size _ _ _ rfl (hown.alloc _) _ 1 1 [.int .u8 ((m : Int) % 128 + 128)] rfl (Rd_alloc _ _ _) rfl ?c1 ?c2 ?c3 ?c4 ?_)
      case c1 => exact one_cell1 rfl
      case c2 => have := HL.out; unfold maxLen; omega
      case c3 => have := HL.out; omega
      case c4 => rw [World.size_alloc]; omega
      intro v2 w2 ho2 hx2
      have hb2 : Below w.heap.size w w2 := HBW.out.trans (((Below.refl w.heap.size wr).alloc hsm _).trans (hx2.below (by rw [World.size_alloc]; omega) (fun k e => (hown.lt k e).1)))
      have HO2 := Lib.hid ho2
      have HB2 := Lib.hid hb2
      clear ho2 hx2 hb2 hown
      go_wp2
      go_round
      case rel =>
        refine ⟨m / 128, pre ++ [y], congrArg (Value.int .u64) HQ.out, by have := HMN.out; omega, by rw [HV.out]; simp, ?_, HB2.out⟩
        have h := HO2.out
        rw [← List.append_assoc, List.length_append, List.map_append]
        simpa [HB.out] using h
      case measure => simp only [intOf]; rw [HQ.out]; simp; omega




theorem refHash_any (A : Option Addr) (c : Nat) (cs hs : List UInt8) (w : World) (hh : hs.length = 32) (hr : Rd w A (cs.map B)) (hm : cs.length ≤ 17592186044416) :
    Calls Tryd.prog 79 #[.slice A cs.length c, .agg (hs.map B).toArray] w fun e w' => ∃ v, e = .returned v ∧ w'.ownsRow w.heap.size 5 1 v (cs ++ hs).length ((cs ++ hs).map B) ∧ Below w.heap.size w w' := by
  have HM := Lib.hid hm
  have HH := Lib.hid hh
  clear hm hh
  go_enter Tryd.func79, Tryd.ntmps79
  go_upto_region 2 with fail
  have hr1 := hr.alloc (.cells (hs.map B).toArray 46)
  have hh1 : Rd (w.alloc (.cells (hs.map B).toArray 46)) (some ⟨w.heap.size, 0, none⟩) (hs.map B) := by simpa using Rd_alloc w (hs.map B).toArray 46
  have hsz : (w.alloc (.cells (hs.map B).toArray 46)).heap.size = w.heap.size + 1 := World.size_alloc _ _
  have hb1 : Below w.heap.size w (w.alloc (.cells (hs.map B).toArray 46)) := (Below.refl _ _).alloc (Nat.le_refl _) _
  generalize hw0 : w.alloc (.cells (hs.map B).toArray 46) = w0 at *
  clear hw0
  have hbase : w.heap.size ≤ w0.heap.size := by omega
  have HS := Lib.hid hsz
  have HR1 := Lib.hid hr1
  have HH1 := Lib.hid hh1
  have HB1 := Lib.hid hb1
  have HBS := Lib.hid hbase
  have hl1 : (cs.map B).length = cs.length * 1 := by simp
  have hl2 : (hs.map B).length = 32 * 1 := by simp [HH.out]
  have hm1 : 0 + cs.length ≤ maxLen := by have := HM.out; unfold maxLen; omega
  have hm2 : (0 + cs.length) * 1 ≤ 140737488355328 := by have := HM.out; omega
  have hm3 : (0 + cs.length) + 32 ≤ maxLen := by have := HM.out; unfold maxLen; omega
  have hm4 : ((0 + cs.length) + 32) * 1 ≤ 140737488355328 := by have := HM.out; omega
  have HX1 := Lib.hid (And.intro hl1 (And.intro hm1 hm2))
  have HX2 := Lib.hid (And.intro hl2 (And.intro hm3 hm4))
  clear hr hr1 hh1 hsz hb1 hbase hl1 hl2 hm1 hm2 hm3 hm4
  go_region_law (first
    | (refine step_app tBp rfl (.tmp 6) (.tmp 7) rfl w.heap.size (.slice none 0 0) 0 [] rfl (World.ownsRow_nil _ _ _ _) A cs.length c (cs.map B) rfl HR1.out HX1.out.1 one_bytes HX1.out.2.1 HX1.out.2.2 HBS.out ?_; intro v1 w1 ho1 hx1)
    | (refine step_app tBp rfl (.tmp 8) (.tmp 9) rfl w.heap.size v1 (0 + cs.length) ([] ++ cs.map B) rfl ho1 (some ⟨w.heap.size, 0, none⟩) 32 32 (hs.map B) rfl (HH1.out.below (of_drew (hx1.below (Nat.le_refl _) (fun k e => by cases e)))) HX2.out.1 one_bytes HX2.out.2.1 HX2.out.2.2 (Nat.le_trans HBS.out hx1.size) ?_; intro v2 w2 ho2 hx2))
  go_wp2
  go_ret
  refine ⟨_, rfl, ?_, HB1.out.trans ((of_drew (hx1.below (Nat.le_refl _) (fun k e => by cases e))).mono HBS.out |>.trans (hx2.below (Nat.le_trans HBS.out hx1.size) (fun k e => (ho1.lt k e).1)))⟩
  have e1 : (cs ++ hs).length = 0 + cs.length + 32 := by have := HH.out; simp; omega
  have e2 : (cs ++ hs).map B = [] ++ cs.map B ++ hs.map B := by simp
  rw [e1, e2]
  exact ho2
end Go.Proofs.YtdekealpachhmaaDoor

namespace Go.Proofs.YtdekealpachhmaaDoor
open Go Go.RowKit Go.Isth

def PadInv1 (w1 : World) (bs : List UInt8) (v5 : Value) (wr : World) : Prop :=
  ∃ z n : Nat, z ≤ zerosN (bs.length % 64) ∧ n = bs.length + 1 + z ∧ wr.ownsRow w1.heap.size 5 1 v5 n ((bs ++ (128 :: List.replicate z 0)).map B) ∧ Below w1.heap.size w1 wr
def PadInv2 (w1 : World) (ms : List UInt8) (N : Nat) (v5 v7 : Value) (wr : World) : Prop :=
  ∃ k n : Nat, k ≤ 8 ∧ n = ms.length + k ∧ v7 = .int .i64 (7 - (k : Int)) ∧ wr.ownsRow w1.heap.size 5 1 v5 n ((ms ++ (be64 N).take k).map B) ∧ Below w1.heap.size w1 wr
theorem be64_at (n j k : Nat) (hj : j < 8) (hk : k = 7 - j) (hn : n * 8 < 18446744073709551616) : ∃ x : UInt8, (be64 (n * 8))[k]? = some x ∧ (n : Int) * 8 / 2 ^ (8 * j) % 256 = (x.toNat : Int) := by
  refine ⟨(be64 (n * 8 % 18446744073709551616))[7 - j]'(by rw [be64_length]; omega), ?_, ?_⟩
  · subst hk
    rw [List.getElem?_eq_getElem (by rw [be64_length]; omega)]
    simp only [Nat.mod_eq_of_lt hn]
  · have h := be64_val n j hj
    rw [show IntKind.u64.wrap ((n : Int) * 8) = (n : Int) * 8 by simp only [IntKind.wrap, IntKind.bits, IntKind.signed, Bool.false_and, Bool.false_eq_true, if_false]; omega] at h
    rw [← h]
    simp only [IntKind.wrap, IntKind.bits, IntKind.signed, Bool.false_and, Bool.false_eq_true, if_false]
    rfl
abbrev IJ (n : Nat) : Value := .int .i64 (n : Int)
/-- What stands at a block's begin. -/
structure RefS (w : World) (gk : Nat) (csk : List Value) (s : R8) (A : Option Addr) (ps : List UInt8) (wr : World) : Prop where
  kb : Blk wr gk 186 csk
  hb : Blk wr (gk + 1) 164 (s.list.map U)
  rb : Blk wr w.heap.size 46 (List.replicate 32 (B 0))
  rd : Rd wr A (ps.map B)
  bl : Below w.heap.size w wr
theorem RefS.below {w : World} {gk : Nat} {csk : List Value} {s : R8} {A : Option Addr} {ps : List UInt8} {wr wr' : World} (h : RefS w gk csk s A ps wr) (hb : Below wr.heap.size wr wr') : RefS w gk csk s A ps wr' :=
  ⟨h.kb.below hb, h.hb.below hb, h.rb.below hb, h.rd.below hb, below_then h.bl h.bl.size hb⟩
theorem RefS.grown {w : World} {gk : Nat} {csk : List Value} {s t : R8} {A : Option Addr} {ps : List UInt8} {wr wr' : World} (h : RefS w gk csk s A ps wr) (hg : wr.grownBy wr' (some (gk + 1))) (hb' : Blk wr' (gk + 1) 164 (t.list.map U)) (hne : ∀ ad, A = some ad → ad.block ≠ gk + 1) (hgk : w.heap.size < gk) : RefS w gk csk t A ps wr' :=
  ⟨h.kb.grown hg (by simp), hb', h.rb.grown hg (by simp; omega), h.rd.grown hg (fun ad e e' => hne ad e (by injection e' with e'; exact e'.symm)), h.bl.grown hg h.bl.size (fun k e => by injection e with e; omega)⟩
def AddInv (wv : World) (gk : Nat) (s t : R8) (v20 : Value) (wx : World) : Prop :=
  ∃ k : Nat, k ≤ 8 ∧ v20 = IJ k ∧ Blk wx (gk + 1) 164 ((cur8 s t k).map U) ∧ wv.grownBy wx (some (gk + 1))
def OutInv (wv : World) (o : List UInt8) (v22 : Value) (wx : World) : Prop :=
  ∃ k : Nat, k ≤ 32 ∧ v22 = IJ k ∧ Blk wx wv.heap.size 46 ((outK o k).map B) ∧ Below wv.heap.size wv wx
def BlkInv (w : World) (gk nb : Nat) (csk : List Value) (A : Option Addr) (ps : List UInt8) (v8 : Value) (wr : World) : Prop :=
  ∃ j q : Nat, j ≤ nb ∧ q = 64 * j ∧ v8 = IJ q ∧ RefS w gk csk (absN j kStart ps) A ps wr
def WordInv (wr : World) (b : List UInt8) (v10 : Value) (wx : World) : Prop :=
  ∃ k : Nat, k ≤ 64 ∧ v10 = IJ k ∧ Blk wx wr.heap.size 186 (wcells (wordsK b k)) ∧ Below wr.heap.size wr wx
def RndInv (ww : World) (ws : List W32) (s : R8) (v15 : Value) (wx : World) : Prop :=
  ∃ (k : Nat) (a c d e f g h i : W32), k ≤ 64 ∧ v15 = IJ k ∧ roundsN kTab ws k s = ⟨a, c, d, e, f, g, h, i⟩ ∧ Blk wx ww.heap.size 164 ([a, c, d, e, f, g, h, i].map U) ∧ Below ww.heap.size ww wx
theorem xor_lit (x : W32) : bits .xor .u32 4294967295 (x.toNat : Int) = ((~~~ x).toNat : Int) := by
  rw [show (4294967295 : Int) = ((4294967295#32 : W32).toNat : Int) from rfl, xor32, ones_xor]
def sliceN : Value → Nat
  | .slice _ n _ => n
  | _ => 0
set_option maxRecDepth 100000 in
set_option maxHeartbeats 20000000 in
theorem refsum_any (A : Option Addr) (c : Nat) (bs : List UInt8) (w : World) (hm : bs.length ≤ 140737488355200) (hr : Rd w A (bs.map B)) :
    Calls Tryd.prog 77 #[.slice A bs.length c] w fun e w' => e = .returned (HV (sumF bs)) ∧ Below w.heap.size w w' := by
  have HT := Lib.hid (And.intro hm hr)
  have hlen : bs.length ≤ 140737488355200 := hm
  clear hm hr
  go_enter Tryd.func77, Tryd.ntmps77
  go_wp2_with fail
  have hz0 := Blk_new w (List.replicate 32 (B 0)) 46
  have hb0 := (Below.refl w.heap.size w).alloc (Nat.le_refl _) (.cells (List.replicate 32 (B 0)).toArray 46)
  refine (constants_any _).mono ?_
  rintro e w1 ⟨rfl, hb1⟩
  have H1 := Lib.hid (And.intro (hz0.below hb1) (below_then hb0 hb0.size hb1))
  clear hz0 hb0 hb1
  obtain ⟨csk, hcsk⟩ : ∃ cs, cs = kTab.map U := ⟨_, rfl⟩
  obtain ⟨csh, hcsh⟩ : ∃ cs, cs = kStart.list.map U := ⟨_, rfl⟩
  rw [← hcsk, show WV kStart = .agg csh.toArray by rw [hcsh]]
  have hkl : csk.length = 64 := by rw [hcsk, List.length_map]; rfl
  have hhl : csh.length = 8 := by rw [hcsh]; rfl
  have hk1 : ∀ u ∈ csk, u.oneCell' = true := by rw [hcsk]; decide
  have hh1 : ∀ u ∈ csh, u.oneCell' = true := by rw [hcsh]; decide
  have HCK := Lib.hid (And.intro hcsk (And.intro hcsh (And.intro (show (some 64 : Option Nat) = some csk.length by rw [hkl]) (show (some 8 : Option Nat) = some csh.length by rw [hhl]))))
  clear hcsk hcsh
  have hy1 := (Blk_new w1 (List.replicate 64 (Value.int .u32 0)) 186).alloc (.cells (List.replicate 8 (Value.int .u32 0)).toArray 164)
  have hy2 := Blk_new (w1.alloc (.cells (List.replicate 64 (Value.int .u32 0)).toArray 186)) (List.replicate 8 (Value.int .u32 0)) 164
  have hyb := ((Below.refl w1.heap.size w1).alloc (Nat.le_refl _) (.cells (List.replicate 64 (Value.int .u32 0)).toArray 186)).alloc (by simp) (.cells (List.replicate 8 (Value.int .u32 0)).toArray 164)
  simp only [World.size_alloc] at hy2
  go_upto_region 3 with (first
    | (refine wpList_store_blk rfl 186 (.tmp 3) (.tmp 25) rfl w1.heap.size csk rfl rfl 186 (List.replicate 64 (.int .u32 0)) hy1 (Eq.trans (by kernel_rfl) HCK.out.2.2.1) (by rw [hkl]; rfl) hk1 ?_; intro w2 hw2 hg2
       have hy3 := hy2.grown hg2 (by simp)
       have hb2 := hyb.grown hg2 hyb.size (fun k e => by injection e with e; omega))
    | (refine wpList_store_blk rfl 164 (.tmp 4) (.tmp 26) rfl (w1.heap.size + 1) csh rfl rfl 164 _ hy3 (Eq.trans (by kernel_rfl) HCK.out.2.2.2) (by rw [hhl]; rfl) hh1 ?_; intro w3 hw3 hg3
       have hy4 := hw2.grown hg3 (by simp)
       have hb3 := hb2.grown hg3 hb2.size (fun k e => by injection e with e; omega)))
  have H3 := Lib.hid (And.intro hy4 (And.intro hw3 (And.intro (below_then H1.out.2 H1.out.2.size hb3) (And.intro (H1.out.1.below hb3) (And.intro hw3.lt (Nat.lt_of_lt_of_le H1.out.1.lt (Nat.le_refl _)))))))
  clear hy1 hy2 hyb hy3 hw2 hg2 hb2 hw3 hg3 hy4 hb3 hk1 hh1
  generalize hgk : w1.heap.size = gk at *
  have HGK := Lib.hid hgk
  clear hgk
  have HL := Lib.hid (show 0 + bs.length ≤ maxLen ∧ (0 + bs.length) * 1 ≤ 140737488355328 ∧ bs.length + 1 ≤ maxLen ∧ (bs.length + 1) * 1 ≤ 140737488355328 by unfold maxLen; omega)
  go_wp2_with (at_builtin; refine wpList_app tBs rfl _ _ rfl w3.heap.size (.slice none 0 0) 0 [] rfl (World.ownsRow_nil _ _ _ _) A bs.length c (bs.map B) rfl (HT.out.2.below H3.out.2.2.1) (by simp) one_bytes HL.out.1 HL.out.2.1 (Nat.le_refl _) ?_)
  intro v4 w4 ho4 hx4
  obtain ⟨A4, c4, rfl, _⟩ := own_slice ho4
  have hb4 := hx4.below (B := w3.heap.size) (Nat.le_refl _) (fun k e => by cases e)
  have H4 := Lib.hid (And.intro (ho4.kept (w' := w4.alloc (.cells #[B 128] 5)) (grown_of_below ((Below.refl _ _).alloc (Nat.le_refl _) _) none) (by cases (Value.slice A4 bs.length c4).ownBlock <;> simp)) (hb4.alloc hb4.size (.cells #[B 128] 5)))
  clear ho4 hx4 hb4
  go_wp2_with (at_builtin; refine wpList_app tBs rfl _ _ rfl w3.heap.size _ bs.length (bs.map B) rfl H4.out.1 (some ⟨w4.heap.size, 0, none⟩) 1 1 [B 128] rfl (Rd_alloc w4 #[B 128] 5) rfl (one_cell1 rfl) HL.out.2.2.1 HL.out.2.2.2 H4.out.2.size ?_)
  intro v5 w5 ho5 hx5
  have hb5 := H4.out.2.grown hx5.grown H4.out.2.size (fun k e => (H4.out.1.lt k e).1)
  obtain ⟨A5, c5, rfl, _⟩ := own_slice ho5
  have H5 := Lib.hid (And.intro ho5 hb5)
  clear ho5 hx5 hb5
  go_wp2_with fail
  go_loopw [5] (fun v5 wr => PadInv1 w3 bs v5 wr) (fun v5 _ => bs.length + 100 - sliceN v5)
  case atStart => exact ⟨0, _, Nat.zero_le _, rfl, by simpa using H5.out.1, H5.out.2⟩
  case round =>
    obtain ⟨z, n, hz, hn, ho, hB⟩ := hrel
    have hzf := zeros_fits bs.length z hz
    have hz63 := zerosN_le bs.length
    rw [← hn] at hzf
    obtain ⟨A6, c6, rfl, _⟩ := own_slice ho
    by_cases hlt : z < zerosN (bs.length % 64)
    · have hne : ((n : Int) % 64 != 56) = true := by rw [bne_iff_ne]; omega
      have HS := Lib.hid (And.intro hn (And.intro ho (And.intro hB hlt)))
      have HM := Lib.hid (show n + 1 ≤ maxLen ∧ (n + 1) * 1 ≤ 140737488355328 by unfold maxLen; omega)
      have hn2 : n ≤ 140737488355300 := by omega
      clear hn ho hB hlt hz hzf hz63
      go_wp2_with (at_builtin; refine wpList_app tBs rfl _ _ rfl w3.heap.size _ n ((bs ++ (128 :: List.replicate z 0)).map B) rfl (HS.out.2.1.alloc _) (some ⟨wr.heap.size, 0, none⟩) 1 1 [B 0] rfl (Rd_alloc _ _ _) rfl (one_cell1 rfl) HM.out.1 HM.out.2 (by have := HS.out.2.2.1.size; rw [World.size_alloc]; omega) ?_)
      intro v7 w7 ho7 hx7
      have hb7 := (HS.out.2.2.1.alloc HS.out.2.2.1.size (.cells #[B 0] 5)).grown hx7.grown (by have := HS.out.2.2.1.size; rw [World.size_alloc]; omega) (fun q e => (HS.out.2.1.lt q e).1)
      obtain ⟨A7, c7, rfl, _⟩ := own_slice ho7
      have H7 := Lib.hid (And.intro ho7 hb7)
      clear ho7 hx7 hb7
      go_wp2_with fail
      go_roundw
      case rel =>
        refine ⟨z + 1, n + 1, HS.out.2.2.2, by have := HS.out.1; omega, ?_, H7.out.2⟩
        have e : bs ++ (128 :: List.replicate (z + 1) 0) = (bs ++ (128 :: List.replicate z 0)) ++ [0] := by rw [List.replicate_succ']; simp
        rw [e]
        simpa using H7.out.1
      case measure => have := HS.out.1; have := HS.out.2.2.2; have := zerosN_le bs.length; simp [sliceN]; omega
    · obtain rfl : z = zerosN (bs.length % 64) := by omega
      have hne : ((n : Int) % 64 != 56) = false := by have := hzf.2 rfl; simp; omega
      have hml : (bs ++ (128 :: List.replicate (zerosN (bs.length % 64)) (0 : UInt8))).length = n := by simp; omega
      have hpad : padF bs = (bs ++ (128 :: List.replicate (zerosN (bs.length % 64)) 0)) ++ be64 (bs.length * 8) := by
        unfold padF
        rw [Nat.mod_eq_of_lt (show bs.length * 8 < 18446744073709551616 by omega)]
        simp
      generalize bs ++ (128 :: List.replicate (zerosN (bs.length % 64)) (0 : UInt8)) = ms at *
      have HS := Lib.hid (And.intro hml (And.intro hpad (And.intro ho hB)))
      have hn2 : n ≤ 140737488355300 := by omega
      have hn8 : bs.length * 8 < 18446744073709551616 := by omega
      clear hml hpad ho hB hz hn hzf hz63 hlt
      go_wp2_with fail
      go_loopw [5, 7] (fun v5 v7 wr => PadInv2 w3 ms (bs.length * 8) v5 v7 wr) (fun _ v7 _ => (intOf v7 + 1).toNat)
      case atStart => exact ⟨0, n, Nat.zero_le _, by rw [HS.out.1]; rfl, rfl, by simpa using HS.out.2.2.1, HS.out.2.2.2⟩
      case round =>
        obtain ⟨k, n', hk, hn', rfl, ho, hB⟩ := hrel
        obtain ⟨A8, c8, rfl, _⟩ := own_slice ho
        by_cases hlt : k < 8
        · obtain ⟨j, hj, hkj⟩ : ∃ j, j < 8 ∧ k = 7 - j := ⟨7 - k, by omega, by omega⟩
          obtain ⟨x, hx, hv⟩ := be64_at bs.length j k hj hkj hn8
          rw [show (7 : Int) - (k : Int) = (j : Int) by omega]
          have HQ := Lib.hid (And.intro hn' (And.intro ho (And.intro hB (And.intro hlt (And.intro hj (And.intro hkj hx))))))
          have hj8 : (j : Int) < 8 := by omega
          have s2 : (8 * (j : Int)).toNat = 8 * j := by omega
          have hq1 : n' ≤ 140737488355320 := by have := HS.out.1; omega
          have HM := Lib.hid (show n' + 1 ≤ maxLen ∧ (n' + 1) * 1 ≤ 140737488355328 by unfold maxLen; omega)
          clear hn' ho hB hlt hk hj hkj hx hn2 hn8
          go_wp2_with (at_builtin; go_loud (refine wpList_app tBs rfl _ _ rfl w3.heap.size _ n' ((ms ++ (be64 (bs.length * 8)).take k).map B) rfl (HQ.out.2.1.alloc _) (some ⟨wr.heap.size, 0, none⟩) 1 1 [B x] rfl (Rd_alloc _ _ _) rfl (one_cell1 rfl) HM.out.1 HM.out.2 (by have := HQ.out.2.2.1.size; rw [World.size_alloc]; omega) ?_))
          intro v7 w7 ho7 hx7
          have hb7 := (HQ.out.2.2.1.alloc HQ.out.2.2.1.size (.cells #[B x] 5)).grown hx7.grown (by have := HQ.out.2.2.1.size; rw [World.size_alloc]; omega) (fun q e => (HQ.out.2.1.lt q e).1)
          obtain ⟨A7, c7, rfl, _⟩ := own_slice ho7
          have H7 := Lib.hid (And.intro ho7 hb7)
          clear ho7 hx7 hb7
          go_wp2_with fail
          go_roundw
          case rel =>
            refine ⟨k + 1, n' + 1, HQ.out.2.2.2.1, by have := HQ.out.1; omega, ?_, ?_, H7.out.2⟩
            · have := HQ.out.2.2.2.2.2.1; have := HQ.out.2.2.2.1; congr 1; omega
            · rw [List.take_add_one, HQ.out.2.2.2.2.2.2]
              simpa using H7.out.1
          case measure => simp [intOf]
        · obtain rfl : k = 8 := by omega
          rw [List.take_of_length_le (by rw [be64_length]; omega)] at ho
          have hnb := padF_length bs
          rw [HS.out.2.1, List.length_append, be64_length, ← hn'] at hnb
          rw [← HS.out.2.1] at ho
          have hsum := sum_pad bs
          generalize padF bs = ps at *
          generalize hnbe : blocksN bs.length = nb at *
          obtain ⟨A9, c9, e9, hc9, hr9, _, hat9⟩ := own_slice ho
          injection e9 with e91 e92 e93
          subst e91; subst e93
          have hpl : ps.length = n' := by have := ho.1; simpa using this
          have hBw : Below w.heap.size w wr := below_then H3.out.2.2.1 H3.out.2.2.1.size hB
          have HP := Lib.hid (And.intro hnb (And.intro hsum (And.intro hpl hat9)))
          have HSS : Hid (RefS w gk csk kStart A8 ps wr) := Lib.hid ⟨H3.out.1.below hB, by rw [← HCK.out.2.1]; exact H3.out.2.1.below hB, H3.out.2.2.2.1.below hB, hr9, hBw⟩
          have hq1 : n' ≤ 140737488355308 := by have := HS.out.1; omega
          clear ho hB hr9 hc9 hat9 hpl hBw hsum hnb hn' hnbe hlt hk hn2 hn8 hne
          go_wp2_with fail
          go_loopw [8] (fun v8 wx => BlkInv w gk nb csk A8 ps v8 wx) (fun v8 _ => n' - (intOf v8).toNat)
          case atStart => exact ⟨0, 0, Nat.zero_le _, rfl, rfl, HSS.out⟩
          clear HSS
          case round =>
            obtain ⟨j, q, hj, hq, rfl, hR⟩ := hrel
            by_cases hlt : j < nb
            · have HJ := Lib.hid (And.intro hlt (And.intro hq hR))
              have hqn : q + 64 ≤ n' := by have := HP.out.1; omega
              have hqi : (q : Int) < (n' : Int) := by omega
              clear hj hq hR hlt
              go_wp2_with fail
              generalize wr = wj at *
              have hgw := Blk_new wj (List.replicate 64 (Value.int .u32 0)) 186
              have hbw := (Below.refl wj.heap.size wj).alloc (Nat.le_refl _) (.cells (List.replicate 64 (Value.int .u32 0)).toArray 186)
              obtain ⟨b, hbe⟩ : ∃ b, (ps.drop q).take 64 = b := ⟨_, rfl⟩
              have hbl : b.length = 64 := by rw [← hbe]; have := HP.out.2.2.1; simp; omega
              have hwk0 : wcells (wordsK b 0) = List.replicate 64 (Value.int .u32 0) := by simp [wcells, wordsK]
              have hbx : ∀ m, m < 64 → ps[q + m]? = b[m]? := fun m hm => by
                rw [← hbe, List.getElem?_take, if_pos hm, List.getElem?_drop]
              obtain ⟨ba, oa, rfl, hba, hca⟩ := HJ.out.2.2.rd.at_ (by rw [List.length_map, HP.out.2.2.1]; omega)
              have hcb : ∀ m x, m < 64 → b[m]? = some x → ∀ wx, Below wj.heap.size wj wx → wx.cell? ⟨ba, oa + (q + m), none⟩ = some (B x) := fun m x hm hx wx hb => by
                have h := hca (q + m) (by rw [List.length_map, HP.out.2.2.1]; omega)
                rw [(hb.cell (p := ⟨ba, oa + (q + m), none⟩) hba), h]
                have h2 : ps[q + m]? = some x := (hbx m hm).trans hx
                have := (List.getElem?_eq_some_iff.1 h2).2
                simp [this]
              have HB := Lib.hid (And.intro hbe (And.intro hbl (And.intro hcb hba)))
              have HW0 := Lib.hid (And.intro hgw hbw)
              clear hgw hbw hbe hbl hbx hba hca hcb
              go_loopw [10] (fun v10 wx => WordInv wj b v10 wx) (fun v10 _ => 64 - (intOf v10).toNat)
              case atStart => exact ⟨0, Nat.zero_le _, rfl, by rw [hwk0]; exact HW0.out.1, HW0.out.2⟩
              clear HW0 hwk0
              case round =>
                obtain ⟨k, hk, rfl, hW, hB⟩ := hrel
                by_cases hlt : k < 64
                · obtain ⟨v0, hv0⟩ : ∃ v, wr.cell? ⟨wj.heap.size, k, none⟩ = some v := ⟨_, hW.cell k (by rw [wcells_length _ (by rw [wordsK_length]; omega)]; omega)⟩
                  have hfr := hW.frozen k
                  have hki : (k : Int) < 64 := by omega
                  by_cases h16 : k < 16
                  · have h16i : (k : Int) < 16 := by omega
                    have hb64 := HB.out.2.1
                    have hq := words16_take b k h16 hb64
                    have cc : ∀ m (hm : m < 4), wr.cell? ⟨ba, oa + (q + (4 * k + m)), none⟩ = some (B (b[4 * k + m]'(by omega))) := fun m hm => HB.out.2.2.1 (4 * k + m) _ (by omega) (List.getElem?_eq_getElem (by omega)) wr hB
                    have c0 := cc 0 (by omega)
                    have c1 := cc 1 (by omega)
                    have c2 := cc 2 (by omega)
                    have c3 := cc 3 (by omega)
                    simp only [Nat.add_zero] at c0
                    have hv := un32_val b[4 * k] b[4 * k + 1] b[4 * k + 2] b[4 * k + 3]
                    generalize b[4 * k] = x0 at *
                    generalize b[4 * k + 1] = x1 at *
                    generalize b[4 * k + 2] = x2 at *
                    generalize b[4 * k + 3] = x3 at *
                    obtain ⟨qq, hqq⟩ : ∃ qq, qq = q + 4 * k := ⟨_, rfl⟩
                    rw [show q + 4 * k = qq from hqq.symm] at c0
                    rw [show q + (4 * k + 1) = qq + 1 by omega] at c1
                    rw [show q + (4 * k + 2) = qq + 2 by omega] at c2
                    rw [show q + (4 * k + 3) = qq + 3 by omega] at c3
                    have HWW := Lib.hid (And.intro hW (And.intro hB (And.intro hq (And.intro h16 hqq))))
                    have n0 := x0.toNat_lt
                    have n1 := x1.toNat_lt
                    have n2 := x2.toNat_lt
                    have n3 := x3.toNat_lt
                    have HV := Lib.hid hv
                    have hqb : qq + 4 ≤ n' := by omega
                    clear hW hB hq h16 hb64 cc hv hlt hk hqq
                    go_upto_region 19 with fail
                    go_cut [11] from 68 to 71 (fun v11 wx => v11 = IJ qq ∧ wr = wx)
                    case first => as_aux_lemma =>
                      go_wp2_with fail
                      go_meet
                      case rel => exact ⟨by have := HWW.out.2.2.2.2; congr 1; omega, rfl⟩
                    case rest =>
                      obtain ⟨rfl, rfl⟩ := hcut
                      have i1 : IntKind.i64.wrap ((qq : Int) + 1) = (qq : Int) + 1 := IntWalk.i64_in _ (by omega)
                      have i2 : IntKind.i64.wrap ((qq : Int) + 2) = (qq : Int) + 2 := IntWalk.i64_in _ (by omega)
                      have i3 : IntKind.i64.wrap ((qq : Int) + 3) = (qq : Int) + 3 := IntWalk.i64_in _ (by omega)
                      have p1 : (0 : Int) ≤ (qq : Int) + 1 := by omega
                      have p2 : (0 : Int) ≤ (qq : Int) + 2 := by omega
                      have p3 : (0 : Int) ≤ (qq : Int) + 3 := by omega
                      have u0 : (qq : Int) < (n' : Int) := by omega
                      have u1 : (qq : Int) + 1 < (n' : Int) := by omega
                      have u2 : (qq : Int) + 2 < (n' : Int) := by omega
                      have u3 : (qq : Int) + 3 < (n' : Int) := by omega
                      have t1 : ((qq : Int) + 1).toNat = qq + 1 := by omega
                      have t2 : ((qq : Int) + 2).toNat = qq + 2 := by omega
                      have t3 : ((qq : Int) + 3).toNat = qq + 3 := by omega
                      have z0 := wrap_u32_byte x0
                      have z1 := wrap_u32_byte x1
                      have z2 := wrap_u32_byte x2
                      have z3 := wrap_u32_byte x3
                      have y0 : IntKind.u32.wrap ((x0.toNat : Int) * 16777216) = (x0.toNat : Int) * 16777216 := wrap_u32_in _ (by omega) (by omega)
                      have y1 : IntKind.u32.wrap ((x1.toNat : Int) * 65536) = (x1.toNat : Int) * 65536 := wrap_u32_in _ (by omega) (by omega)
                      have y2 : IntKind.u32.wrap ((x2.toNat : Int) * 256) = (x2.toNat : Int) * 256 := wrap_u32_in _ (by omega) (by omega)
                      have HFAR : Hid (∀ v x, (wr.setCell ⟨wj.heap.size, k, none⟩ v).drew.cell? ⟨ba, x, none⟩ = wr.cell? ⟨ba, x, none⟩) := Lib.hid (fun v x => World.cell?_setCell_far wr _ _ v (by have := HB.out.2.2.2; simp; omega))
                      go_wp2_with fail
                      go_region_held3 (fun w' => w'.cell? ⟨ba, oa + qq, none⟩ = some (B x0) ∧ w'.cell? ⟨ba, oa + (qq + 1), none⟩ = some (B x1) ∧ w'.cell? ⟨ba, oa + (qq + 2), none⟩ = some (B x2) ∧ w'.cell? ⟨ba, oa + (qq + 3), none⟩ = some (B x3))
                        (first | exact ⟨c0, c1, c2, c3⟩ | exact ⟨(HFAR.out _ _).trans c0, (HFAR.out _ _).trans c1, (HFAR.out _ _).trans c2, (HFAR.out _ _).trans c3⟩) (fail)
                      rw [HV.out]
                      clear c0 c1 c2 c3 i1 i2 i3 p1 p2 p3 u0 u1 u2 u3 t1 t2 t3 z0 z1 z2 z3 y0 y1 y2 hv0 hfr n0 n1 n2 n3
                      go_wp2
                      go_roundw
                      case rel =>
                        refine ⟨k + 1, by have := HWW.out.2.2.2.1; omega, by go_num, ?_, below_drewN (HWW.out.2.1.setCell (p := ⟨wj.heap.size, k, none⟩) (Nat.le_refl _) _) 1⟩
                        have h := (HWW.out.1.set k (U (un32 x0 x1 x2 x3))).drew
                        have e := wcells_set (wordsK b k) (un32 x0 x1 x2 x3) (by rw [wordsK_length]; have := HWW.out.2.2.2.1; omega)
                        rw [wordsK_length] at e
                        rw [e, wordsK_low b k (by have := HWW.out.2.2.2.1; omega), ← HWW.out.2.2.1, ← wordsK_low b (k + 1) (by have := HWW.out.2.2.2.1; omega)] at h
                        exact h
                      case measure => have := HWW.out.2.2.2.1; simp [intOf]; omega
                  · have h16i : ¬ (k : Int) < 16 := by omega
                    obtain ⟨l, hl, hlen, hst⟩ : ∃ l, l = wordsK b k ∧ l.length = k ∧ wordsK b (k + 1) = snocW l := ⟨_, rfl, wordsK_length b k, wordsK_next b k (by omega)⟩
                    rw [← hl] at hW
                    have hsn := sched_next l k (by omega) hlen
                    clear hl
                    have cell : ∀ j (hj : j < k), wr.cell? ⟨wj.heap.size, j, none⟩ = some (U (l[j]'(by omega))) := fun j hj => hW.cellD j _ (wcells_at l j (by omega))
                    have c16 := cell (k - 16) (by omega)
                    have c15 := cell (k - 15) (by omega)
                    have c7 := cell (k - 7) (by omega)
                    have c2 := cell (k - 2) (by omega)
                    generalize l[k - 16] = x16 at *
                    generalize l[k - 15] = x15 at *
                    generalize l[k - 7] = x7 at *
                    generalize l[k - 2] = x2 at *
                    have hnr := next_ref l x16 x15 x7 x2 hsn
                    have HWW := Lib.hid (And.intro hW (And.intro hB (And.intro hnr (And.intro hst (And.intro hlen (And.intro hlt h16))))))
                    have i16 : IntKind.i64.wrap ((k : Int) - 16) = (k : Int) - 16 := IntWalk.i64_in _ (by omega)
                    have i15 : IntKind.i64.wrap ((k : Int) - 15) = (k : Int) - 15 := IntWalk.i64_in _ (by omega)
                    have i7 : IntKind.i64.wrap ((k : Int) - 7) = (k : Int) - 7 := IntWalk.i64_in _ (by omega)
                    have i2 : IntKind.i64.wrap ((k : Int) - 2) = (k : Int) - 2 := IntWalk.i64_in _ (by omega)
                    have t16 : ((k : Int) - 16).toNat = k - 16 := by omega
                    have t15 : ((k : Int) - 15).toNat = k - 15 := by omega
                    have t7 : ((k : Int) - 7).toNat = k - 7 := by omega
                    have t2 : ((k : Int) - 2).toNat = k - 2 := by omega
                    have p16 : (0 : Int) ≤ (k : Int) - 16 := by omega
                    have p15 : (0 : Int) ≤ (k : Int) - 15 := by omega
                    have p7 : (0 : Int) ≤ (k : Int) - 7 := by omega
                    have p2 : (0 : Int) ≤ (k : Int) - 2 := by omega
                    have u16 : (k : Int) - 16 < 64 := by omega
                    have u15 : (k : Int) - 15 < 64 := by omega
                    have u7 : (k : Int) - 7 < 64 := by omega
                    have u2 : (k : Int) - 2 < 64 := by omega
                    have q16 : (16 : Int) ≤ (k : Int) := by omega
                    have q15 : (15 : Int) ≤ (k : Int) := by omega
                    have q7 : (7 : Int) ≤ (k : Int) := by omega
                    have q2 : (2 : Int) ≤ (k : Int) := by omega
                    clear cell hW hB hsn hst hlen hnr hk hlt h16
                    go_wp2_with fail
                    go_quiet (fail)
                    go_wp2_with fail
                    have hlow : bits .xor .u32 (bits .xor .u32 ((rotT x15 7).toNat : Int) ((rotT x15 18).toNat : Int)) ((x15.toNat : Int) / 8) = ((lowS x15).toNat : Int) := low_val x15
                    have hhigh : bits .xor .u32 (bits .xor .u32 ((rotT x2 17).toNat : Int) ((rotT x2 19).toNat : Int)) ((x2.toNat : Int) / 1024) = ((highS x2).toNat : Int) := high_val x2
                    obtain ⟨a1, ha1⟩ : ∃ a1, a1 = highS x2 + x7 := ⟨_, rfl⟩
                    obtain ⟨a2, ha2⟩ : ∃ a2, a2 = a1 + lowS x15 := ⟨_, rfl⟩
                    obtain ⟨a3, ha3⟩ : ∃ a3, a3 = a2 + x16 := ⟨_, rfl⟩
                    have s1 := wadd (highS x2) x7
                    have s2 := wadd a1 (lowS x15)
                    have s3 := wadd a2 x16
                    rw [← ha1] at s1
                    rw [← ha2] at s2
                    rw [← ha3] at s3
                    have HA : Hid (a3 = highS x2 + x7 + lowS x15 + x16) := Lib.hid (by rw [ha3, ha2, ha1])
                    clear ha1 ha2 ha3 c15 c2 i15 i2 t15 t2 p15 p2 u15 u2
                    have HFAR : Hid (∀ v x y, wr.cell? ⟨wj.heap.size, x, none⟩ = some y → x ≠ k → ((wr.drewN nq).setCell ⟨wj.heap.size, k, none⟩ v).drew.cell? ⟨wj.heap.size, x, none⟩ = some y) := Lib.hid (fun v x y h hne => (World.cell?_setCell_other wr _ _ v (by intro e; injection e with _ e; exact hne e.symm)).trans h)
                    have HC16 := Lib.hid (And.intro c16 c7)
                    have HNE : Hid (k - 16 ≠ k ∧ k - 7 ≠ k) := Lib.hid (by have := HWW.out.2.2.2.2.2.2; omega)
                    go_region_held3 (fun w' => w'.cell? ⟨wj.heap.size, k - 16, none⟩ = some (U x16) ∧ w'.cell? ⟨wj.heap.size, k - 7, none⟩ = some (U x7))
                      (first | exact ⟨HC16.out.1, HC16.out.2⟩ | exact ⟨HFAR.out _ _ _ HC16.out.1 HNE.out.1, HFAR.out _ _ _ HC16.out.2 HNE.out.2⟩)
                      (first
                        | (go_at_call 100; refine (turn_any _ _ _ (by decide) (by decide)).mono ?_; rintro e w' ⟨rfl, rfl⟩))
                    clear s1 s2 s3 c16 c7 i16 i7 t16 t7 p16 p7 u16 u7 q16 q15 q7 q2 hfr hv0 hlow hhigh
                    go_wp2
                    go_roundw
                    case rel =>
                      refine ⟨k + 1, by have := HWW.out.2.2.2.2.2.1; omega, by go_num, ?_, below_drewN (HWW.out.2.1.setCell (p := ⟨wj.heap.size, k, none⟩) (Nat.le_refl _) _) (nq + 1)⟩
                      have h := (HWW.out.1.set k (U a3)).drewN (nq + 1)
                      have e := wcells_set l a3 (by rw [HWW.out.2.2.2.2.1]; exact HWW.out.2.2.2.2.2.1)
                      rw [HWW.out.2.2.2.2.1] at e
                      rw [HWW.out.2.2.2.1]
                      unfold snocW
                      rw [HWW.out.2.2.1, ← HA.out, ← e]
                      exact h
                    case measure => have := HWW.out.2.2.2.2.2.1; simp [intOf]; omega
                · obtain rfl : k = 64 := by omega
                  rw [show IJ 64 = Value.int .i64 64 from rfl]
                  generalize wr = ww at *
                  clear hlt hk
                  have hws : wordsK b 64 = schedN 48 (words16 b) := wordsK_end b
                  have hwl := wordsK_length b 64
                  generalize wordsK b 64 = ws at *
                  have hR := HJ.out.2.2.below hB
                  obtain ⟨s, hs⟩ : ∃ s, s = absN j kStart ps := ⟨_, rfl⟩
                  rw [← hs] at hR
                  have HWS := Lib.hid (And.intro hws (And.intro hwl (And.intro hs (And.intro hW hR))))
                  have hh := hR.hb
                  have hgl := hR.hb.lt
                  clear hws hwl hs hW hR
                  have hcv : Hid (∀ (r : R8) (wx : World) (g : Nat), Blk wx g 164 (r.list.map U) → ∀ i v, r.list[i]? = some v → wx.cell? ⟨g, i, none⟩ = some (U v)) := Lib.hid (fun r wx g h i v hv => h.cellD i _ (by rw [List.getElem?_map, hv]; rfl))
                  go_wp2_with (first
                    | (refine wpList_load_blk rfl 164 (.tmp 4) rfl (gk + 1) rfl 164 (s.list.map U) _ hh Tryd.underlying164 rfl (by kernel_rfl) ?_)
                    | (refine wpList_store_blk rfl 164 (.tmp 14) (.tmp 140) rfl ww.heap.size (s.list.map U) rfl rfl 164 _ (heap_alloc_new ww _) (by kernel_rfl) rfl (by intro u hu; obtain ⟨x, _, rfl⟩ := List.mem_map.1 hu; rfl) ?_; intro w9 hw9 hg9))
                  have hb9 : Below ww.heap.size ww w9 := ((Below.refl ww.heap.size ww).alloc (Nat.le_refl _) _).grown hg9 (by simp) (fun r e => by injection e with e; omega)
                  have H9 := Lib.hid (And.intro hw9 (And.intro hb9 hB))
                  clear hh hw9 hg9 hb9 hB
                  go_loopw [15] (fun v15 wx => RndInv ww ws s v15 wx) (fun v15 _ => 64 - (intOf v15).toNat)
                  case atStart => obtain ⟨a, c, d, e, f, g, h, i⟩ := s; exact ⟨0, a, c, d, e, f, g, h, i, Nat.zero_le _, rfl, rfl, H9.out.1, H9.out.2.1⟩
                  case round =>
                    obtain ⟨k, a, c', d, e, f, g, h, i, hk, rfl, hrd, hV, hB⟩ := hrel
                    by_cases hlt : k < 64
                    · obtain ⟨kk, wk, hkk, hwk, hnx⟩ := rounds_next ws k _ _ hlt HWS.out.2.1 hrd
                      have hcells : ∀ wx, Blk wx ww.heap.size 164 ([a, c', d, e, f, g, h, i].map U) → Below ww.heap.size ww wx →
                          wx.cell? ⟨ww.heap.size, 0, none⟩ = some (U a) ∧ wx.cell? ⟨ww.heap.size, 1, none⟩ = some (U c') ∧ wx.cell? ⟨ww.heap.size, 2, none⟩ = some (U d) ∧ wx.cell? ⟨ww.heap.size, 3, none⟩ = some (U e) ∧ wx.cell? ⟨ww.heap.size, 4, none⟩ = some (U f) ∧ wx.cell? ⟨ww.heap.size, 5, none⟩ = some (U g) ∧ wx.cell? ⟨ww.heap.size, 6, none⟩ = some (U h) ∧ wx.cell? ⟨ww.heap.size, 7, none⟩ = some (U i) ∧ wx.cell? ⟨gk, k, none⟩ = some (U kk) ∧ wx.cell? ⟨wj.heap.size, k, none⟩ = some (U wk) :=
                        fun wx hV hB => ⟨hV.cellD 0 _ rfl, hV.cellD 1 _ rfl, hV.cellD 2 _ rfl, hV.cellD 3 _ rfl, hV.cellD 4 _ rfl, hV.cellD 5 _ rfl, hV.cellD 6 _ rfl, hV.cellD 7 _ rfl,
                          (HWS.out.2.2.2.2.kb.below hB).cellD k _ (by rw [HCK.out.1, List.getElem?_map, hkk]; rfl), (HWS.out.2.2.2.1.below hB).cellD k _ (wcells_at' ws k wk hwk)⟩
                      have HCL := Lib.hid hcells
                      have HK := Lib.hid (And.intro hlt (And.intro hnx (And.intro hV hB)))
                      have hk64 : (k : Int) < 64 := by omega
                      clear hkk hwk hlt hnx hV hB hk hrd hcells
                      go_upto_region 27 with fail
                      go_cut [16, 17] from 145 to 148 (fun s16 s17 wx => s16 = U f ∧ s17 = U a ∧ Blk wx ww.heap.size 164 ([a, c', d, e, f, g, h, i].map U) ∧ Below ww.heap.size ww wx)
                      case first => as_aux_lemma =>
                        obtain ⟨d0, d1, d2, d3, d4, d5, d6, d7, ck, cw⟩ := HCL.out wr HK.out.2.2.1 HK.out.2.2.2
                        go_quiet (fail)
                        go_wp2_with fail
                        go_meet
                        case rel => exact ⟨rfl, rfl, HK.out.2.2.1.drewN _, below_drewN HK.out.2.2.2 _⟩
                      case rest =>
                        obtain ⟨rfl, rfl, hV, hB⟩ := hcut
                        generalize wc = w28 at *
                        obtain ⟨d0, d1, d2, d3, d4, d5, d6, d7, ck, cw⟩ := HCL.out w28 hV hB
                        have HK := Lib.hid (And.intro HK.out.1 (And.intro HK.out.2.1 (And.intro hV hB)))
                        clear hV hB
                        go_upto_region 28 with fail
                        go_cut [18] from 149 to 178 (fun s18 wx => s18 = U (oneS kk wk ⟨a, c', d, e, f, g, h, i⟩) ∧ Blk wx ww.heap.size 164 ([a, c', d, e, f, g, h, i].map U) ∧ Below ww.heap.size ww wx)
                        case first => as_aux_lemma =>
                          go_quiet ((go_at_call 100; refine Calls.quiet_of_same (turn_any _ _ _ ?_ ?_); decide; decide))
                          simp only [xor_lit, xor32, and32, or32]
                          go_wp2_with fail
                          go_meet
                          case rel => exact ⟨congrArg (Value.int .u32) (by rw [ch_or]; exact one_val a c' d e f g h i kk wk), HK.out.2.2.1.drewN _, below_drewN HK.out.2.2.2 _⟩
                        case rest =>
                          obtain ⟨rfl, hV, hB⟩ := hcut
                          generalize wc = w29 at *
                          obtain ⟨one, hone⟩ : ∃ one, one = oneS kk wk ⟨a, c', d, e, f, g, h, i⟩ := ⟨_, rfl⟩
                          rw [← hone]
                          clear d0 d1 d2 d3 d4 d5 d6 d7 ck cw
                          obtain ⟨d0, d1, d2, d3, d4, d5, d6, d7, ck, cw⟩ := HCL.out w29 hV hB
                          have HK := Lib.hid (And.intro HK.out.1 (And.intro HK.out.2.1 (And.intro hV (And.intro hB hone))))
                          clear hV hB hone
                          go_upto_region 29 with fail
                          go_cut [19] from 179 to 202 (fun s19 wx => s19 = U (twoS ⟨a, c', d, e, f, g, h, i⟩) ∧ Blk wx ww.heap.size 164 ([a, c', d, e, f, g, h, i].map U) ∧ Below ww.heap.size ww wx)
                          case first => as_aux_lemma =>
                            go_quiet ((go_at_call 100; refine Calls.quiet_of_same (turn_any _ _ _ ?_ ?_); decide; decide))
                            simp only [xor32, and32, or32]
                            go_wp2_with fail
                            go_meet
                            case rel => exact ⟨congrArg (Value.int .u32) (by rw [maj_or]; exact add32 _ _), HK.out.2.2.1.drewN _, below_drewN HK.out.2.2.2.1 _⟩
                          case rest =>
                            obtain ⟨rfl, hV, hB⟩ := hcut
                            generalize wc = w30 at *
                            obtain ⟨two, htwo⟩ : ∃ two, two = twoS ⟨a, c', d, e, f, g, h, i⟩ := ⟨_, rfl⟩
                            rw [← htwo]
                            clear d0 d1 d2 d3 d4 d5 d6 d7 ck cw
                            obtain ⟨d0, d1, d2, d3, d4, d5, d6, d7, ck, cw⟩ := HCL.out w30 hV hB
                            obtain ⟨z1, y1, x1, hz1⟩ := sum_facts e one
                            obtain ⟨z2, y2, x2, hz2⟩ := sum_facts one two
                            have HZ := Lib.hid (And.intro htwo (And.intro hz1 hz2))
                            have hV' := hV
                            have HK := Lib.hid (And.intro HK.out.1 (And.intro HK.out.2.1 (And.intro hB HK.out.2.2.2.2)))
                            clear hV hB htwo hz1 hz2
                            go_wp2_with (refine wpList_store_blk rfl 164 (.tmp 14) (.tmp 222) rfl ww.heap.size ([z2, a, c', d, z1, f, g, h].map U) rfl rfl 164 _ hV' (by kernel_rfl) rfl (by intro u hu; obtain ⟨x, _, rfl⟩ := List.mem_map.1 hu; rfl) ?_; intro w31 hw31 hg31)
                            have H31 := Lib.hid (And.intro hw31 (HK.out.2.2.1.grown hg31 HK.out.2.2.1.size (fun r e => by injection e with e; omega)))
                            clear hV' hw31 hg31 d0 d1 d2 d3 d4 d5 d6 d7 ck cw
                            go_wp2_with fail
                            go_roundw
                            case rel =>
                              refine ⟨k + 1, z2, a, c', d, z1, f, g, h, HK.out.1, by go_num, ?_, H31.out.1, H31.out.2⟩
                              rw [HK.out.2.1, rnd, ← HK.out.2.2.2, ← HZ.out.1, HZ.out.2.1, HZ.out.2.2]
                              rfl
                            case measure => have := HK.out.1; simp [intOf]; omega
                    · obtain rfl : k = 64 := by omega
                      rw [show IJ 64 = Value.int .i64 64 from rfl]
                      generalize wr = wv at *
                      have hfin : mixF s b = s.add ⟨a, c', d, e, f, g, h, i⟩ := by unfold mixF; rw [← HWS.out.1, hrd]
                      have hR := HWS.out.2.2.2.2.below hB
                      have hgv : gk + 1 < ww.heap.size := hgl
                      obtain ⟨t, ht⟩ : ∃ t, t = mixF s b := ⟨_, rfl⟩
                      have HF := Lib.hid (And.intro hfin (And.intro hV (And.intro hR ht)))
                      clear hfin hV hR hrd hlt hk ht
                      go_wp2_with fail
                      go_loopw [20] (fun v20 wx => AddInv wv gk s t v20 wx) (fun v20 _ => 8 - (intOf v20).toNat)
                      case atStart => exact ⟨0, Nat.zero_le _, rfl, by simpa [cur8] using HF.out.2.2.1.hb, World.grownBy.refl _ _⟩
                      case round =>
                        obtain ⟨k, hk, rfl, hP, hG⟩ := hrel
                        by_cases hlt : k < 8
                        · obtain ⟨xk, yk, h1, h2, h3⟩ := add_at s ⟨a, c', d, e, f, g, h, i⟩ k hlt
                          rw [← HF.out.1, ← HF.out.2.2.2] at h3
                          have hcell : wr.cell? ⟨gk + 1, k, none⟩ = some (U xk) := by
                            have h := cur_at s t k k xk rfl h1 []
                            rw [List.append_nil] at h
                            exact hP.cellD k _ h
                          have hcel2 : wr.cell? ⟨ww.heap.size, k, none⟩ = some (U yk) := (HF.out.2.1.grown hG (by simp; omega)).cellD k _ (by rw [List.getElem?_map, h2]; rfl)
                          have hfr := hP.frozen k
                          have hset := hP.set k (U (xk + yk))
                          rw [← List.map_set, cur_set _ _ _ _ hlt h3] at hset
                          obtain ⟨zk, y1, x1, hz⟩ := sum_facts xk yk
                          have HS := Lib.hid (And.intro hset (And.intro hG (And.intro hlt hz)))
                          have hk8 : (k : Int) < 8 := by omega
                          clear hP hG hlt h1 h2 h3 hset hz hk
                          go_wp2_with fail
                          go_region
                          go_wp2
                          go_roundw
                          case rel => exact ⟨k + 1, HS.out.2.2.1, by go_num, (by have h := HS.out.1.drew; rw [← HS.out.2.2.2] at h; exact h), grown_drewN (grown_trans HS.out.2.1 (grown_setC _ _ _ _) (.inl rfl)) 1⟩
                          case measure => have := HS.out.2.2.1; simp [intOf]; omega
                        · obtain rfl : k = 8 := by omega
                          rw [cur_end] at hP
                          rw [show IJ 8 = Value.int .i64 8 from rfl]
                          have hR := HF.out.2.2.1.grown hG hP (fun ad e => by have := HP.out.2.2.2 ad e; have := H3.out.2.2.2.2.1; omega) H3.out.2.2.2.2.2
                          have habs : absN (j + 1) kStart ps = t := by rw [absN_succ, HF.out.2.2.2, HWS.out.2.2.1, ← HB.out.1, HJ.out.2.1]
                          rw [← habs] at hR
                          have HN := Lib.hid hR
                          have hqq : q ≤ 140737488355308 := by omega
                          clear hR habs hP hG hlt hk
                          go_wp2_with fail
                          go_roundw
                          case rel => exact ⟨j + 1, q + 64, HJ.out.1, by have := HJ.out.2.1; omega, by go_num, HN.out⟩
                          case measure => simp [intOf]; omega
            · obtain rfl : j = nb := by omega
              obtain ⟨s, hs⟩ : ∃ s, s = absN j kStart ps := ⟨_, rfl⟩
              have hsum : sumF bs = outF s := by rw [hs]; exact HP.out.2.1
              rw [← hs] at hR
              have hqn : ¬ (q : Int) < (n' : Int) := by have := HP.out.1; omega
              generalize wr = wv at *
              have HR := Lib.hid (And.intro hR hsum)
              have hz := Blk_new wv (List.replicate 32 (B 0)) 46
              have hbz := (Below.refl wv.heap.size wv).alloc (Nat.le_refl _) (.cells (List.replicate 32 (B 0)).toArray 46)
              have hol := outF_length s
              have HO := Lib.hid hol
              clear hR hsum hs hlt hq hj hol
              go_wp2_with fail
              go_loopw [22] (fun v22 wx => OutInv wv (outF s) v22 wx) (fun v22 _ => 32 - (intOf v22).toNat)
              case atStart => exact ⟨0, Nat.zero_le _, rfl, by rw [show (outK (outF s) 0).map B = List.replicate 32 (B 0) from out_zero (outF s)]; exact hz, hbz⟩
              clear hz hbz
              case round =>
                obtain ⟨k, hk, rfl, hV, hB⟩ := hrel
                by_cases hlt : k < 32
                · obtain ⟨t, i, ht, hi, hti⟩ : ∃ t i, t < 8 ∧ i < 4 ∧ k = 4 * t + i := ⟨k / 4, k % 4, by omega, by omega, by omega⟩
                  obtain ⟨x, hx, hxo⟩ := out_word s t ht
                  have hcell : wr.cell? ⟨gk + 1, t, none⟩ = some (U x) := (HR.out.1.hb.below hB).cellD t _ (by rw [List.getElem?_map, hx]; rfl)
                  have hv := be32_val x i hi
                  have hoe := hxo i hi
                  rw [← hti] at hoe
                  generalize (be32 x)[i]'(by rw [be32_length]; exact hi) = y at *
                  have hset := hV.set k (B y)
                  rw [out_set (outF s) k y HO.out hlt hoe] at hset
                  obtain ⟨v2, hv2⟩ : ∃ v, wr.cell? ⟨wv.heap.size, k, none⟩ = some v := ⟨_, hV.cell k (by rw [List.length_map, out_len _ _ HO.out hk]; exact hlt)⟩
                  have hf2 := hV.frozen k
                  have hB' := hB.setCell (p := ⟨wv.heap.size, k, none⟩) (Nat.le_refl _) (B y)
                  have H11 := Lib.hid (And.intro hset (And.intro hB' hlt))
                  have hk32 : (k : Int) < 32 := by omega
                  have e1 : (k : Int) / 4 = (t : Int) := by omega
                  have e2 : (k : Int) % 4 = (i : Int) := by omega
                  have ht8 : (t : Int) < 8 := by omega
                  have hi4 : (i : Int) < 4 := by omega
                  have s1 : (0 : Int) ≤ 24 - 8 * (i : Int) := by omega
                  have s2 : (24 - 8 * (i : Int)).toNat = 24 - 8 * i := by omega
                  have s6 : IntKind.u64.wrap (24 - 8 * (i : Int)) = 24 - 8 * (i : Int) := by
                    simp only [IntKind.wrap, IntKind.bits, IntKind.signed, Bool.false_and, Bool.false_eq_true, if_false]
                    omega
                  clear hset hB' hlt hx hxo hoe hV hB hk hti ht hi
                  go_wp2_with fail
                  go_roundw
                  case rel => exact ⟨k + 1, H11.out.2.2, by go_num, H11.out.1, H11.out.2.1⟩
                  case measure => have := H11.out.2.2; simp [intOf]; omega
                · obtain rfl : k = 32 := by omega
                  rw [out_full (outF s) HO.out] at hV
                  rw [show IJ 32 = Value.int .i64 32 from rfl]
                  have hrb := HR.out.1.rb.below hB
                  have HE := Lib.hid (And.intro hV (below_then HR.out.1.bl HR.out.1.bl.size hB))
                  have HLL := Lib.hid (show (some 32 : Option Nat) = some ((outF s).map B).length by rw [List.length_map, HO.out])
                  clear hV hB hlt hk
                  go_wp2_with (first
                    | (refine wpList_load_blk rfl 46 (.tmp 21) rfl wv.heap.size rfl 46 ((outF s).map B) _ HE.out.1 Tryd.underlying46 rfl (Eq.trans (by kernel_rfl) HLL.out) ?_)
                    | (refine wpList_store_blk rfl 46 (.tmp 2) (.tmp 253) rfl w.heap.size ((outF s).map B) rfl rfl 46 _ hrb (Eq.trans (by kernel_rfl) HLL.out) (by rw [List.length_map, HO.out, List.length_replicate]) one_bytes ?_; intro w12 hw12 hg12))
                  refine bodyPost_ret (results_blk rfl _ _ w.heap.size 46 ((outF s).map B) _ rfl hw12 Tryd.underlying46 rfl (Eq.trans (by kernel_rfl) HLL.out)) rfl ⟨by rw [HR.out.2], ?_⟩
                  exact HE.out.2.grown hg12 HE.out.2.size (fun k e => by injection e with e; omega)
#print axioms refsum_any
end Go.Proofs.YtdekealpachhmaaDoor

namespace Go.Proofs.YtdekealpachhmaaDoor
open Go Go.RowKit Go.Isth

theorem ruint_to7 (A : Option Addr) (c m : Nat) (cs : List UInt8) (n : Nat) (z : Int) (w : World) (hz : z = (n : Int)) (hm : m = cs.length) (hn : n < 18446744073709551616) (hr : Rd w A (cs.map B)) (hl : m ≤ 10000000) :
    Calls Tryd.prog 80 #[.slice A m c, .int .u64 z] w fun e w' => ∃ A' N c' ds, e = .returned (.slice A' N c') ∧ ds = cs ++ varint n ∧ N = ds.length ∧ Rd w' A' (ds.map B) ∧ Below w.heap.size w w' := by
  subst hz hm
  refine (refUint_any A c cs n w hn hr (by omega)).mono ?_
  rintro e w' ⟨v, rfl, ho, hb⟩
  obtain ⟨A', c', rfl, _, hrd, _⟩ := own_slice ho
  exact ⟨A', _, c', _, rfl, rfl, rfl, hrd, hb⟩
theorem rhash_to7 (A : Option Addr) (c m : Nat) (cs hs : List UInt8) (cv : List Value) (w : World) (hm : m = cs.length) (hv : cv = hs.map B) (hh : hs.length = 32) (hr : Rd w A (cs.map B)) (hl : m ≤ 10000000) :
    Calls Tryd.prog 79 #[.slice A m c, .agg cv.toArray] w fun e w' => ∃ A' N c' ds, e = .returned (.slice A' N c') ∧ ds = cs ++ hs ∧ N = ds.length ∧ Rd w' A' (ds.map B) ∧ Below w.heap.size w w' := by
  subst hm hv
  refine (refHash_any A c cs hs w hh hr (by omega)).mono ?_
  rintro e w' ⟨v, rfl, ho, hb⟩
  obtain ⟨A', c', rfl, _, hrd, _⟩ := own_slice ho
  exact ⟨A', _, c', _, rfl, rfl, rfl, hrd, hb⟩
theorem rsum_to7 (A : Option Addr) (c m : Nat) (bs : List UInt8) (w : World) (hm : m = bs.length) (hr : Rd w A (bs.map B)) (hl : m ≤ 10000000) :
    Calls Tryd.prog 77 #[.slice A m c] w fun e w' => ∃ cv : List Value, e = .returned (.agg cv.toArray) ∧ cv = (sumF bs).map B ∧ cv.length = 32 ∧ Below w.heap.size w w' := by
  subst hm
  refine (refsum_any A c bs w (by omega) hr).mono ?_
  rintro e w' ⟨rfl, hb⟩
  exact ⟨_, rfl, rfl, by rw [List.length_map, sumF_length], hb⟩
set_option maxRecDepth 100000 in
theorem rtext_to7 (A : Option Addr) (c m : Nat) (cs : List UInt8) (s : Str) (w : World) (hm : m = cs.length) (hs : s.length ≤ 2000000) (hr : Rd w A (cs.map B)) (hl : m ≤ 6000000) :
    Calls Tryd.prog 78 #[.slice A m c, S8 s] w fun e w' => ∃ A' N c' ds, e = .returned (.slice A' N c') ∧ ds = cs ++ textB s ∧ N = ds.length ∧ Rd w' A' (ds.map B) ∧ Below w.heap.size w w' := by
  subst hm
  have HM := Lib.hid (And.intro hl hs)
  have hu := u64_nat (n := s.length) (by omega)
  obtain ⟨i, hi, hz, hsz, hby⟩ := info_parts (tBp : SlT Tryd.prog 135 5 _ 1 1).info
  clear hl hs
  go_enter Tryd.func78, Tryd.ntmps78
  go_wp2_with fail
  refine (refUint_any A c cs s.length w (by have := HM.out; omega) hr (by have := HM.out; omega)).mono ?_
  rintro e w1 ⟨v1, rfl, ho, hb⟩
  have hsb := hb.size
  have HL := Lib.hid (varint_len10 s.length (by have := HM.out; omega))
  have HB := Lib.hid hb
  have hss : (⟨s.toArray⟩ : ByteArray).size = s.length := by show s.toArray.size = _; simp
  have HSS := Lib.hid hss
  clear hu hb hr hss
  go_wp2_with (at_builtin; refine Lib.wpList_append_own_string _ rfl _ _ 135 9 rfl w.heap.size 5 i Tryd.underlying135 Tryd.underlying9 hi hz hsz hby v1 _ _ rfl ho ⟨s.toArray⟩ rfl ?c2 ?c3 hsb ?_)
  case c2 => have := HM.out; have := HL.out; rw [HSS.out, List.length_append]; unfold maxLen; omega
  case c3 => have := HM.out; have := HL.out; rw [HSS.out, List.length_append]; omega
  intro v2 w2 ho2 hg2 _
  have hb2 : Below w.heap.size w w2 := HB.out.grown hg2 hsb (fun k e => (ho.lt k e).1)
  have HO2 := Lib.hid ho2
  clear ho2 ho hg2
  go_wp2
  go_ret
  have h := HO2.out
  have e1 : (cs ++ textB s).length = cs.length + (varint s.length).length + s.length := by unfold textB; simp [Nat.add_assoc]
  have e2 : (cs ++ textB s).map B = cs.map B ++ ((varint s.length).map B ++ Lib.strCells ⟨s.toArray⟩) := by
    have : Lib.strCells ⟨s.toArray⟩ = s.map B := by simp [Lib.strCells]
    rw [this]; unfold textB; simp
  rw [← e1, ← e2] at h
  obtain ⟨A', c', rfl, _, hrd, _⟩ := own_slice h
  exact ⟨A', _, c', _, rfl, rfl, rfl, hrd, hb2⟩
end Go.Proofs.YtdekealpachhmaaDoor

namespace Go.Proofs.YtdekealpachhmaaDoor
open Go Go.RowKit Go.Isth

set_option maxRecDepth 100000 in
set_option maxHeartbeats 1000000 in
theorem rleaf7_any (k v : Str) (w : World) (hk : k.length ≤ 2000000) (hv : v.length ≤ 2000000) :
    Calls Tryd.prog 41 #[S8 k, S8 v] w fun e w' => ∃ cv : List Value, e = .returned (.agg cv.toArray) ∧ cv = (avLeaf k v).map B ∧ cv.length = 32 ∧ Below w.heap.size w w' := by
  have HT := Lib.hid (And.intro hk hv)
  have hb0 : Below w.heap.size w (w.alloc (.cells (List.replicate 32 (B 0)).toArray 46)) := (Below.refl _ _).alloc (Nat.le_refl _) _
  have hz0 := Blk_new w (List.replicate 32 (B 0)) 46
  have hk10 := varint_len10 k.length (by omega)
  have hv10 := varint_len10 v.length (by omega)
  have HL := Lib.hid (show (textB k).length ≤ 2000010 ∧ (textB v).length ≤ 2000010 by unfold textB; simp only [List.length_append]; omega)
  clear hk hv hk10 hv10
  go_enter Tryd.func41, Tryd.ntmps41
  go_upto_region 1 with fail
  change Code.wp _ _ _ _ (w.alloc (.cells (List.replicate 32 (B 0)).toArray 46))
  generalize w.alloc (.cells (List.replicate 32 (B 0)).toArray 46) = w0 at *
  have H0 := Lib.hid (And.intro hb0 hz0)
  clear hb0 hz0
  go_wp2_with fail
  have hr1 : Rd (w0.alloc (.cells #[B 6] 5)) (some ⟨w0.heap.size, 0, none⟩) ([6].map B) := by simpa using Rd_alloc w0 #[B 6] 5
  have hb1 := H0.out.1.alloc H0.out.1.size (.cells #[B 6] 5)
  have hz1 := H0.out.2.alloc (.cells #[B 6] 5)
  have H1 := Lib.hid (And.intro hb1 hz1)
  refine (rtext_to7 (some ⟨w0.heap.size, 0, none⟩) 1 1 [6] k _ rfl HT.out.1 hr1 (by decide)).mono ?_
  rintro e w2 ⟨A2, N2, c2, ds2, rfl, h2, hn2, hr2, hb2⟩
  have H2 := Lib.hid (And.intro (below_then H1.out.1 H1.out.1.size hb2) (And.intro (H1.out.2.below hb2) (And.intro h2 (And.intro hn2 hr2))))
  clear hr1 hb1 hz1 h2 hn2 hr2 hb2
  go_wp2_with fail
  refine (rtext_to7 A2 c2 N2 ds2 v _ H2.out.2.2.2.1 HT.out.2 H2.out.2.2.2.2 (by rw [H2.out.2.2.2.1, H2.out.2.2.1]; have := HL.out; simp; omega)).mono ?_
  rintro e w3 ⟨A3, N3, c3, ds3, rfl, h3, hn3, hr3, hb3⟩
  have H3 := Lib.hid (And.intro (below_then H2.out.1 H2.out.1.size hb3) (And.intro (H2.out.2.1.below hb3) (And.intro h3 (And.intro hn3 hr3))))
  clear h3 hn3 hr3 hb3
  go_wp2_with fail
  refine (rsum_to7 A3 c3 N3 ds3 _ H3.out.2.2.2.1 H3.out.2.2.2.2 (by rw [H3.out.2.2.2.1, H3.out.2.2.1, H2.out.2.2.1]; have := HL.out; simp; omega)).mono ?_
  rintro e w4 ⟨cv, rfl, hcv, hcl, hb⟩
  have H4 := Lib.hid (And.intro (below_then H3.out.1 H3.out.1.size hb) (And.intro (H3.out.2.1.below hb) (And.intro hcl (And.intro (show cv = (avLeaf k v).map B by rw [hcv, H3.out.2.2.1, H2.out.2.2.1]; unfold avLeaf; simp) (show ∀ u ∈ cv, u.oneCell' = true by rw [hcv]; exact one_bytes)))))
  clear hcv hcl hb
  go_wp2_with (refine wpList_store_blk rfl 46 (.tmp 4) (.tmp 10) rfl w.heap.size cv rfl rfl 46 _ H4.out.2.1 (by rw [H4.out.2.2.1]; kernel_rfl) (by rw [H4.out.2.2.1, List.length_replicate]) H4.out.2.2.2.2 ?_; intro w5 hw5 hg5)
  refine bodyPost_ret (results_blk rfl _ _ w.heap.size 46 cv _ rfl hw5 Tryd.underlying46 rfl (by rw [H4.out.2.2.1]; kernel_rfl)) rfl ⟨cv, rfl, H4.out.2.2.2.1, H4.out.2.2.1, ?_⟩
  exact H4.out.1.grown hg5 H4.out.1.size (fun k e => by injection e with e; omega)
theorem rd_lit1 {b : Nat} {w0 w : World} (_h : Below b w0 w) (x : UInt8) : Rd (w.alloc (.cells #[B x] 5)) (some ⟨w.heap.size, 0, none⟩) ([x].map B) := by simpa using Rd_alloc w #[B x] 5
set_option maxRecDepth 100000 in
set_option maxHeartbeats 4000000 in
theorem rnode7_any (n m : Nat) (a b : List UInt8) (cva cvb : List Value) (w : World) (hn : n < 18446744073709551616) (hm : m < 18446744073709551616) (ha : a.length = 32) (hb : b.length = 32) (hva : cva = a.map B) (hvb : cvb = b.map B) :
    Calls Tryd.prog 42 #[.int .i64 n, .agg cva.toArray, .int .i64 m, .agg cvb.toArray] w fun e w' => ∃ cv : List Value, e = .returned (.agg cv.toArray) ∧ cv = (avNode n a m b).map B ∧ cv.length = 32 ∧ Below w.heap.size w w' := by
  have la : cva.length = 32 := by rw [hva, List.length_map]; exact ha
  have lb : cvb.length = 32 := by rw [hvb, List.length_map]; exact hb
  have HA := Lib.hid (And.intro ha (And.intro hb (And.intro hva hvb)))
  clear hva hvb
  have HN := Lib.hid (And.intro hn hm)
  have HU := Lib.hid (And.intro (u64_nat hn) (u64_nat hm))
  have HL := Lib.hid (And.intro (varint_len10 n hn) (varint_len10 m hm))
  obtain ⟨xa, hxa⟩ : ∃ n, n = w.heap.size := ⟨_, rfl⟩
  obtain ⟨w1, hw1⟩ : ∃ w1, w1 = w.alloc (.cells cva.toArray 46) := ⟨_, rfl⟩
  obtain ⟨w2, hw2⟩ : ∃ w2, w2 = w1.alloc (.cells cvb.toArray 46) := ⟨_, rfl⟩
  obtain ⟨w3, hw3⟩ : ∃ w3, w3 = w2.alloc (.cells (List.replicate 32 (B 0)).toArray 46) := ⟨_, rfl⟩
  have s1 : w1.heap.size = xa + 1 := by rw [hw1, World.size_alloc, hxa]
  have s2 : w2.heap.size = xa + 1 + 1 := by rw [hw2, World.size_alloc, s1]
  have b1 : Below w.heap.size w w1 := by rw [hw1]; exact (Below.refl _ _).alloc (Nat.le_refl _) _
  have b2 : Below w.heap.size w w2 := by rw [hw2]; exact b1.alloc b1.size _
  have b3 : Below w.heap.size w w3 := by rw [hw3]; exact b2.alloc b2.size _
  have z1 : Blk w3 xa 46 cva := by rw [hw3, hw2, hw1, hxa]; exact ((Blk_new w cva 46).alloc _).alloc _
  have z2 : Blk w3 (xa + 1) 46 cvb := by rw [← s1, hw3, hw2]; exact (Blk_new w1 cvb 46).alloc _
  have z3 : Blk w3 (xa + 1 + 1) 46 (List.replicate 32 (B 0)) := by rw [← s2, hw3]; exact Blk_new w2 (List.replicate 32 (B 0)) 46
  have HTS : Hid (∀ w', Below w3.heap.size w3 w' → w'.rangeAt xa 0 cva ∧ w'.rangeAt (xa + 1) 0 cvb) := Lib.hid fun w' h => ⟨range_below (blk_range z1) h, range_below (blk_range z2) h⟩
  have HW0 := Lib.hid b3
  have HX := Lib.hid z3
  have HXA := Lib.hid hxa
  have ia : (Tryd.prog.info? 46).map (·.size) = some cva.length := by rw [la]; kernel_rfl
  have ib : (Tryd.prog.info? 46).map (·.size) = some cvb.length := by rw [lb]; kernel_rfl
  have u46 := Tryd.underlying46
  go_enter Tryd.func42, Tryd.ntmps42
  go_upto_region 1 with fail
  change Code.wp _ _ _ _ (((w.alloc (.cells cva.toArray 46)).alloc (.cells cvb.toArray 46)).alloc (.cells (List.replicate 32 (B 0)).toArray 46))
  rw [← hw1, ← hw2, ← hw3, ← hxa]
  have HB : Hid (Below w3.heap.size w3 (w3.drewN 1)) := Lib.hid (refl_drewN w3 1)
  clear hw1 hw2 hw3 s1 s2 b1 b2 b3 z1 z2 z3 la lb hn hm ha hb hxa
  refine wp_region_held_drew (S := (fun w' => w'.rangeAt xa 0 cva ∧ w'.rangeAt (xa + 1) 0 cvb)) (by kernel_rfl) ?qs0 (fun hHeld => ?_)
  case qs0 => exact HTS.out _ HB.out
  refine held_take (i := 1) (v := ?q1v) rfl (by kernel_rfl) (by kernel_rfl) (by kernel_rfl) (fun _ _ _ h => h) (by rfl) ?q1y hHeld ?_
  case q1y => ((intro w _hSw; (try dsimp only at _hSw); go_simp); try (with_reducible rfl))
  try simp only [Act.put, List.setIfInBounds_toArray, List.set_cons_zero, List.set_cons_succ]
  refine held_take (i := 2) (v := (.int .u64 ((n : Nat) : Int))) rfl (by kernel_rfl) (by kernel_rfl) (by kernel_rfl) (fun _ _ _ h => h) (by rfl) ?q2y hHeld ?_
  case q2y => (intro w _hSw; (try dsimp only at _hSw); go_simp; try rw [HU.out.1])
  try simp only [Act.put, List.setIfInBounds_toArray, List.set_cons_zero, List.set_cons_succ]
  refine held_row (i := 4) rfl (by kernel_rfl) (by kernel_rfl) (by kernel_rfl) _ _ rfl _ _ rfl ?q3C ?q3D (fun _ _ _ h => h) (by rfl) ?q3a ?q3b ?q3c ?q3d hHeld ?_
  case q3a => (intro w hSw; (try dsimp only at hSw); go_split_ands; assumption)
  case q3b => assumption
  case q3c => rfl
  case q3d => first | assumption | (simp only [*]; done)
  try simp only [Act.put, List.setIfInBounds_toArray, List.set_cons_zero, List.set_cons_succ]
  refine held_step (i := 0) rfl (by kernel_rfl) (by rfl) (fun K hK => ?_)
  go_simp
  have HR1 := Lib.hid (rd_lit1 HB.out 7)
  have HB := Lib.hid (HB.out.alloc HB.out.size (.cells #[B 7] 5))
  have hHeld := HTS.out _ HB.out
  refine hK.out _ _ (HTS.out _ HB.out) ?_
  clear hK K
  (try simp only [Act.put]); (try simp only [List.setIfInBounds_toArray]); (try simp only [List.set_cons_succ]); (try simp only [List.set_cons_zero])
  refine held_step (i := 3) rfl (by kernel_rfl) (by rfl) (fun K hK => ?_)
  go_simp
  refine (ruint_to7 _ 1 1 [7] n _ _ rfl rfl HN.out.1 HR1.out (by decide)).mono ?_
  rintro e wc ⟨A2, N2, c2, ds2, rfl, h2, hn2, hr2, hb⟩
  have H2 := Lib.hid (And.intro h2 (And.intro hn2 hr2))
  have HB := Lib.hid (below_then HB.out HB.out.size hb)
  clear h2 hn2 hr2 hb
  go_wp2_with fail
  have hHeld := HTS.out _ HB.out
  refine hK.out _ _ (HTS.out _ HB.out) ?_
  clear hK K
  try simp only [Act.put, List.setIfInBounds_toArray, List.set_cons_zero, List.set_cons_succ]
  refine held_step (i := 5) rfl (by kernel_rfl) (by rfl) (fun K hK => ?_)
  go_simp
  refine (rhash_to7 A2 c2 N2 ds2 a cva _ H2.out.2.1 HA.out.2.2.1 HA.out.1 H2.out.2.2 (by rw [H2.out.2.1, H2.out.1]; have := HL.out.1; simp; omega)).mono ?_
  rintro e wc ⟨A3, N3, c3, ds3, rfl, h3, hn3, hr3, hb⟩
  have H3 := Lib.hid (And.intro h3 (And.intro hn3 hr3))
  have HB := Lib.hid (below_then HB.out HB.out.size hb)
  clear h3 hn3 hr3 hb
  go_wp2_with fail
  have hHeld := HTS.out _ HB.out
  refine hK.out _ _ (HTS.out _ HB.out) ?_
  clear hK K
  try simp only [Act.put, List.setIfInBounds_toArray, List.set_cons_zero, List.set_cons_succ]
  refine held_take (i := 6) (v := ?q4v) rfl (by kernel_rfl) (by kernel_rfl) (by kernel_rfl) (fun _ _ _ h => h) (by rfl) ?q4y hHeld ?_
  case q4y => ((intro w _hSw; (try dsimp only at _hSw); go_simp); try (with_reducible rfl))
  try simp only [Act.put, List.setIfInBounds_toArray, List.set_cons_zero, List.set_cons_succ]
  refine wpAnyH_done (by kernel_rfl) ?_ _
  clear hHeld
  go_wp2_with fail
  have HB := Lib.hid (below_then HB.out HB.out.size (refl_drewN _ 1))
  refine wp_region_held_drew (S := (fun w' => w'.rangeAt xa 0 cva ∧ w'.rangeAt (xa + 1) 0 cvb)) (by kernel_rfl) ?ps0 (fun hHeld => ?_)
  case ps0 => exact HTS.out _ HB.out
  refine held_take (i := 0) (v := ?p1v) rfl (by kernel_rfl) (by kernel_rfl) (by kernel_rfl) (fun _ _ _ h => h) (by rfl) ?p1y hHeld ?_
  case p1y => ((intro w _hSw; (try dsimp only at _hSw); go_simp); try (with_reducible rfl))
  try simp only [Act.put, List.setIfInBounds_toArray, List.set_cons_zero, List.set_cons_succ]
  refine held_take (i := 1) (v := ?p2v) rfl (by kernel_rfl) (by kernel_rfl) (by kernel_rfl) (fun _ _ _ h => h) (by rfl) ?p2y hHeld ?_
  case p2y => ((intro w _hSw; (try dsimp only at _hSw); go_simp); try (with_reducible rfl))
  try simp only [Act.put, List.setIfInBounds_toArray, List.set_cons_zero, List.set_cons_succ]
  refine held_take (i := 2) (v := (.int .u64 ((m : Nat) : Int))) rfl (by kernel_rfl) (by kernel_rfl) (by kernel_rfl) (fun _ _ _ h => h) (by rfl) ?p3y hHeld ?_
  case p3y => (intro w _hSw; (try dsimp only at _hSw); go_simp; try rw [HU.out.2])
  try simp only [Act.put, List.setIfInBounds_toArray, List.set_cons_zero, List.set_cons_succ]
  refine held_row (i := 4) rfl (by kernel_rfl) (by kernel_rfl) (by kernel_rfl) _ _ rfl _ _ rfl ?p4C ?p4D (fun _ _ _ h => h) (by rfl) ?p4a ?p4b ?p4c ?p4d hHeld ?_
  case p4a => (intro w hSw; (try dsimp only at hSw); go_split_ands; assumption)
  case p4b => assumption
  case p4c => rfl
  case p4d => first | assumption | (simp only [*]; done)
  try simp only [Act.put, List.setIfInBounds_toArray, List.set_cons_zero, List.set_cons_succ]
  refine held_step (i := 3) rfl (by kernel_rfl) (by rfl) (fun K hK => ?_)
  go_simp
  refine (ruint_to7 A3 c3 N3 ds3 m _ _ rfl H3.out.2.1 HN.out.2 (H3.out.2.2.below (refl_drewN _ 1)) (by rw [H3.out.2.1, H3.out.1, H2.out.1]; have := HL.out; have := HA.out.1; simp; omega)).mono ?_
  rintro e wc ⟨A4, N4, c4, ds4, rfl, h4, hn4, hr4, hb⟩
  have H4 := Lib.hid (And.intro h4 (And.intro hn4 hr4))
  have HB := Lib.hid (below_then HB.out HB.out.size hb)
  clear h4 hn4 hr4 hb
  go_wp2_with fail
  have hHeld := HTS.out _ HB.out
  refine hK.out _ _ (HTS.out _ HB.out) ?_
  clear hK K
  try simp only [Act.put, List.setIfInBounds_toArray, List.set_cons_zero, List.set_cons_succ]
  refine held_step (i := 5) rfl (by kernel_rfl) (by rfl) (fun K hK => ?_)
  go_simp
  refine (rhash_to7 A4 c4 N4 ds4 b cvb _ H4.out.2.1 HA.out.2.2.2 HA.out.2.1 H4.out.2.2 (by rw [H4.out.2.1, H4.out.1, H3.out.1, H2.out.1]; have := HL.out; have := HA.out.1; simp; omega)).mono ?_
  rintro e wc ⟨A5, N5, c5, ds5, rfl, h5, hn5, hr5, hb⟩
  have H5 := Lib.hid (And.intro h5 (And.intro hn5 hr5))
  have HB := Lib.hid (below_then HB.out HB.out.size hb)
  clear h5 hn5 hr5 hb
  go_wp2_with fail
  have hHeld := HTS.out _ HB.out
  refine hK.out _ _ (HTS.out _ HB.out) ?_
  clear hK K
  try simp only [Act.put, List.setIfInBounds_toArray, List.set_cons_zero, List.set_cons_succ]
  refine held_step (i := 6) rfl (by kernel_rfl) (by rfl) (fun K hK => ?_)
  go_simp
  refine (rsum_to7 A5 c5 N5 ds5 _ H5.out.2.1 H5.out.2.2 (by rw [H5.out.2.1, H5.out.1, H4.out.1, H3.out.1, H2.out.1]; have := HL.out; have := HA.out; simp; omega)).mono ?_
  rintro e wc ⟨cv, rfl, hcv, hcl, hb⟩
  have H6 := Lib.hid (And.intro hcl (And.intro (show cv = (avNode n a m b).map B by rw [hcv, H5.out.1, H4.out.1, H3.out.1, H2.out.1]; unfold avNode; simp) (show ∀ u ∈ cv, u.oneCell' = true by rw [hcv]; exact one_bytes)))
  have HB := Lib.hid (below_then HB.out HB.out.size hb)
  clear hcv hcl hb
  go_wp2_with fail
  have hHeld := HTS.out _ HB.out
  refine hK.out _ _ (HTS.out _ HB.out) ?_
  clear hK K
  try simp only [Act.put, List.setIfInBounds_toArray, List.set_cons_zero, List.set_cons_succ]
  refine held_step (i := 7) rfl (by kernel_rfl) (by rfl) (fun K hK => ?_)
  refine wp_store_blk 46 (.tmp 8) (.tmp 22) rfl (xa + 1 + 1) cv rfl rfl 46 _ (HX.out.below HB.out) (by rw [H6.out.1]; kernel_rfl) (by rw [H6.out.1, List.length_replicate]) H6.out.2.2 ?_
  intro w9 hz hg
  have H9 := Lib.hid (And.intro hz ((below_then HW0.out HW0.out.size HB.out).grown hg (below_then HW0.out HW0.out.size HB.out).size (fun q e => by injection e with e; have := HXA.out; omega)))
  have HR9 := Lib.hid (And.intro (range_off (HTS.out _ HB.out).1 (off_store (Below.refl _ _) hg) (by omega)) (range_off (HTS.out _ HB.out).2 (off_store (Below.refl _ _) hg) (by omega)))
  clear hz hg
  have hHeld := HR9.out
  refine hK.out _ _ (HR9.out) ?_
  clear hK K
  (try simp only [Act.put]); (try simp only [List.setIfInBounds_toArray]); (try simp only [List.set_cons_succ]); (try simp only [List.set_cons_zero])
  refine wpAnyH_done (by kernel_rfl) ?_ _
  go_wp2
  refine bodyPost_ret (results_blk rfl _ _ (xa + 1 + 1) 46 cv _ rfl H9.out.1 u46 rfl (by rw [H6.out.1]; kernel_rfl)) rfl ⟨cv, rfl, H6.out.2.1, H6.out.1, H9.out.2⟩
end Go.Proofs.YtdekealpachhmaaDoor

namespace Go.Proofs.YtdekealpachhmaaDoor
open Go Go.RowKit Go.Isth

theorem rlen_to (t : Av) (cs : List Value) (w : World) (h : RC w t cs) (n : Nat) (hn : t.many = n) (hm : t.many ≤ 900000) :
    Calls Tryd.prog 34 #[.agg cs.toArray] w fun e w' => ∃ A c, e = .returned (.slice A n c) ∧ Below w.heap.size w w' := by
  subst hn
  refine (rpairs_tree t cs w h hm).mono ?_
  rintro e w' ⟨v, rfl, ho, hb⟩
  obtain ⟨A, c, rfl, _⟩ := own_slice ho
  exact ⟨A, c, rfl, hb⟩
def SmallP (l : List (Str × Str)) : Prop := ∀ p ∈ l, p.1.length ≤ 2000000 ∧ p.2.length ≤ 2000000
def RRoot (t : Av) : Prop := ∀ (cs : List Value) (w : World), RC w t cs → t.many ≤ 900000 → SmallP t.pairs →
    Calls Tryd.prog 37 #[.agg cs.toArray] w fun e w' => ∃ cv : List Value, e = .returned (.agg cv.toArray) ∧ cv = t.sum.map B ∧ cv.length = 32 ∧ Below w.heap.size w w'
set_option maxRecDepth 100000 in
set_option maxHeartbeats 2000000 in
theorem rroot_leaf (k v : Str) : RRoot (.leaf k v) := by
  intro cs w h _ hs
  obtain rfl := h
  have HS := Lib.hid (hs (k, v) (by simp [Av.pairs]))
  obtain ⟨w1, hw1⟩ : ∃ w1, w1 = w.alloc (.cells #[.bool true, S8 k, S8 v, .slice none 0 0] 26) := ⟨_, rfl⟩
  obtain ⟨w2, hw2⟩ : ∃ w2, w2 = w1.alloc (.cells (List.replicate 32 (B 0)).toArray 46) := ⟨_, rfl⟩
  have s1 : w1.heap.size = w.heap.size + 1 := by rw [hw1, World.size_alloc]
  have b1 : Below w.heap.size w w1 := by rw [hw1]; exact (Below.refl _ _).alloc (Nat.le_refl _) _
  have b2 : Below w.heap.size w w2 := by rw [hw2]; exact b1.alloc b1.size _
  have z1 : Blk w2 w.heap.size 26 [.bool true, S8 k, S8 v, .slice none 0 0] := by rw [hw2, hw1]; exact (Blk_new w [.bool true, S8 k, S8 v, .slice none 0 0] 26).alloc _
  have z2 : Blk w2 (w.heap.size + 1) 46 (List.replicate 32 (B 0)) := by rw [← s1, hw2]; exact Blk_new w1 (List.replicate 32 (B 0)) 46
  have H2 := Lib.hid (And.intro b2 z2)
  have e0 := z1.cellD 0 _ rfl
  have e1 := z1.cellD 1 _ rfl
  have e2 := z1.cellD 2 _ rfl
  have e3 := z1.cellD 3 _ rfl
  clear hs
  go_enter Tryd.func37, Tryd.ntmps37
  go_upto_region 1 with fail
  change Code.wp _ _ _ _ ((w.alloc (.cells #[.bool true, S8 k, S8 v, .slice none 0 0] 26)).alloc (.cells (List.replicate 32 (B 0)).toArray 46))
  rw [← hw1, ← hw2]
  clear hw1 hw2 s1 b1 b2 z1 z2
  go_wp2_with fail
  refine (rleaf7_any k v _ HS.out.1 HS.out.2).mono ?_
  rintro e w4 ⟨cv, rfl, hcv, hcl, hb⟩
  have H4 := Lib.hid (And.intro (below_then H2.out.1 H2.out.1.size hb) (And.intro (H2.out.2.below hb) (And.intro hcl (And.intro hcv (show ∀ u ∈ cv, u.oneCell' = true by rw [hcv]; exact one_bytes)))))
  clear hcv hcl hb e0 e1 e2 e3
  go_wp2_with (refine wpList_store_blk rfl 46 (.tmp 2) (.tmp 17) rfl (w.heap.size + 1) cv rfl rfl 46 _ H4.out.2.1 (by rw [H4.out.2.2.1]; kernel_rfl) (by rw [H4.out.2.2.1, List.length_replicate]) H4.out.2.2.2.2 ?_; intro w5 hw5 hg5)
  refine bodyPost_ret (results_blk rfl _ _ (w.heap.size + 1) 46 cv _ rfl hw5 Tryd.underlying46 rfl (by rw [H4.out.2.2.1]; kernel_rfl)) rfl ⟨cv, rfl, H4.out.2.2.2.1, H4.out.2.2.1, ?_⟩
  exact H4.out.1.grown hg5 H4.out.1.size (fun q e => by injection e with e; omega)
set_option maxRecDepth 100000 in
set_option maxHeartbeats 4000000 in
theorem rroot_node (a b : Av) (IHa : Hid (RRoot a)) (IHb : Hid (RRoot b)) : RRoot (.node a b) := by
  intro cs w h hm hs
  have hl := h.len
  obtain ⟨g, ca, cb, hcs, hra, hrb, ha, hb⟩ := rnode h
  have la := ha.len
  have lb := hb.len
  simp only [Av.many] at hm
  obtain ⟨an, han⟩ : ∃ n, a.many = n := ⟨_, rfl⟩
  obtain ⟨bn, hbn⟩ : ∃ n, b.many = n := ⟨_, rfl⟩
  have HN := Lib.hid (And.intro han hbn)
  have HM := Lib.hid (And.intro hm (And.intro (show SmallP a.pairs from fun p hp => hs p (by simp [Av.pairs, hp])) (show SmallP b.pairs from fun p hp => hs p (by simp [Av.pairs, hp]))))
  obtain ⟨xa, hxa⟩ : ∃ n, n = w.heap.size := ⟨_, rfl⟩
  obtain ⟨w1, hw1⟩ : ∃ w1, w1 = w.alloc (.cells cs.toArray 26) := ⟨_, rfl⟩
  obtain ⟨w2, hw2⟩ : ∃ w2, w2 = w1.alloc (.cells (List.replicate 32 (B 0)).toArray 46) := ⟨_, rfl⟩
  have s1 : w1.heap.size = xa + 1 := by rw [hw1, World.size_alloc, hxa]
  have b1 : Below w.heap.size w w1 := by rw [hw1]; exact (Below.refl _ _).alloc (Nat.le_refl _) _
  have b2 : Below w.heap.size w w2 := by rw [hw2]; exact b1.alloc b1.size _
  have s2 : w2.heap.size = xa + 1 + 1 := by rw [hw2, World.size_alloc, s1]
  have z1 : Blk w2 xa 26 cs := by rw [hw2, hw1, hxa]; exact (Blk_new w cs 26).alloc _
  have z2 : Blk w2 (xa + 1) 46 (List.replicate 32 (B 0)) := by rw [← s1, hw2]; exact Blk_new w1 (List.replicate 32 (B 0)) 46
  have e0 := z1.cellD 0 (.bool true) (by rw [hcs]; rfl)
  have e3 := z1.cellD 3 (.slice (some ⟨g, 0, none⟩) 2 2) (by rw [hcs]; rfl)
  have HTS : Hid (∀ w', Below w2.heap.size w2 w' → w'.cell? ⟨xa, 3, none⟩ = some (.slice (some ⟨g, 0, none⟩) 2 2) ∧ w'.rangeAt g 0 ca ∧ w'.rangeAt g 4 cb) := Lib.hid fun w' h => ⟨cell_below e3 h, range_below (range_below hra b2) h, range_below (range_below hrb b2) h⟩
  have HT := Lib.hid (And.intro (ha.below b2) (hb.below b2))
  have HW0 := Lib.hid b2
  have HX := Lib.hid z2
  have HXA := Lib.hid (And.intro hxa s2)
  have ica : (Tryd.prog.info? 26).map (·.size) = some ca.length := by rw [la]; kernel_rfl
  have icb : (Tryd.prog.info? 26).map (·.size) = some cb.length := by rw [lb]; kernel_rfl
  have uT := Tryd.underlying26
  clear hcs
  go_enter Tryd.func37, Tryd.ntmps37
  go_upto_region 1 with fail
  change Code.wp _ _ _ _ ((w.alloc (.cells cs.toArray 26)).alloc (.cells (List.replicate 32 (B 0)).toArray 46))
  rw [← hw1, ← hw2, ← hxa]
  clear hw1 hw2 s1 s2 b1 b2 z1 z2 la lb hm hs ha hb hra hrb h hl hxa han hbn
  go_wp2_with fail
  clear e0 e3
  have HB : Hid (Below w2.heap.size w2 (w2.drewN 1)) := Lib.hid (refl_drewN w2 1)
  go_cut [3, 4] from 18 (fun v3 v4 wr => ∃ g3 g4 : Nat, v3 = .pointer (some ⟨g3, 0, none⟩) ∧ v4 = .pointer (some ⟨g4, 0, none⟩) ∧ Below w2.heap.size w2 wr ∧ Blk wr g3 26 ca ∧ Blk wr g4 26 cb ∧ w2.heap.size ≤ g3 ∧ w2.heap.size ≤ g4)
  case first =>
    refine wp_region_held_drew (S := (fun w' => w'.cell? ⟨xa, 3, none⟩ = some (.slice (some ⟨g, 0, none⟩) 2 2) ∧ w'.rangeAt g 0 ca ∧ w'.rangeAt g 4 cb)) (by kernel_rfl) ?ps0 (fun hHeld => ?_)
    case ps0 => exact HTS.out _ HB.out
    refine held_take (i := 0) (v := ?p1v) rfl (by kernel_rfl) (by kernel_rfl) (by kernel_rfl) (fun _ _ _ h => h) (by rfl) ?p1y hHeld ?_
    case p1y => ((intro w _hSw; (try dsimp only at _hSw); go_simp); try (with_reducible rfl))
    try simp only [Act.put, List.setIfInBounds_toArray, List.set_cons_zero, List.set_cons_succ]
    refine held_take (i := 1) (v := ?p2v) rfl (by kernel_rfl) (by kernel_rfl) (by kernel_rfl) (fun _ _ _ h => h) (by rfl) ?p2y hHeld ?_
    case p2y => ((intro w _hSw; (try dsimp only at _hSw); go_simp); try (with_reducible rfl))
    try simp only [Act.put, List.setIfInBounds_toArray, List.set_cons_zero, List.set_cons_succ]
    refine held_take (i := 2) (v := ?p3v) rfl (by kernel_rfl) (by kernel_rfl) (by kernel_rfl) (fun _ _ _ h => h) (by rfl) ?p3y hHeld ?_
    case p3y => ((intro w _hSw; (try dsimp only at _hSw); go_simp); try (with_reducible rfl))
    try simp only [Act.put, List.setIfInBounds_toArray, List.set_cons_zero, List.set_cons_succ]
    refine held_row (i := 3) rfl (by kernel_rfl) (by kernel_rfl) (by kernel_rfl) _ _ rfl _ _ rfl ?p4C ?p4D (fun _ _ _ h => h) (by rfl) ?p4a ?p4b ?p4c ?p4d hHeld ?_
    case p4a => (intro w hSw; (try dsimp only at hSw); go_split_ands; assumption)
    case p4b => assumption
    case p4c => rfl
    case p4d => first | assumption | (simp only [*]; done)
    try simp only [Act.put, List.setIfInBounds_toArray, List.set_cons_zero, List.set_cons_succ]
    refine held_take (i := 4) (v := ?p5v) rfl (by kernel_rfl) (by kernel_rfl) (by kernel_rfl) (fun _ _ _ h => h) (by rfl) ?p5y hHeld ?_
    case p5y => ((intro w _hSw; (try dsimp only at _hSw); go_simp); try (with_reducible rfl))
    try simp only [Act.put, List.setIfInBounds_toArray, List.set_cons_zero, List.set_cons_succ]
    refine held_take (i := 5) (v := ?p6v) rfl (by kernel_rfl) (by kernel_rfl) (by kernel_rfl) (fun _ _ _ h => h) (by rfl) ?p6y hHeld ?_
    case p6y => ((intro w _hSw; (try dsimp only at _hSw); go_simp); try (with_reducible rfl))
    try simp only [Act.put, List.setIfInBounds_toArray, List.set_cons_zero, List.set_cons_succ]
    refine held_take (i := 6) (v := ?p7v) rfl (by kernel_rfl) (by kernel_rfl) (by kernel_rfl) (fun _ _ _ h => h) (by rfl) ?p7y hHeld ?_
    case p7y => ((intro w _hSw; (try dsimp only at _hSw); go_simp); try (with_reducible rfl))
    try simp only [Act.put, List.setIfInBounds_toArray, List.set_cons_zero, List.set_cons_succ]
    refine held_row (i := 7) rfl (by kernel_rfl) (by kernel_rfl) (by kernel_rfl) _ _ rfl _ _ rfl ?p8C ?p8D (fun _ _ _ h => h) (by rfl) ?p8a ?p8b ?p8c ?p8d hHeld ?_
    case p8a => (intro w hSw; (try dsimp only at hSw); go_split_ands; assumption)
    case p8b => assumption
    case p8c => rfl
    case p8d => first | assumption | (simp only [*]; done)
    try simp only [Act.put, List.setIfInBounds_toArray, List.set_cons_zero, List.set_cons_succ]
    refine held_two (i := 8) (j := 9) rfl rfl (by kernel_rfl) (by rfl) (by rfl) (fun K hK => ?_) (fun K hK => ?_)
    · skip
      go_simp
      try have HNE := Lib.hid (blk_lt2 HL7.out)
      try have HL7 := Lib.hid (HL7.out.alloc (.cells emptyC.toArray 26))
      first | have HL6 := Lib.hid (blk_new_at2 HB.out emptyC 26) | have HL6 := Lib.hid (blk_new_at HB.out emptyC 26)
      first | have HGL6 := Lib.hid (size_at2 HB.out) | have HGL6 := Lib.hid HB.out.size
      have HB := Lib.hid (HB.out.alloc HB.out.size (.cells emptyC.toArray 26))
      have hHeld := HTS.out _ HB.out
      refine hK.out _ _ (HTS.out _ HB.out) ?_
      clear hK K
      (try simp only [Act.put]); (try simp only [List.setIfInBounds_toArray]); (try simp only [List.set_cons_succ]); (try simp only [List.set_cons_zero])
      refine held_step (i := 9) rfl (by kernel_rfl) (by rfl) (fun K hK => ?_)
      go_simp
      try have HNE := Lib.hid (blk_lt2 HL6.out)
      try have HL6 := Lib.hid (HL6.out.alloc (.cells emptyC.toArray 26))
      first | have HL7 := Lib.hid (blk_new_at2 HB.out emptyC 26) | have HL7 := Lib.hid (blk_new_at HB.out emptyC 26)
      first | have HGL7 := Lib.hid (size_at2 HB.out) | have HGL7 := Lib.hid HB.out.size
      have HB := Lib.hid (HB.out.alloc HB.out.size (.cells emptyC.toArray 26))
      have hHeld := HTS.out _ HB.out
      refine hK.out _ _ (HTS.out _ HB.out) ?_
      clear hK K
      (try simp only [Act.put]); (try simp only [List.setIfInBounds_toArray]); (try simp only [List.set_cons_succ]); (try simp only [List.set_cons_zero])
      refine held_step (i := 10) rfl (by kernel_rfl) (by rfl) (fun K hK => ?_)
      refine wp_store_blk 26 (.tmp 3) (.tmp 21) rfl _ ca rfl rfl 26 _ HL6.out (by rw [HT.out.1.len]; kernel_rfl) (by rw [HT.out.1.len]; rfl) HT.out.1.one ?_
      intro wc hz hg
      have HL7 := Lib.hid (HL7.out.grown hg (by first | exact fun e => Nat.ne_of_lt HNE.out (Option.some.inj e) | exact fun e => Nat.ne_of_gt HNE.out (Option.some.inj e)))
      have HL6 := Lib.hid hz
      have HB := Lib.hid (HB.out.grown hg HB.out.size (fun q e => (Option.some.inj e) ▸ HGL6.out))
      clear hz hg
      have hHeld := HTS.out _ HB.out
      refine hK.out _ _ (HTS.out _ HB.out) ?_
      clear hK K
      (try simp only [Act.put]); (try simp only [List.setIfInBounds_toArray]); (try simp only [List.set_cons_succ]); (try simp only [List.set_cons_zero])
      refine held_step (i := 11) rfl (by kernel_rfl) (by rfl) (fun K hK => ?_)
      refine wp_store_blk 26 (.tmp 4) (.tmp 25) rfl _ cb rfl rfl 26 _ HL7.out (by rw [HT.out.2.len]; kernel_rfl) (by rw [HT.out.2.len]; rfl) HT.out.2.one ?_
      intro wc hz hg
      have HL6 := Lib.hid (HL6.out.grown hg (by first | exact fun e => Nat.ne_of_lt HNE.out (Option.some.inj e) | exact fun e => Nat.ne_of_gt HNE.out (Option.some.inj e)))
      have HL7 := Lib.hid hz
      have HB := Lib.hid (HB.out.grown hg HB.out.size (fun q e => (Option.some.inj e) ▸ HGL7.out))
      clear hz hg
      have hHeld := HTS.out _ HB.out
      refine hK.out _ _ (HTS.out _ HB.out) ?_
      clear hK K
      (try simp only [Act.put]); (try simp only [List.setIfInBounds_toArray]); (try simp only [List.set_cons_succ]); (try simp only [List.set_cons_zero])
      refine wpAnyH_done (by kernel_rfl) ?_ _
      go_wp2
      go_meet
      case rel => exact ⟨_, _, rfl, rfl, HB.out, HL6.out, HL7.out, HGL6.out, HGL7.out⟩
    · skip
      go_simp
      try have HNE := Lib.hid (blk_lt2 HL6.out)
      try have HL6 := Lib.hid (HL6.out.alloc (.cells emptyC.toArray 26))
      first | have HL7 := Lib.hid (blk_new_at2 HB.out emptyC 26) | have HL7 := Lib.hid (blk_new_at HB.out emptyC 26)
      first | have HGL7 := Lib.hid (size_at2 HB.out) | have HGL7 := Lib.hid HB.out.size
      have HB := Lib.hid (HB.out.alloc HB.out.size (.cells emptyC.toArray 26))
      have hHeld := HTS.out _ HB.out
      refine hK.out _ _ (HTS.out _ HB.out) ?_
      clear hK K
      (try simp only [Act.put]); (try simp only [List.setIfInBounds_toArray]); (try simp only [List.set_cons_succ]); (try simp only [List.set_cons_zero])
      refine held_step (i := 8) rfl (by kernel_rfl) (by rfl) (fun K hK => ?_)
      go_simp
      try have HNE := Lib.hid (blk_lt2 HL7.out)
      try have HL7 := Lib.hid (HL7.out.alloc (.cells emptyC.toArray 26))
      first | have HL6 := Lib.hid (blk_new_at2 HB.out emptyC 26) | have HL6 := Lib.hid (blk_new_at HB.out emptyC 26)
      first | have HGL6 := Lib.hid (size_at2 HB.out) | have HGL6 := Lib.hid HB.out.size
      have HB := Lib.hid (HB.out.alloc HB.out.size (.cells emptyC.toArray 26))
      have hHeld := HTS.out _ HB.out
      refine hK.out _ _ (HTS.out _ HB.out) ?_
      clear hK K
      (try simp only [Act.put]); (try simp only [List.setIfInBounds_toArray]); (try simp only [List.set_cons_succ]); (try simp only [List.set_cons_zero])
      refine held_step (i := 10) rfl (by kernel_rfl) (by rfl) (fun K hK => ?_)
      refine wp_store_blk 26 (.tmp 3) (.tmp 21) rfl _ ca rfl rfl 26 _ HL6.out (by rw [HT.out.1.len]; kernel_rfl) (by rw [HT.out.1.len]; rfl) HT.out.1.one ?_
      intro wc hz hg
      have HL7 := Lib.hid (HL7.out.grown hg (by first | exact fun e => Nat.ne_of_lt HNE.out (Option.some.inj e) | exact fun e => Nat.ne_of_gt HNE.out (Option.some.inj e)))
      have HL6 := Lib.hid hz
      have HB := Lib.hid (HB.out.grown hg HB.out.size (fun q e => (Option.some.inj e) ▸ HGL6.out))
      clear hz hg
      have hHeld := HTS.out _ HB.out
      refine hK.out _ _ (HTS.out _ HB.out) ?_
      clear hK K
      (try simp only [Act.put]); (try simp only [List.setIfInBounds_toArray]); (try simp only [List.set_cons_succ]); (try simp only [List.set_cons_zero])
      refine held_step (i := 11) rfl (by kernel_rfl) (by rfl) (fun K hK => ?_)
      refine wp_store_blk 26 (.tmp 4) (.tmp 25) rfl _ cb rfl rfl 26 _ HL7.out (by rw [HT.out.2.len]; kernel_rfl) (by rw [HT.out.2.len]; rfl) HT.out.2.one ?_
      intro wc hz hg
      have HL6 := Lib.hid (HL6.out.grown hg (by first | exact fun e => Nat.ne_of_lt HNE.out (Option.some.inj e) | exact fun e => Nat.ne_of_gt HNE.out (Option.some.inj e)))
      have HL7 := Lib.hid hz
      have HB := Lib.hid (HB.out.grown hg HB.out.size (fun q e => (Option.some.inj e) ▸ HGL7.out))
      clear hz hg
      have hHeld := HTS.out _ HB.out
      refine hK.out _ _ (HTS.out _ HB.out) ?_
      clear hK K
      (try simp only [Act.put]); (try simp only [List.setIfInBounds_toArray]); (try simp only [List.set_cons_succ]); (try simp only [List.set_cons_zero])
      refine wpAnyH_done (by kernel_rfl) ?_ _
      go_wp2
      go_meet
      case rel => exact ⟨_, _, rfl, rfl, HB.out, HL6.out, HL7.out, HGL6.out, HGL7.out⟩
  case rest =>
    obtain ⟨g3, g4, rfl, rfl, hb, h3, h4, l3, l4⟩ := hcut
    rw [HXA.out.2] at l3 l4
    have HTU : Hid (∀ w', Off wc (xa + 1) w' → w'.rangeAt g3 0 ca ∧ w'.rangeAt g4 0 cb) := Lib.hid fun w' h => ⟨range_off (blk_range h3) h (by omega), range_off (blk_range h4) h (by omega)⟩
    have HX := Lib.hid (HX.out.below hb)
    have HT := Lib.hid (And.intro (HT.out.1.below hb) (HT.out.2.below hb))
    have HW0 := Lib.hid (below_then HW0.out HW0.out.size hb)
    have HXA := Lib.hid HXA.out.1
    have HB : Hid (Below wc.heap.size wc (wc.drewN 1)) := Lib.hid (refl_drewN wc 1)
    clear h3 h4 hb l3 l4
    go_wp2_with fail
    refine wp_region_held_drew (S := (fun w' => w'.rangeAt g3 0 ca ∧ w'.rangeAt g4 0 cb)) (by kernel_rfl) ?qs0 (fun hHeld => ?_)
    case qs0 => exact HTU.out _ (off_below HB.out)
    refine held_row (i := 0) rfl (by kernel_rfl) (by kernel_rfl) (by kernel_rfl) _ _ rfl _ _ rfl ?q1C ?q1D (fun _ _ _ h => h) (by rfl) ?q1a ?q1b ?q1c ?q1d hHeld ?_
    case q1a => (intro w hSw; (try dsimp only at hSw); go_split_ands; assumption)
    case q1b => assumption
    case q1c => rfl
    case q1d => first | assumption | (simp only [*]; done)
    try simp only [Act.put, List.setIfInBounds_toArray, List.set_cons_zero, List.set_cons_succ]
    refine held_row (i := 3) rfl (by kernel_rfl) (by kernel_rfl) (by kernel_rfl) _ _ rfl _ _ rfl ?q2C ?q2D (fun _ _ _ h => h) (by rfl) ?q2a ?q2b ?q2c ?q2d hHeld ?_
    case q2a => (intro w hSw; (try dsimp only at hSw); go_split_ands; assumption)
    case q2b => assumption
    case q2c => rfl
    case q2d => first | assumption | (simp only [*]; done)
    try simp only [Act.put, List.setIfInBounds_toArray, List.set_cons_zero, List.set_cons_succ]
    refine held_row (i := 5) rfl (by kernel_rfl) (by kernel_rfl) (by kernel_rfl) _ _ rfl _ _ rfl ?q3C ?q3D (fun _ _ _ h => h) (by rfl) ?q3a ?q3b ?q3c ?q3d hHeld ?_
    case q3a => (intro w hSw; (try dsimp only at hSw); go_split_ands; assumption)
    case q3b => assumption
    case q3c => rfl
    case q3d => first | assumption | (simp only [*]; done)
    try simp only [Act.put, List.setIfInBounds_toArray, List.set_cons_zero, List.set_cons_succ]
    refine held_row (i := 8) rfl (by kernel_rfl) (by kernel_rfl) (by kernel_rfl) _ _ rfl _ _ rfl ?q4C ?q4D (fun _ _ _ h => h) (by rfl) ?q4a ?q4b ?q4c ?q4d hHeld ?_
    case q4a => (intro w hSw; (try dsimp only at hSw); go_split_ands; assumption)
    case q4b => assumption
    case q4c => rfl
    case q4d => first | assumption | (simp only [*]; done)
    try simp only [Act.put, List.setIfInBounds_toArray, List.set_cons_zero, List.set_cons_succ]
    refine held_step (i := 1) rfl (by kernel_rfl) (by rfl) (fun K hK => ?_)
    go_simp
    refine (rlen_to a ca _ (HT.out.1.below HB.out) an HN.out.1 (by have := HM.out.1; omega)).mono ?_
    rintro e wc ⟨_, _, rfl, hb⟩
    have HB := Lib.hid (below_then HB.out HB.out.size hb)
    clear hb
    go_wp2_with fail
    have hHeld := HTU.out _ (off_below HB.out)
    refine hK.out _ _ (HTU.out _ (off_below HB.out)) ?_
    clear hK K
    try simp only [Act.put, List.setIfInBounds_toArray, List.set_cons_zero, List.set_cons_succ]
    refine held_take (i := 2) (v := ?q5v) rfl (by kernel_rfl) (by kernel_rfl) (by kernel_rfl) (fun _ _ _ h => h) (by rfl) ?q5y hHeld ?_
    case q5y => ((intro w _hSw; (try dsimp only at _hSw); go_simp); try (with_reducible rfl))
    try simp only [Act.put, List.setIfInBounds_toArray, List.set_cons_zero, List.set_cons_succ]
    refine held_step (i := 4) rfl (by kernel_rfl) (by rfl) (fun K hK => ?_)
    go_simp
    refine (IHa.out ca _ (HT.out.1.below HB.out) (by have := HM.out.1; omega) HM.out.2.1).mono ?_
    rintro e wc ⟨cva, rfl, hcv, hcl, hb⟩
    have HVa := Lib.hid (And.intro hcv hcl)
    have HB := Lib.hid (below_then HB.out HB.out.size hb)
    clear hcv hcl hb
    go_wp2_with fail
    have hHeld := HTU.out _ (off_below HB.out)
    refine hK.out _ _ (HTU.out _ (off_below HB.out)) ?_
    clear hK K
    try simp only [Act.put, List.setIfInBounds_toArray, List.set_cons_zero, List.set_cons_succ]
    refine held_step (i := 6) rfl (by kernel_rfl) (by rfl) (fun K hK => ?_)
    go_simp
    refine (rlen_to b cb _ (HT.out.2.below HB.out) bn HN.out.2 (by have := HM.out.1; omega)).mono ?_
    rintro e wc ⟨_, _, rfl, hb⟩
    have HB := Lib.hid (below_then HB.out HB.out.size hb)
    clear hb
    go_wp2_with fail
    have hHeld := HTU.out _ (off_below HB.out)
    refine hK.out _ _ (HTU.out _ (off_below HB.out)) ?_
    clear hK K
    try simp only [Act.put, List.setIfInBounds_toArray, List.set_cons_zero, List.set_cons_succ]
    refine held_take (i := 7) (v := ?q6v) rfl (by kernel_rfl) (by kernel_rfl) (by kernel_rfl) (fun _ _ _ h => h) (by rfl) ?q6y hHeld ?_
    case q6y => ((intro w _hSw; (try dsimp only at _hSw); go_simp); try (with_reducible rfl))
    try simp only [Act.put, List.setIfInBounds_toArray, List.set_cons_zero, List.set_cons_succ]
    refine held_step (i := 9) rfl (by kernel_rfl) (by rfl) (fun K hK => ?_)
    go_simp
    refine (IHb.out cb _ (HT.out.2.below HB.out) (by have := HM.out.1; omega) HM.out.2.2).mono ?_
    rintro e wc ⟨cvb, rfl, hcv, hcl, hb⟩
    have HVb := Lib.hid (And.intro hcv hcl)
    have HB := Lib.hid (below_then HB.out HB.out.size hb)
    clear hcv hcl hb
    go_wp2_with fail
    have hHeld := HTU.out _ (off_below HB.out)
    refine hK.out _ _ (HTU.out _ (off_below HB.out)) ?_
    clear hK K
    try simp only [Act.put, List.setIfInBounds_toArray, List.set_cons_zero, List.set_cons_succ]
    refine held_step (i := 10) rfl (by kernel_rfl) (by rfl) (fun K hK => ?_)
    go_simp
    refine (rnode7_any an bn a.sum b.sum cva cvb _ (by have := HM.out.1; have := HN.out; omega) (by have := HM.out.1; have := HN.out; omega) a.sum_length b.sum_length HVa.out.1 HVb.out.1).mono ?_
    rintro e wc ⟨cv, rfl, hcv, hcl, hb⟩
    have HV := Lib.hid (And.intro (show cv = (Av.node a b).sum.map B by rw [hcv, ← HN.out.1, ← HN.out.2]; rfl) (And.intro hcl (show ∀ u ∈ cv, u.oneCell' = true by rw [hcv]; exact one_bytes)))
    have HB := Lib.hid (below_then HB.out HB.out.size hb)
    clear hcv hcl hb
    go_wp2_with fail
    have hHeld := HTU.out _ (off_below HB.out)
    refine hK.out _ _ (HTU.out _ (off_below HB.out)) ?_
    clear hK K
    try simp only [Act.put, List.setIfInBounds_toArray, List.set_cons_zero, List.set_cons_succ]
    refine held_step (i := 11) rfl (by kernel_rfl) (by rfl) (fun K hK => ?_)
    refine wp_store_blk 46 (.tmp 2) (.tmp 36) rfl (xa + 1) cv rfl rfl 46 _ (HX.out.below HB.out) (by rw [HV.out.2.1]; kernel_rfl) (by rw [HV.out.2.1, List.length_replicate]) HV.out.2.2 ?_
    intro w9 hz hg
    have H9 := Lib.hid (And.intro hz ((below_then HW0.out HW0.out.size HB.out).grown hg (below_then HW0.out HW0.out.size HB.out).size (fun q e => by injection e with e; have := HXA.out; omega)))
    have HS9 := Lib.hid (off_store HB.out hg)
    clear hz hg
    have hHeld := HTU.out _ HS9.out
    refine hK.out _ _ (HTU.out _ HS9.out) ?_
    clear hK K
    (try simp only [Act.put]); (try simp only [List.setIfInBounds_toArray]); (try simp only [List.set_cons_succ]); (try simp only [List.set_cons_zero])
    refine wpAnyH_done (by kernel_rfl) ?_ _
    go_wp2
    refine bodyPost_ret (results_blk rfl _ _ (xa + 1) 46 cv _ rfl H9.out.1 Tryd.underlying46 rfl (by rw [HV.out.2.1]; kernel_rfl)) rfl ⟨_, rfl, HV.out.1, HV.out.2.1, H9.out.2⟩
theorem rroot_tree : ∀ t : Av, RRoot t
  | .leaf k v => rroot_leaf k v
  | .node a b => rroot_node a b (Lib.hid (rroot_tree a)) (Lib.hid (rroot_tree b))
end Go.Proofs.YtdekealpachhmaaDoor

namespace Go.Isth
open Go Go.RowKit
theorem wpList_exec {P : Program} {w w' : World} {ops : Array Oper} {rest : List Oper} {o : Oper} {a : Act} {Q : Exit → Act → World → Prop} (hgd : o.guard = none) (v : Value) (hr : (execOp a.eval o).run P w = .ok (.value v) w')
    (h : wpList P ops Q rest (a.put o.dst v) w') : wpList P ops Q (o :: rest) a w := by
  refine wpList_plain hgd fun K hK => ?_
  unfold Oper.wp
  rw [hr]
  simp only [Oper.upon]
  exact hK _ _ h
end Go.Isth
namespace Go.Proofs.YtdekealpachhmaaDoor
open Go Go.RowKit Go.Isth

theorem tSr : SlT Tryd.prog 79 82 (.agg (.bool false :: .int .i64 0 :: List.replicate 32 (B 0)).toArray) 34 48 := ⟨Tryd.underlying79, by kernel_rfl, rfl, by decide⟩
theorem built_stepR (s : Bool) (m : Int) (cs : List Value) (hl : cs.length = 32) :
    Tryd.prog.built 82 [(0, .bool s), (1, .int .i64 m), (2, .agg cs.toArray)] = some (.bool s :: .int .i64 m :: cs).toArray := by
  rw [built_struct (P := Tryd.prog) (t := 82) (zs := [.bool false, .int .i64 0] ++ List.replicate 32 (B 0)) (by kernel_rfl) Tryd.underlying82 (places := [(0, 1), (1, 1), (2, 32)]) (by kernel_rfl)]
  refine (fill_part _ 0 0 (.bool s) [.bool s] [] [.bool false] (.int .i64 0 :: List.replicate 32 (B 0)) _ rfl rfl rfl rfl).trans ?_
  refine (fill_part _ 1 1 (.int .i64 m) [.int .i64 m] [.bool s] [.int .i64 0] (List.replicate 32 (B 0)) _ rfl rfl rfl rfl).trans ?_
  refine (fill_part _ 2 2 (.agg cs.toArray) cs [.bool s, .int .i64 m] (List.replicate 32 (B 0)) [] _ (by rw [hl]; rfl) rfl rfl (by rw [hl]; rfl)).trans ?_
  rw [fill_nil, List.append_nil]
  rfl
def RPath (t : Av) : Prop := ∀ (i : Nat) (cs : List Value) (w : World), RC w t cs → i < t.many → t.many ≤ 900000 → SmallP t.pairs →
    Calls Tryd.prog 35 #[.agg cs.toArray, .int .i64 (i : Nat)] w fun e w' => ∃ v, e = .returned (.tuple #[v, .int .i64 0]) ∧ w'.ownsRow w.heap.size 82 34 v (t.path i).length (stepsC (t.path i)) ∧ Below w.heap.size w w'
set_option maxRecDepth 100000 in
set_option maxHeartbeats 2000000 in
theorem rpath_leaf (k v : Str) : RPath (.leaf k v) := by
  intro i cs w h hi hm _
  have hl := h.len
  have hz := Blk_new w cs 26
  have hb0 : Below w.heap.size w (w.alloc (.cells cs.toArray 26)) := (Below.refl _ _).alloc (Nat.le_refl _) _
  have HLD := Lib.hid (ld_tree hz hl)
  have HT := Lib.hid (And.intro (h.below hb0) (And.intro hm hb0))
  have HZ := Lib.hid hz
  have HC := Lib.hid (show cs = [.bool true, S8 k, S8 v, .slice none 0 0] from h)
  simp only [Av.many] at hi
  go_enter Tryd.func35, Tryd.ntmps35
  go_upto_region 1 with fail
  change Code.wp _ _ _ _ (w.alloc (.cells cs.toArray 26))
  generalize w.alloc (.cells cs.toArray 26) = w0 at *
  clear h hm hl hz hb0
  go_wp2_with (refine wpList_load rfl (.tmp 2) rfl ⟨w.heap.size, 0, none⟩ (.agg cs.toArray) rfl HLD.out ?_)
  refine (rlen_to (.leaf k v) cs w0 HT.out.1 1 rfl HT.out.2.1).mono ?_
  rintro e w1 ⟨_, _, rfl, hb⟩
  have e3 := (HZ.out.below hb).cellD 3 (.slice none 0 0) (by rw [HC.out]; rfl)
  have HB := Lib.hid (below_then HT.out.2.2 HT.out.2.2.size hb)
  have hi1 : ¬ (i : Int) < 0 := by omega
  have hi2 : ¬ ((1 : Int) ≤ (i : Int)) := by omega
  have hi3 : (i : Int) < 1 := by omega
  clear hb hi
  go_wp2
  go_ret2
  exact ⟨_, rfl, World.ownsRow_nil _ _ _ _, HB.out⟩
set_option maxRecDepth 100000 in
set_option maxHeartbeats 8000000 in
theorem rpath_node (a b : Av) (IHa : Hid (RPath a)) (IHb : Hid (RPath b)) : RPath (.node a b) := by
  intro i cs w h hi hm hs
  have hl := h.len
  obtain ⟨g, ca, cb, hcs, hra, hrb, ha, hb⟩ := rnode h
  have la := ha.len
  have lb := hb.len
  have hmn := hm
  simp only [Av.many] at hm hi
  obtain ⟨an, han⟩ : ∃ n, a.many = n := ⟨_, rfl⟩
  obtain ⟨bn, hbn⟩ : ∃ n, b.many = n := ⟨_, rfl⟩
  obtain ⟨nn, hnn⟩ : ∃ n, (Av.node a b).many = n := ⟨_, rfl⟩
  have hab : nn = an + bn := by rw [← hnn, ← han, ← hbn]; rfl
  have HN := Lib.hid (And.intro han (And.intro hbn hnn))
  have HM := Lib.hid (And.intro hm (And.intro (show SmallP a.pairs from fun p hp => hs p (by simp [Av.pairs, hp])) (show SmallP b.pairs from fun p hp => hs p (by simp [Av.pairs, hp]))))
  rw [han, hbn] at hm hi
  obtain ⟨xa, hxa⟩ : ∃ n, n = w.heap.size := ⟨_, rfl⟩
  obtain ⟨w1, hw1⟩ : ∃ w1, w1 = w.alloc (.cells cs.toArray 26) := ⟨_, rfl⟩
  have b1 : Below w.heap.size w w1 := by rw [hw1]; exact (Below.refl _ _).alloc (Nat.le_refl _) _
  have z1 : Blk w1 xa 26 cs := by rw [hw1, hxa]; exact Blk_new w cs 26
  have HLD := Lib.hid (ld_tree z1 hl)
  have HZ := Lib.hid (z1.cellD 3 (.slice (some ⟨g, 0, none⟩) 2 2) (by rw [hcs]; rfl))
  have HRR := Lib.hid (And.intro (range_below hra b1) (range_below hrb b1))
  have HTR := Lib.hid (RC.below b1 h)
  have HTa := Lib.hid (ha.below b1)
  have HTb := Lib.hid (hb.below b1)
  have HW0 := Lib.hid b1
  have HMN := Lib.hid hmn
  have HLEN := Lib.hid (And.intro la lb)
  have ica : (Tryd.prog.info? 26).map (·.size) = some ca.length := by rw [la]; kernel_rfl
  have icb : (Tryd.prog.info? 26).map (·.size) = some cb.length := by rw [lb]; kernel_rfl
  have uT := Tryd.underlying26
  have HAB := Lib.hid hab
  have hle : an ≤ nn := by omega
  have hn9 : nn ≤ 900000 := by omega
  clear hcs
  go_enter Tryd.func35, Tryd.ntmps35
  go_upto_region 1 with fail
  change Code.wp _ _ _ _ (w.alloc (.cells cs.toArray 26))
  rw [← hw1, ← hxa]
  clear hab hm hw1 b1 z1 la lb hmn hs ha hb hra hrb h hl hxa han hbn hnn
  go_wp2_with (refine wpList_load rfl (.tmp 2) rfl ⟨xa, 0, none⟩ (.agg cs.toArray) rfl HLD.out ?_)
  refine (rlen_to (.node a b) cs w1 HTR.out nn HN.out.2.2 HMN.out).mono ?_
  rintro e w2 ⟨_, _, rfl, hb⟩
  have e3 := cell_below HZ.out hb
  have HTS : Hid (∀ w', Below w2.heap.size w2 w' → w'.cell? ⟨xa, 3, none⟩ = some (.slice (some ⟨g, 0, none⟩) 2 2) ∧ w'.rangeAt g 0 ca ∧ w'.rangeAt g 4 cb) := Lib.hid fun w' h => ⟨cell_below e3 h, range_below (range_below HRR.out.1 hb) h, range_below (range_below HRR.out.2 hb) h⟩
  have HT := Lib.hid (And.intro (HTa.out.below hb) (HTb.out.below hb))
  have HW0 := Lib.hid (below_then HW0.out HW0.out.size hb)
  have hi1 : ¬ (i : Int) < 0 := by omega
  have hi2 : (i : Int) < (nn : Int) := by have := HAB.out; omega
  clear hb hi
  go_wp2_with fail
  rename_i hcnd K0 hK0
  have HI2 := Lib.hid hi2
  clear e3 hi1 hi2 hcnd
  have HB : Hid (Below w2.heap.size w2 (w2.drewN 1)) := Lib.hid (refl_drewN w2 1)
  go_cut [7, 8] from 28 (fun v7 v8 wr => ∃ g7 g8 : Nat, v7 = .pointer (some ⟨g7, 0, none⟩) ∧ v8 = .pointer (some ⟨g8, 0, none⟩) ∧ Below w2.heap.size w2 wr ∧ Blk wr g7 26 ca ∧ Blk wr g8 26 cb ∧ w2.heap.size ≤ g7 ∧ w2.heap.size ≤ g8)
  case first =>
    refine wp_region_held_drew (S := (fun w' => w'.cell? ⟨xa, 3, none⟩ = some (.slice (some ⟨g, 0, none⟩) 2 2) ∧ w'.rangeAt g 0 ca ∧ w'.rangeAt g 4 cb)) (by kernel_rfl) ?ps0 (fun hHeld => ?_)
    case ps0 => exact HTS.out _ HB.out
    refine held_take (i := 0) (v := ?p1v) rfl (by kernel_rfl) (by kernel_rfl) (by kernel_rfl) (fun _ _ _ h => h) (by rfl) ?p1y hHeld ?_
    case p1y => ((intro w _hSw; (try dsimp only at _hSw); go_simp); try (with_reducible rfl))
    try simp only [Act.put, List.setIfInBounds_toArray, List.set_cons_zero, List.set_cons_succ]
    refine held_take (i := 1) (v := ?p2v) rfl (by kernel_rfl) (by kernel_rfl) (by kernel_rfl) (fun _ _ _ h => h) (by rfl) ?p2y hHeld ?_
    case p2y => ((intro w _hSw; (try dsimp only at _hSw); go_simp); try (with_reducible rfl))
    try simp only [Act.put, List.setIfInBounds_toArray, List.set_cons_zero, List.set_cons_succ]
    refine held_take (i := 2) (v := ?p3v) rfl (by kernel_rfl) (by kernel_rfl) (by kernel_rfl) (fun _ _ _ h => h) (by rfl) ?p3y hHeld ?_
    case p3y => ((intro w _hSw; (try dsimp only at _hSw); go_simp); try (with_reducible rfl))
    try simp only [Act.put, List.setIfInBounds_toArray, List.set_cons_zero, List.set_cons_succ]
    refine held_row (i := 3) rfl (by kernel_rfl) (by kernel_rfl) (by kernel_rfl) _ _ rfl _ _ rfl ?p4C ?p4D (fun _ _ _ h => h) (by rfl) ?p4a ?p4b ?p4c ?p4d hHeld ?_
    case p4a => (intro w hSw; (try dsimp only at hSw); go_split_ands; assumption)
    case p4b => assumption
    case p4c => rfl
    case p4d => first | assumption | (simp only [*]; done)
    try simp only [Act.put, List.setIfInBounds_toArray, List.set_cons_zero, List.set_cons_succ]
    refine held_take (i := 4) (v := ?p5v) rfl (by kernel_rfl) (by kernel_rfl) (by kernel_rfl) (fun _ _ _ h => h) (by rfl) ?p5y hHeld ?_
    case p5y => ((intro w _hSw; (try dsimp only at _hSw); go_simp); try (with_reducible rfl))
    try simp only [Act.put, List.setIfInBounds_toArray, List.set_cons_zero, List.set_cons_succ]
    refine held_take (i := 5) (v := ?p6v) rfl (by kernel_rfl) (by kernel_rfl) (by kernel_rfl) (fun _ _ _ h => h) (by rfl) ?p6y hHeld ?_
    case p6y => ((intro w _hSw; (try dsimp only at _hSw); go_simp); try (with_reducible rfl))
    try simp only [Act.put, List.setIfInBounds_toArray, List.set_cons_zero, List.set_cons_succ]
    refine held_take (i := 6) (v := ?p7v) rfl (by kernel_rfl) (by kernel_rfl) (by kernel_rfl) (fun _ _ _ h => h) (by rfl) ?p7y hHeld ?_
    case p7y => ((intro w _hSw; (try dsimp only at _hSw); go_simp); try (with_reducible rfl))
    try simp only [Act.put, List.setIfInBounds_toArray, List.set_cons_zero, List.set_cons_succ]
    refine held_row (i := 7) rfl (by kernel_rfl) (by kernel_rfl) (by kernel_rfl) _ _ rfl _ _ rfl ?p8C ?p8D (fun _ _ _ h => h) (by rfl) ?p8a ?p8b ?p8c ?p8d hHeld ?_
    case p8a => (intro w hSw; (try dsimp only at hSw); go_split_ands; assumption)
    case p8b => assumption
    case p8c => rfl
    case p8d => first | assumption | (simp only [*]; done)
    try simp only [Act.put, List.setIfInBounds_toArray, List.set_cons_zero, List.set_cons_succ]
    refine held_two (i := 8) (j := 9) rfl rfl (by kernel_rfl) (by rfl) (by rfl) (fun K hK => ?_) (fun K hK => ?_)
    · skip
      go_simp
      try have HNE := Lib.hid (blk_lt2 HL7.out)
      try have HL7 := Lib.hid (HL7.out.alloc (.cells emptyC.toArray 26))
      first | have HL6 := Lib.hid (blk_new_at2 HB.out emptyC 26) | have HL6 := Lib.hid (blk_new_at HB.out emptyC 26)
      first | have HGL6 := Lib.hid (size_at2 HB.out) | have HGL6 := Lib.hid HB.out.size
      have HB := Lib.hid (HB.out.alloc HB.out.size (.cells emptyC.toArray 26))
      have hHeld := HTS.out _ HB.out
      refine hK.out _ _ (HTS.out _ HB.out) ?_
      clear hK K
      (try simp only [Act.put]); (try simp only [List.setIfInBounds_toArray]); (try simp only [List.set_cons_succ]); (try simp only [List.set_cons_zero])
      refine held_step (i := 9) rfl (by kernel_rfl) (by rfl) (fun K hK => ?_)
      go_simp
      try have HNE := Lib.hid (blk_lt2 HL6.out)
      try have HL6 := Lib.hid (HL6.out.alloc (.cells emptyC.toArray 26))
      first | have HL7 := Lib.hid (blk_new_at2 HB.out emptyC 26) | have HL7 := Lib.hid (blk_new_at HB.out emptyC 26)
      first | have HGL7 := Lib.hid (size_at2 HB.out) | have HGL7 := Lib.hid HB.out.size
      have HB := Lib.hid (HB.out.alloc HB.out.size (.cells emptyC.toArray 26))
      have hHeld := HTS.out _ HB.out
      refine hK.out _ _ (HTS.out _ HB.out) ?_
      clear hK K
      (try simp only [Act.put]); (try simp only [List.setIfInBounds_toArray]); (try simp only [List.set_cons_succ]); (try simp only [List.set_cons_zero])
      refine held_step (i := 10) rfl (by kernel_rfl) (by rfl) (fun K hK => ?_)
      refine wp_store_blk 26 (.tmp 7) (.tmp 31) rfl _ ca rfl rfl 26 _ HL6.out (by rw [HT.out.1.len]; kernel_rfl) (by rw [HT.out.1.len]; rfl) HT.out.1.one ?_
      intro wc hz hg
      have HL7 := Lib.hid (HL7.out.grown hg (by first | exact fun e => Nat.ne_of_lt HNE.out (Option.some.inj e) | exact fun e => Nat.ne_of_gt HNE.out (Option.some.inj e)))
      have HL6 := Lib.hid hz
      have HB := Lib.hid (HB.out.grown hg HB.out.size (fun q e => (Option.some.inj e) ▸ HGL6.out))
      clear hz hg
      have hHeld := HTS.out _ HB.out
      refine hK.out _ _ (HTS.out _ HB.out) ?_
      clear hK K
      (try simp only [Act.put]); (try simp only [List.setIfInBounds_toArray]); (try simp only [List.set_cons_succ]); (try simp only [List.set_cons_zero])
      refine held_step (i := 11) rfl (by kernel_rfl) (by rfl) (fun K hK => ?_)
      refine wp_store_blk 26 (.tmp 8) (.tmp 35) rfl _ cb rfl rfl 26 _ HL7.out (by rw [HT.out.2.len]; kernel_rfl) (by rw [HT.out.2.len]; rfl) HT.out.2.one ?_
      intro wc hz hg
      have HL6 := Lib.hid (HL6.out.grown hg (by first | exact fun e => Nat.ne_of_lt HNE.out (Option.some.inj e) | exact fun e => Nat.ne_of_gt HNE.out (Option.some.inj e)))
      have HL7 := Lib.hid hz
      have HB := Lib.hid (HB.out.grown hg HB.out.size (fun q e => (Option.some.inj e) ▸ HGL7.out))
      clear hz hg
      have hHeld := HTS.out _ HB.out
      refine hK.out _ _ (HTS.out _ HB.out) ?_
      clear hK K
      (try simp only [Act.put]); (try simp only [List.setIfInBounds_toArray]); (try simp only [List.set_cons_succ]); (try simp only [List.set_cons_zero])
      refine wpAnyH_done (by kernel_rfl) ?_ _
      go_wp2
      go_meet
      case rel => exact ⟨_, _, rfl, rfl, HB.out, HL6.out, HL7.out, HGL6.out, HGL7.out⟩
    · skip
      go_simp
      try have HNE := Lib.hid (blk_lt2 HL6.out)
      try have HL6 := Lib.hid (HL6.out.alloc (.cells emptyC.toArray 26))
      first | have HL7 := Lib.hid (blk_new_at2 HB.out emptyC 26) | have HL7 := Lib.hid (blk_new_at HB.out emptyC 26)
      first | have HGL7 := Lib.hid (size_at2 HB.out) | have HGL7 := Lib.hid HB.out.size
      have HB := Lib.hid (HB.out.alloc HB.out.size (.cells emptyC.toArray 26))
      have hHeld := HTS.out _ HB.out
      refine hK.out _ _ (HTS.out _ HB.out) ?_
      clear hK K
      (try simp only [Act.put]); (try simp only [List.setIfInBounds_toArray]); (try simp only [List.set_cons_succ]); (try simp only [List.set_cons_zero])
      refine held_step (i := 8) rfl (by kernel_rfl) (by rfl) (fun K hK => ?_)
      go_simp
      try have HNE := Lib.hid (blk_lt2 HL7.out)
      try have HL7 := Lib.hid (HL7.out.alloc (.cells emptyC.toArray 26))
      first | have HL6 := Lib.hid (blk_new_at2 HB.out emptyC 26) | have HL6 := Lib.hid (blk_new_at HB.out emptyC 26)
      first | have HGL6 := Lib.hid (size_at2 HB.out) | have HGL6 := Lib.hid HB.out.size
      have HB := Lib.hid (HB.out.alloc HB.out.size (.cells emptyC.toArray 26))
      have hHeld := HTS.out _ HB.out
      refine hK.out _ _ (HTS.out _ HB.out) ?_
      clear hK K
      (try simp only [Act.put]); (try simp only [List.setIfInBounds_toArray]); (try simp only [List.set_cons_succ]); (try simp only [List.set_cons_zero])
      refine held_step (i := 10) rfl (by kernel_rfl) (by rfl) (fun K hK => ?_)
      refine wp_store_blk 26 (.tmp 7) (.tmp 31) rfl _ ca rfl rfl 26 _ HL6.out (by rw [HT.out.1.len]; kernel_rfl) (by rw [HT.out.1.len]; rfl) HT.out.1.one ?_
      intro wc hz hg
      have HL7 := Lib.hid (HL7.out.grown hg (by first | exact fun e => Nat.ne_of_lt HNE.out (Option.some.inj e) | exact fun e => Nat.ne_of_gt HNE.out (Option.some.inj e)))
      have HL6 := Lib.hid hz
      have HB := Lib.hid (HB.out.grown hg HB.out.size (fun q e => (Option.some.inj e) ▸ HGL6.out))
      clear hz hg
      have hHeld := HTS.out _ HB.out
      refine hK.out _ _ (HTS.out _ HB.out) ?_
      clear hK K
      (try simp only [Act.put]); (try simp only [List.setIfInBounds_toArray]); (try simp only [List.set_cons_succ]); (try simp only [List.set_cons_zero])
      refine held_step (i := 11) rfl (by kernel_rfl) (by rfl) (fun K hK => ?_)
      refine wp_store_blk 26 (.tmp 8) (.tmp 35) rfl _ cb rfl rfl 26 _ HL7.out (by rw [HT.out.2.len]; kernel_rfl) (by rw [HT.out.2.len]; rfl) HT.out.2.one ?_
      intro wc hz hg
      have HL6 := Lib.hid (HL6.out.grown hg (by first | exact fun e => Nat.ne_of_lt HNE.out (Option.some.inj e) | exact fun e => Nat.ne_of_gt HNE.out (Option.some.inj e)))
      have HL7 := Lib.hid hz
      have HB := Lib.hid (HB.out.grown hg HB.out.size (fun q e => (Option.some.inj e) ▸ HGL7.out))
      clear hz hg
      have hHeld := HTS.out _ HB.out
      refine hK.out _ _ (HTS.out _ HB.out) ?_
      clear hK K
      (try simp only [Act.put]); (try simp only [List.setIfInBounds_toArray]); (try simp only [List.set_cons_succ]); (try simp only [List.set_cons_zero])
      refine wpAnyH_done (by kernel_rfl) ?_ _
      go_wp2
      go_meet
      case rel => exact ⟨_, _, rfl, rfl, HB.out, HL6.out, HL7.out, HGL6.out, HGL7.out⟩
  case rest =>
    obtain ⟨g7, g8, rfl, rfl, hb, h7, h8, _, _⟩ := hcut
    have HG7 := Lib.hid h7
    have HG8 := Lib.hid h8
    have HTa := Lib.hid (HT.out.1.below hb)
    have HTb := Lib.hid (HT.out.2.below hb)
    have HW0 := Lib.hid (below_then HW0.out HW0.out.size hb)
    have HLD7 := Lib.hid (ld_tree h7 HLEN.out.1)
    clear h7 h8 hb
    go_wp2_with (refine wpList_load rfl (.tmp 7) rfl ⟨g7, 0, none⟩ (.agg ca.toArray) rfl HLD7.out ?_)
    refine (rlen_to a ca wc HTa.out an HN.out.1 (by have := HM.out.1; omega)).mono ?_
    rintro e w3 ⟨_, _, rfl, hb⟩
    have HB := Lib.hid hb
    have HLD7 := Lib.hid (ld_tree (HG7.out.below hb) HLEN.out.1)
    have HLD8 := Lib.hid (ld_tree (HG8.out.below hb) HLEN.out.2)
    clear hb
    by_cases hia : i < an
    · have hi3 : (i : Int) < (an : Int) := by omega
      have HI := Lib.hid (show i < a.many by rw [HN.out.1]; exact hia)
      have HEnd := Lib.hid (show (Av.node a b).path i = a.path i ++ [⟨false, b.many, b.sum⟩] by rw [Av.path, if_pos HI.out])
      have HS := Lib.hid (stepC_len (s := ⟨false, b.many, b.sum⟩) b.sum_length)
      obtain ⟨st, hst⟩ : ∃ st, st = stepC ⟨false, b.many, b.sum⟩ := ⟨_, rfl⟩
      have HST := Lib.hid (And.intro hst (And.intro (show st.length = 34 by rw [hst]; exact HS.out) (show ∀ u ∈ st, u.oneCell' = true by rw [hst]; exact stepC_one _)))
      have HML := Lib.hid (show (a.path i).length + 1 ≤ maxLen ∧ ((a.path i).length + 1) * 48 ≤ 140737488355328 by
        have h1 := path_len_le a i
        have h2 := HM.out.1
        unfold maxLen; omega)
      clear hst
      go_wp2_with (refine wpList_load rfl (.tmp 7) rfl ⟨g7, 0, none⟩ (.agg ca.toArray) rfl HLD7.out ?_)
      refine (IHa.out i ca _ (HTa.out.below HB.out) HI.out (by have := HM.out.1; omega) HM.out.2.1).mono ?_
      rintro e wd ⟨v, rfl, ho, hb⟩
      have HO := Lib.hid (own_mono ho (Nat.le_trans HW0.out.size HB.out.size))
      have HB := Lib.hid (below_then HB.out HB.out.size hb)
      clear ho hb
      have HLDX := Lib.hid (ld_tree (HG8.out.below HB.out) HLEN.out.2)
      go_wp2_with (refine wpList_load rfl (.tmp 8) rfl ⟨g8, 0, none⟩ (.agg cb.toArray) rfl HLDX.out ?_)
      refine (rroot_tree b cb _ (HTb.out.below HB.out) (by have := HM.out.1; omega) HM.out.2.2).mono ?_
      rintro e we ⟨cv, rfl, hcv, hcl, hb⟩
      have HO := Lib.hid (own_below HO.out hb)
      have HB := Lib.hid (below_then HB.out HB.out.size hb)
      have HBU := Lib.hid (show Tryd.prog.built 82 [(0, .bool false), (1, .int .i64 (bn : Nat)), (2, .agg cv.toArray)] = some st.toArray by rw [built_stepR false bn cv hcl, HST.out.1, hcv]; unfold stepC; rw [← HN.out.2.1])
      clear hcv hcl hb
      rw [show ((nn : Int) - (an : Int)) = ((bn : Nat) : Int) by have := HAB.out; omega]
      go_wp2_with (first
        | (refine wpList_exec rfl _ (exec_built 82 _ rfl _ _ HBU.out (by rfl)) ?_)
        | (refine wpList_row1 rfl tSr (.tmp 54) rfl st rfl HST.out.2.1 (by decide) ?_
           have HR := Lib.hid (blk_new_at HB.out st 82)
           have HO := Lib.hid (own_below HO.out ((Below.refl _ _).alloc (Nat.le_refl _) (.cells st.toArray 82)))
           have HB := Lib.hid (HB.out.alloc HB.out.size (.cells st.toArray 82)))
        | (at_builtin; refine wpList_app tSr rfl (.tmp 48) (.tmp 55) rfl _ _ _ (stepsC (a.path i)) rfl HO.out _ 1 1 st rfl HR.out.rd0 HST.out.2.1 HST.out.2.2 HML.out.1 HML.out.2 (Nat.le_trans HW0.out.size HB.out.size) ?_
           intro v6 wf ho6 hx6
           have HF := Lib.hid (And.intro ho6 ((below_then HW0.out HW0.out.size HB.out).grown hx6.grown (below_then HW0.out HW0.out.size HB.out).size (fun q e => (HO.out.lt q e).1)))
           clear ho6 hx6))
      go_ret2
      refine ⟨_, rfl, ?_, HF.out.2⟩
      rw [HEnd.out, List.length_append, stepsC_append, show stepsC [⟨false, b.many, b.sum⟩] = stepC ⟨false, b.many, b.sum⟩ by simp [stepsC], ← HST.out.1]
      exact HF.out.1
    · have hi3 : ¬ (i : Int) < (an : Int) := by omega
      have hi4 : i < nn := by have := HI2.out; omega
      have HI := Lib.hid (show i - an < b.many by rw [HN.out.2.1]; have := HAB.out; omega)
      have HEnd := Lib.hid (show (Av.node a b).path i = b.path (i - an) ++ [⟨true, a.many, a.sum⟩] by rw [Av.path, if_neg (by rw [HN.out.1]; exact hia), HN.out.1])
      have HS := Lib.hid (stepC_len (s := ⟨true, a.many, a.sum⟩) a.sum_length)
      obtain ⟨st, hst⟩ : ∃ st, st = stepC ⟨true, a.many, a.sum⟩ := ⟨_, rfl⟩
      have HST := Lib.hid (And.intro hst (And.intro (show st.length = 34 by rw [hst]; exact HS.out) (show ∀ u ∈ st, u.oneCell' = true by rw [hst]; exact stepC_one _)))
      have HML := Lib.hid (show (b.path (i - an)).length + 1 ≤ maxLen ∧ ((b.path (i - an)).length + 1) * 48 ≤ 140737488355328 by
        have h1 := path_len_le b (i - an)
        have h2 := HM.out.1
        unfold maxLen; omega)
      clear hst
      go_wp2_with (refine wpList_load rfl (.tmp 8) rfl ⟨g8, 0, none⟩ (.agg cb.toArray) rfl HLD8.out ?_)
      rw [show ((i : Int) - (an : Int)) = ((i - an : Nat) : Int) by omega]
      refine (IHb.out (i - an) cb _ (HTb.out.below HB.out) HI.out (by have := HM.out.1; omega) HM.out.2.2).mono ?_
      rintro e wd ⟨v, rfl, ho, hb⟩
      have HO := Lib.hid (own_mono ho (Nat.le_trans HW0.out.size HB.out.size))
      have HB := Lib.hid (below_then HB.out HB.out.size hb)
      clear ho hb
      have HLDX := Lib.hid (ld_tree (HG7.out.below HB.out) HLEN.out.1)
      go_wp2_with (refine wpList_load rfl (.tmp 7) rfl ⟨g7, 0, none⟩ (.agg ca.toArray) rfl HLDX.out ?_)
      refine (rroot_tree a ca _ (HTa.out.below HB.out) (by have := HM.out.1; omega) HM.out.2.1).mono ?_
      rintro e we ⟨cv, rfl, hcv, hcl, hb⟩
      have HO := Lib.hid (own_below HO.out hb)
      have HB := Lib.hid (below_then HB.out HB.out.size hb)
      have HBU := Lib.hid (show Tryd.prog.built 82 [(0, .bool true), (1, .int .i64 (an : Nat)), (2, .agg cv.toArray)] = some st.toArray by rw [built_stepR true an cv hcl, HST.out.1, hcv]; unfold stepC; rw [← HN.out.1])
      clear hcv hcl hb
      go_wp2_with (first
        | (refine wpList_exec rfl _ (exec_built 82 _ rfl _ _ HBU.out (by rfl)) ?_)
        | (refine wpList_row1 rfl tSr (.tmp 69) rfl st rfl HST.out.2.1 (by decide) ?_
           have HR := Lib.hid (blk_new_at HB.out st 82)
           have HO := Lib.hid (own_below HO.out ((Below.refl _ _).alloc (Nat.le_refl _) (.cells st.toArray 82)))
           have HB := Lib.hid (HB.out.alloc HB.out.size (.cells st.toArray 82)))
        | (at_builtin; refine wpList_app tSr rfl (.tmp 65) (.tmp 70) rfl _ _ _ (stepsC (b.path (i - an))) rfl HO.out _ 1 1 st rfl HR.out.rd0 HST.out.2.1 HST.out.2.2 HML.out.1 HML.out.2 (Nat.le_trans HW0.out.size HB.out.size) ?_
           intro v6 wf ho6 hx6
           have HF := Lib.hid (And.intro ho6 ((below_then HW0.out HW0.out.size HB.out).grown hx6.grown (below_then HW0.out HW0.out.size HB.out).size (fun q e => (HO.out.lt q e).1)))
           clear ho6 hx6))
      go_ret2
      refine ⟨_, rfl, ?_, HF.out.2⟩
      rw [HEnd.out, List.length_append, stepsC_append, show stepsC [⟨true, a.many, a.sum⟩] = stepC ⟨true, a.many, a.sum⟩ by simp [stepsC], ← HST.out.1]
      exact HF.out.1
theorem rpath_tree : ∀ t : Av, RPath t
  | .leaf k v => rpath_leaf k v
  | .node a b => rpath_node a b (Lib.hid (rpath_tree a)) (Lib.hid (rpath_tree b))
end Go.Proofs.YtdekealpachhmaaDoor
