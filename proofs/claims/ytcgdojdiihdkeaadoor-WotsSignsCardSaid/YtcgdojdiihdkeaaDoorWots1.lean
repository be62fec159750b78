/- Layer 5: number, Step by their contracts. -/
import Derived.Test.YtcgdojdiihdkeaaDoorWotsR
import Derived.Test.YtcgdojdiihdkeaaDoorWotsP
import Derived.Test.YtcgdojdiihdkeaaDoorTree
import Derived.Test.YtcgdojdiihdkeaaDoorPackA
namespace Go.Proofs.YtcgdojdiihdkeaaDoor
open Go Go.RowKit Go.Isth

def NumInv (w : World) (g n : Nat) (xs : List UInt8) (sl x : Value) (wr : World) : Prop :=
  ∃ (m : Nat) (pre : List UInt8), x = .int .u64 m ∧ m ≤ n ∧ varint n = pre ++ varint m ∧ sl = roomV g (xs.length + pre.length) ∧ RoomIs wr g (xs ++ pre) ∧ w.grownBy wr (some g)
set_option maxRecDepth 100000 in
set_option maxHeartbeats 1000000 in
theorem number_any (z : Int) (n g : Nat) (xs : List UInt8) (w : World) (hz : IntKind.u64.wrap z = (n : Int)) (hn : n < 18446744073709551616) (hx : xs.length + (varint n).length ≤ 64) (hR : RoomIs w g xs) :
    Calls Tryd.prog 61 #[roomV g xs.length, .int .i64 z] w fun e w' => e = .returned (roomV g (xs.length + (varint n).length)) ∧ RoomIs w' g (xs ++ varint n) ∧ w.grownBy w' (some g) := by
  have HT := Lib.hid (And.intro hn (And.intro hx hR))
  clear hn hx hR
  go_enter Tryd.func61, Tryd.ntmps61
  go_wp2_with fail
  go_loopw [0, 5] (fun sl x wr => NumInv w g n xs sl x wr) (fun _ x _ => (intOf x).toNat)
  case atStart => exact ⟨n, [], rfl, Nat.le_refl _, rfl, rfl, by simpa using HT.out.2.2, World.grownBy.refl _ _⟩
  case round =>
    obtain ⟨m, pre, rfl, hmn, hv, rfl, hR1, hg1⟩ := hrel
    have hl := congrArg List.length hv
    rw [List.length_append] at hl
    have hvp := varint_pos m
    have hm64 : m < 18446744073709551616 := Nat.lt_of_le_of_lt hmn HT.out.1
    have HL := Lib.hid (show (xs ++ pre).length + 1 ≤ 64 by have := HT.out.2.1; rw [List.length_append]; omega)
    by_cases hlt : m < 128
    · rw [varint_small hlt] at hv
      have hB := B_ofNat (n := m) (by omega)
      have HV := Lib.hid hv
      have HB := Lib.hid hB
      have HS := Lib.hid (And.intro hR1 hg1)
      clear hv hB hR1 hg1 hl hvp hmn hm64
      go_wp2_with (at_builtin; go_loud (refine wpList_in64 tBs rfl _ _ rfl g (xs ++ pre) (xs.length + pre.length) (by simp) rfl (HS.out.1.alloc _) (some ⟨wr.heap.size, 0, none⟩) 1 1 [UInt8.ofNat m] rfl rfl (by show Rd _ _ [B (UInt8.ofNat m)]; rw [HB.out]; exact Rd_alloc _ _ _) Nat.zero_lt_one HL.out ?_))
      intro w2 hR2 hg2
      have H2 := Lib.hid (And.intro hR2 hg2)
      clear hR2 hg2
      go_wp2
      go_ret
      refine ⟨?_, ?_, grown_trans HS.out.2 (grown_trans (grown_of_below ((Below.refl _ _).alloc (Nat.le_refl _) _) _) H2.out.2 (.inl rfl)) (.inl rfl)⟩
      · rw [HV.out, List.length_append, Nat.add_assoc]; rfl
      · rw [HV.out]; exact H2.out.1
    · rw [varint_great hlt] at hv
      have hB := low_B m
      have hsh : (m : Int) / 128 = ((m / 128 : Nat) : Int) := by simp
      have HV := Lib.hid hv
      have HS := Lib.hid (And.intro hR1 (And.intro hg1 hmn))
      have HSH := Lib.hid hsh
      clear hv hsh hR1 hg1 hl hvp hmn
      generalize UInt8.ofNat (m % 128 + 128) = y at *
      have hor : bits .or .u8 ((m : Int) % 256) 128 = ((y.toNat : Nat) : Int) := by injection hB with _ h; exact h.symm
      clear hB
      go_wp2_with (at_builtin; go_loud (refine wpList_in64 tBs rfl _ _ rfl g (xs ++ pre) (xs.length + pre.length) (by simp) rfl (HS.out.1.alloc _) (some ⟨wr.heap.size, 0, none⟩) 1 1 [y] rfl rfl (Rd_alloc _ _ _) Nat.zero_lt_one HL.out ?_))
      intro w2 hR2 hg2
      have H2 := Lib.hid (And.intro hR2 hg2)
      clear hR2 hg2
      go_wp2
      go_roundw
      case rel => 
        refine ⟨m / 128, pre ++ [y], by simp, by have := HS.out.2.2; omega, by rw [HV.out]; simp, by simp [Nat.add_assoc], ?_, grown_trans HS.out.2.1 (grown_trans (grown_of_below ((Below.refl _ _).alloc (Nat.le_refl _) _) _) H2.out.2 (.inl rfl)) (.inl rfl)⟩
        exact H2.out.1
      case measure => simp [intOf]; omega
#print axioms number_any
theorem number_to (z : Int) (n g m : Nat) (xs : List UInt8) (w : World) (hm : m = xs.length) (hz : IntKind.u64.wrap z = (n : Int)) (hn : n < 18446744073709551616) (hx : m + (varint n).length ≤ 64) (hR : RoomIs w g xs) :
    Calls Tryd.prog 61 #[roomV g m, .int .i64 z] w fun e w' => e = .returned (roomV g (m + (varint n).length)) ∧ RoomIs w' g (xs ++ varint n) ∧ w.grownBy w' (some g) := by
  subst hm
  exact number_any z n g xs w hz hn hx hR
def StepInv (w : World) (lf ch f m : Nat) (v : List UInt8) (pb g : Nat) (x : Value) (wr : World) : Prop :=
  ∃ k : Nat, x = .int .i64 ((f + k : Nat) : Int) ∧ k ≤ m ∧ Blk wr pb 28 ((stepsN lf ch f k v).map B) ∧ Blk wr (pb + 1) 28 (List.replicate 32 (B 0)) ∧ RoomIs wr g [] ∧ Below w.heap.size w wr
set_option maxRecDepth 100000 in
set_option maxHeartbeats 2000000 in
theorem step_any (v : List UInt8) (leaf chain frm till : Int) (lf ch : Nat) (w : World) (hv : v.length = 32) (hl : IntKind.u64.wrap leaf = (lf : Int)) (hlf : lf < 18446744073709551616) (hc : IntKind.u64.wrap chain = (ch : Int)) (hcf : ch < 18446744073709551616) (ht : TabLaid w) :
    Calls Tryd.prog 26 #[HV v, .int .i64 leaf, .int .i64 chain, .int .i64 frm, .int .i64 till] w fun e w' => e = .returned (HV (stepF lf ch frm.toNat till.toNat v)) ∧ Below w.heap.size w w' := by
  have HT := Lib.hid (And.intro hv (And.intro hl (And.intro hlf (And.intro hc (And.intro hcf ht)))))
  clear hv hl hlf hc hcf ht
  have hff : ∃ f : Nat, frm.toNat = f ∧ ((frm < 0 ∧ f = 0) ∨ frm = (f : Int)) := ⟨frm.toNat, rfl, by omega⟩
  obtain ⟨f, hf, hff⟩ := hff
  rw [hf]
  clear hf
  unfold stepF
  obtain ⟨m, hm⟩ : ∃ m, min till.toNat 15 - f = m := ⟨_, rfl⟩
  rw [hm]
  have HM := Lib.hid hm
  clear hm
  have hst : ∃ s : Int, s = (f : Int) ∧ ((frm < 0 ∧ s = 0) ∨ (¬ frm < 0 ∧ frm = s)) := ⟨f, rfl, by omega⟩
  obtain ⟨s, hs, hst⟩ := hst
  have HF := Lib.hid hs
  clear hs hff
  rcases hst with ⟨hf0, rfl⟩ | ⟨hf0, rfl⟩
  all_goals
    go_enter Tryd.func26, Tryd.ntmps26
    go_wp2_with fail
    have hz1 := ((Blk_new w (v.map B) 28).alloc (.cells (List.replicate 32 (B 0)).toArray 28)).alloc (.cells (List.replicate 64 (B 0)).toArray 93)
    have hz2 := (Blk_new (w.alloc (.cells (v.map B).toArray 28)) (List.replicate 32 (B 0)) 28).alloc (.cells (List.replicate 64 (B 0)).toArray 93)
    have hz3 := Blk_new ((w.alloc (.cells (v.map B).toArray 28)).alloc (.cells (List.replicate 32 (B 0)).toArray 28)) (List.replicate 64 (B 0)) 93
    have hb3 := (((Below.refl w.heap.size w).alloc (Nat.le_refl _) (.cells (v.map B).toArray 28)).alloc (by simp) (.cells (List.replicate 32 (B 0)).toArray 28)).alloc (by simp; omega) (.cells (List.replicate 64 (B 0)).toArray 93)
    change Code.wp _ _ _ _ (((w.alloc (.cells (v.map B).toArray 28)).alloc (.cells (List.replicate 32 (B 0)).toArray 28)).alloc (.cells (List.replicate 64 (B 0)).toArray 93))
    simp only [World.size_alloc] at hz2 hz3
    generalize (((w.alloc (.cells (v.map B).toArray 28)).alloc (.cells (List.replicate 32 (B 0)).toArray 28)).alloc (.cells (List.replicate 64 (B 0)).toArray 93)) = w3 at *
    have H3 := Lib.hid (And.intro hz1 (And.intro hz2 (And.intro (RoomIs.of_blk hz3 (by simp)) hb3)))
    clear hz1 hz2 hz3 hb3
    go_loopw [12] (fun x wr => StepInv w lf ch f m v w.heap.size (w.heap.size + 1 + 1) x wr) (fun x _ => (15 - intOf x).toNat)
    case atStart => exact ⟨0, by have := HF.out; congr 1; omega, Nat.zero_le _, H3.out.1, H3.out.2.1, H3.out.2.2.1, H3.out.2.2.2⟩
    case round =>
      obtain ⟨k, rfl, hkm, hv, hz, hR, hB⟩ := hrel
      have HS := Lib.hid (And.intro hkm (And.intro hv (And.intro hz (And.intro hR hB))))
      clear hkm hv hz hR hB
      by_cases hlt : k < m
      · have hk12 : ((f + k : Nat) : Int) < till ∧ ((f + k : Nat) : Int) < 15 ∧ f + k < 15 := by have := HM.out; omega
        obtain ⟨hk1, hk2, hk3⟩ := hk12
        have HK := Lib.hid hk3
        have HP := Lib.hid (show IntKind.u64.wrap ((f : Int) + (k : Int)) = ((f + k : Nat) : Int) by have h := u64_nat (n := f + k) (by omega); rwa [Int.natCast_add] at h ⊢)
        have HL := Lib.hid (show (varint lf).length ≤ 10 ∧ (varint ch).length ≤ 10 ∧ (varint (f + k)).length = 1 from ⟨varint_len10 _ HT.out.2.2.1, varint_len10 _ HT.out.2.2.2.2.1, by rw [varint_small (by omega)]; rfl⟩)
        have HV := Lib.hid (stepsN_length lf ch f k v HT.out.1)
        clear hk3
        have hne := (HS.out.2.1).lt
        by_cases h15 : 15 < till
        all_goals
          go_wp2_with (at_builtin; refine wpList_in64 tBs rfl _ _ rfl (w.heap.size + 1 + 1) [] 0 rfl rfl (HS.out.2.2.2.1.alloc _) (some ⟨wr.heap.size, 0, none⟩) 1 1 [3] rfl rfl (Rd_alloc _ _ _) Nat.zero_lt_one (by decide) ?_)
          intro w4 hR4 hg4
          have hg4' : wr.grownBy w4 (some (w.heap.size + 1 + 1)) := grown_trans (grown_of_below ((Below.refl _ _).alloc (Nat.le_refl _) _) _) hg4 (.inl rfl)
          have H4 := Lib.hid (And.intro hR4 hg4')
          clear hR4 hg4 hg4'
          go_wp2_with fail
          refine (number_to leaf lf (w.heap.size + 1 + 1) 1 [3] w4 rfl HT.out.2.1 HT.out.2.2.1 (by have := HL.out; omega) H4.out.1).mono ?_
          rintro e w5 ⟨rfl, hR5, hg5⟩
          have H5 := Lib.hid (And.intro hR5 (grown_trans H4.out.2 hg5 (.inl rfl)))
          clear hR5 hg5
          go_wp2_with fail
          refine (number_to chain ch (w.heap.size + 1 + 1) (1 + (varint lf).length) ([3] ++ varint lf) w5 (by simp; omega) HT.out.2.2.2.1 HT.out.2.2.2.2.1 (by have := HL.out; omega) H5.out.1).mono ?_
          rintro e w6 ⟨rfl, hR6, hg6⟩
          have H6 := Lib.hid (And.intro hR6 (grown_trans H5.out.2 hg6 (.inl rfl)))
          clear hR6 hg6
          go_wp2_with fail
          refine (number_to _ (f + k) (w.heap.size + 1 + 1) (1 + (varint lf).length + (varint ch).length) ([3] ++ varint lf ++ varint ch) w6 (by simp; omega) HP.out (by have := HK.out; omega) (by have := HL.out; omega) H6.out.1).mono ?_
          rintro e w7 ⟨rfl, hR7, hg7⟩
          have hg7' := grown_trans H6.out.2 hg7 (.inl rfl)
          have hz7 := HS.out.2.1.grown hg7' (by simp; omega)
          have H7 := Lib.hid (And.intro hR7 (And.intro hg7' hz7))
          clear hR7 hg7 hg7' hz7
          generalize hst : stepsN lf ch f k v = sv at *
          have HST := Lib.hid hst
          clear hst
          go_wp2_with (at_builtin; go_loud (refine wpList_in64 tBs rfl _ _ rfl (w.heap.size + 1 + 1) ([3] ++ varint lf ++ varint ch ++ varint (f + k)) _ (by simp; omega) rfl H7.out.1 (some ⟨w.heap.size, 0, none⟩) 32 32 sv HV.out.symm rfl H7.out.2.2.rd0 (by rw [HV.out]; omega) (by have := HL.out; have := HV.out; simp; omega) ?_))
          intro w8 hR8 hg8
          have hg8' := grown_trans H7.out.2.1 hg8 (.inl rfl)
          have hb8 : Below w.heap.size w w8 := HS.out.2.2.2.2.grown hg8' HS.out.2.2.2.2.size (fun r e => by injection e with e; omega)
          have hz8 := HS.out.2.1.grown hg8' (by simp; omega)
          have hy8 := HS.out.2.2.1.grown hg8' (by simp)
          have H8 := Lib.hid (And.intro hR8 (And.intro hb8 (And.intro hz8 hy8)))
          have hlen := hR8.lt
          clear hR8 hg8 hg8' hz8 hy8 hb8
          go_wp2_with fail
          refine (sum_to (some ⟨w.heap.size + 1 + 1, 0, none⟩) 64 (1 + (varint lf).length + (varint ch).length + (varint (f + k)).length + 32) (3 :: (varint lf ++ (varint ch ++ (varint (f + k) ++ sv)))) w8 w (by have := HV.out; simp; omega) H8.out.2.1 (by have := HL.out; omega) (by have := HL.out; omega) (by have h := H8.out.1.Rd; simpa using h) HT.out.2.2.2.2.2).mono ?_
          rintro e w9 ⟨rfl, hb9⟩
          have hz9 := H8.out.2.2.1.below hb9
          have H9 := Lib.hid (And.intro (below_then H8.out.2.1 H8.out.2.1.size hb9) (And.intro (H8.out.2.2.2.below hb9) ((H8.out.1.below hb9).empty)))
          clear hb9
          have HLL := Lib.hid (show (some 32 : Option Nat) = some ((sumF (3 :: (varint lf ++ (varint ch ++ (varint (f + k) ++ sv))))).map B).length by rw [List.length_map, sumF_length])
          go_wp2_with (refine wpList_store_blk rfl 28 (.tmp 5) (.tmp 34) rfl w.heap.size ((sumF (3 :: (varint lf ++ (varint ch ++ (varint (f + k) ++ sv))))).map B) rfl rfl 28 _ hz9 (Eq.trans (by kernel_rfl) HLL.out) (by rw [List.length_map, List.length_map, sumF_length]; exact HV.out) one_bytes ?_; intro w10 hw10 hg10)
          have H10 := Lib.hid (And.intro hw10 (And.intro (H9.out.1.grown hg10 H9.out.1.size (fun r e => by injection e with e; omega)) (And.intro (H9.out.2.1.grown hg10 (by simp)) (H9.out.2.2.grown hg10 (by simp; omega)))))
          clear hw10 hg10 hz9
          have hi1 : (f : Int) + (k : Int) + 1 = ((f + (k + 1) : Nat) : Int) := by omega
          go_wp2_with fail
          go_roundw
          case rel =>
            refine ⟨k + 1, by simp; try omega, by omega, ?_, H10.out.2.2.1, H10.out.2.2.2, H10.out.2.1⟩
            show Blk _ _ _ ((stepOne lf ch (f + k) (stepsN lf ch f k v)).map B)
            rw [HST.out]
            exact H10.out.1
          case measure => simp [intOf]; omega
      · have hk1 : ¬ ((f + k : Nat) : Int) < till ∨ ¬ ((f + k : Nat) : Int) < 15 := by have := HM.out; have := HS.out.1; omega
        obtain rfl : k = m := by have := HS.out.1; omega
        have HV := Lib.hid (stepsN_length lf ch f k v HT.out.1)
        by_cases h15 : 15 < till
        all_goals
          generalize hst : stepsN lf ch f k v = sv at *
          have HST := Lib.hid hst
          clear hst
          have HLL := Lib.hid (show (some 32 : Option Nat) = some (sv.map B).length by rw [List.length_map, HV.out])
          have hz := HS.out.2.1
          go_wp2_with (first
            | refine wpList_load_blk rfl 28 (.tmp 5) rfl w.heap.size rfl 28 (sv.map B) _ hz Tryd.underlying28 rfl (Eq.trans (by kernel_rfl) HLL.out) ?_
            | (refine wpList_store_blk rfl 28 (.tmp 10) (.tmp 35) rfl (w.heap.size + 1) (sv.map B) rfl rfl 28 _ HS.out.2.2.1 (Eq.trans (by kernel_rfl) HLL.out) (by rw [List.length_map, HV.out, List.length_replicate]) one_bytes ?_; intro w10 hw10 hg10))
          refine bodyPost_ret (results_blk rfl _ _ (w.heap.size + 1) 28 (sv.map B) _ rfl hw10 Tryd.underlying28 rfl (Eq.trans (by kernel_rfl) HLL.out)) rfl ⟨by rw [HST.out], ?_⟩
          exact HS.out.2.2.2.2.grown hg10 HS.out.2.2.2.2.size (fun r e => by injection e with e; omega)
#print axioms step_any
end Go.Proofs.YtcgdojdiihdkeaaDoor
