/- Layer 1's reference: Sum by its contract. -/
import Derived.Test.YtcgdojdiihdkeaaDoorRefA
namespace Go.Proofs.YtcgdojdiihdkeaaDoor
open Go Go.RowKit Go.Isth

def PadInv1 (w1 : World) (bs : List UInt8) (v5 : Value) (wr : World) : Prop :=
  ∃ z n : Nat, z ≤ zerosN (bs.length % 64) ∧ n = bs.length + 1 + z ∧ wr.ownsRow w1.heap.size 5 1 v5 n ((bs ++ (128 :: List.replicate z 0)).map B) ∧ Below w1.heap.size w1 wr
def PadInv2 (w1 : World) (ms : List UInt8) (N : Nat) (v5 v7 : Value) (wr : World) : Prop :=
  ∃ k n : Nat, k ≤ 8 ∧ n = ms.length + k ∧ v7 = .int .i64 (7 - (k : Int)) ∧ wr.ownsRow w1.heap.size 5 1 v5 n ((ms ++ (be64 N).take k).map B) ∧ Below w1.heap.size w1 wr
theorem be64_at (n j k : Nat) (hj : j < 8) (hk : k = 7 - j) (hn : n * 8 < 18446744073709551616) : ∃ x : UInt8, (be64 (n * 8))[k]? = some x ∧ (n : Int) * 8 / 2 ^ (8 * j) % 256 = (x.toNat : Int) := by
  refine ⟨(be64 (n * 8 % 18446744073709551616))[7 - j]'(by rw [be64_length]; omega), ?_, ?_⟩
  · subst hk
    rw [List.getElem?_eq_getElem (by rw [be64_length]; omega)]
    simp only [Nat.mod_eq_of_lt hn]
  · have h := be64_val n j hj
    rw [show IntKind.u64.wrap ((n : Int) * 8) = (n : Int) * 8 by simp only [IntKind.wrap, IntKind.bits, IntKind.signed, Bool.false_and, Bool.false_eq_true, if_false]; omega] at h
    rw [← h]
    simp only [IntKind.wrap, IntKind.bits, IntKind.signed, Bool.false_and, Bool.false_eq_true, if_false]
    rfl
abbrev IJ (n : Nat) : Value := .int .i64 (n : Int)
/-- What stands at a block's begin. -/
structure RefS (w : World) (gk : Nat) (csk : List Value) (s : R8) (A : Option Addr) (ps : List UInt8) (wr : World) : Prop where
  kb : Blk wr gk 100 csk
  hb : Blk wr (gk + 1) 81 (s.list.map U)
  rb : Blk wr w.heap.size 28 (List.replicate 32 (B 0))
  rd : Rd wr A (ps.map B)
  bl : Below w.heap.size w wr
theorem RefS.below {w : World} {gk : Nat} {csk : List Value} {s : R8} {A : Option Addr} {ps : List UInt8} {wr wr' : World} (h : RefS w gk csk s A ps wr) (hb : Below wr.heap.size wr wr') : RefS w gk csk s A ps wr' :=
  ⟨h.kb.below hb, h.hb.below hb, h.rb.below hb, h.rd.below hb, below_then h.bl h.bl.size hb⟩
theorem RefS.grown {w : World} {gk : Nat} {csk : List Value} {s t : R8} {A : Option Addr} {ps : List UInt8} {wr wr' : World} (h : RefS w gk csk s A ps wr) (hg : wr.grownBy wr' (some (gk + 1))) (hb' : Blk wr' (gk + 1) 81 (t.list.map U)) (hne : ∀ ad, A = some ad → ad.block ≠ gk + 1) (hgk : w.heap.size < gk) : RefS w gk csk t A ps wr' :=
  ⟨h.kb.grown hg (by simp), hb', h.rb.grown hg (by simp; omega), h.rd.grown hg (fun ad e e' => hne ad e (by injection e' with e'; exact e'.symm)), h.bl.grown hg h.bl.size (fun k e => by injection e with e; omega)⟩
def AddInv (wv : World) (gk : Nat) (s t : R8) (v20 : Value) (wx : World) : Prop :=
  ∃ k : Nat, k ≤ 8 ∧ v20 = IJ k ∧ Blk wx (gk + 1) 81 ((cur8 s t k).map U) ∧ wv.grownBy wx (some (gk + 1))
def OutInv (wv : World) (o : List UInt8) (v22 : Value) (wx : World) : Prop :=
  ∃ k : Nat, k ≤ 32 ∧ v22 = IJ k ∧ Blk wx wv.heap.size 28 ((outK o k).map B) ∧ Below wv.heap.size wv wx
def BlkInv (w : World) (gk nb : Nat) (csk : List Value) (A : Option Addr) (ps : List UInt8) (v8 : Value) (wr : World) : Prop :=
  ∃ j q : Nat, j ≤ nb ∧ q = 64 * j ∧ v8 = IJ q ∧ RefS w gk csk (absN j kStart ps) A ps wr
def WordInv (wr : World) (b : List UInt8) (v10 : Value) (wx : World) : Prop :=
  ∃ k : Nat, k ≤ 64 ∧ v10 = IJ k ∧ Blk wx wr.heap.size 100 (wcells (wordsK b k)) ∧ Below wr.heap.size wr wx
def RndInv (ww : World) (ws : List W32) (s : R8) (v15 : Value) (wx : World) : Prop :=
  ∃ (k : Nat) (a c d e f g h i : W32), k ≤ 64 ∧ v15 = IJ k ∧ roundsN kTab ws k s = ⟨a, c, d, e, f, g, h, i⟩ ∧ Blk wx ww.heap.size 81 ([a, c, d, e, f, g, h, i].map U) ∧ Below ww.heap.size ww wx
theorem xor_lit (x : W32) : bits .xor .u32 4294967295 (x.toNat : Int) = ((~~~ x).toNat : Int) := by
  rw [show (4294967295 : Int) = ((4294967295#32 : W32).toNat : Int) from rfl, xor32, ones_xor]
def sliceN : Value → Nat
  | .slice _ n _ => n
  | _ => 0
set_option maxRecDepth 100000 in
set_option maxHeartbeats 4000000 in
theorem refsum_any (A : Option Addr) (c : Nat) (bs : List UInt8) (w : World) (hm : bs.length ≤ 140737488355200) (hr : Rd w A (bs.map B)) :
    Calls Tryd.prog 30 #[.slice A bs.length c] w fun e w' => e = .returned (HV (sumF bs)) ∧ Below w.heap.size w w' := by
  have HT := Lib.hid (And.intro hm hr)
  have hlen : bs.length ≤ 140737488355200 := hm
  clear hm hr
  go_enter Tryd.func30, Tryd.ntmps30
  go_wp2_with fail
  have hz0 := Blk_new w (List.replicate 32 (B 0)) 28
  have hb0 := (Below.refl w.heap.size w).alloc (Nat.le_refl _) (.cells (List.replicate 32 (B 0)).toArray 28)
  refine (constants_any _).mono ?_
  rintro e w1 ⟨rfl, hb1⟩
  have H1 := Lib.hid (And.intro (hz0.below hb1) (below_then hb0 hb0.size hb1))
  clear hz0 hb0 hb1
  obtain ⟨csk, hcsk⟩ : ∃ cs, cs = kTab.map U := ⟨_, rfl⟩
  obtain ⟨csh, hcsh⟩ : ∃ cs, cs = kStart.list.map U := ⟨_, rfl⟩
  rw [← hcsk, show WV kStart = .agg csh.toArray by rw [hcsh]]
  have hkl : csk.length = 64 := by rw [hcsk, List.length_map]; rfl
  have hhl : csh.length = 8 := by rw [hcsh]; rfl
  have hk1 : ∀ u ∈ csk, u.oneCell' = true := by rw [hcsk]; decide
  have hh1 : ∀ u ∈ csh, u.oneCell' = true := by rw [hcsh]; decide
  have HCK := Lib.hid (And.intro hcsk (And.intro hcsh (And.intro (show (some 64 : Option Nat) = some csk.length by rw [hkl]) (show (some 8 : Option Nat) = some csh.length by rw [hhl]))))
  clear hcsk hcsh
  have hy1 := (Blk_new w1 (List.replicate 64 (Value.int .u32 0)) 100).alloc (.cells (List.replicate 8 (Value.int .u32 0)).toArray 81)
  have hy2 := Blk_new (w1.alloc (.cells (List.replicate 64 (Value.int .u32 0)).toArray 100)) (List.replicate 8 (Value.int .u32 0)) 81
  have hyb := ((Below.refl w1.heap.size w1).alloc (Nat.le_refl _) (.cells (List.replicate 64 (Value.int .u32 0)).toArray 100)).alloc (by simp) (.cells (List.replicate 8 (Value.int .u32 0)).toArray 81)
  simp only [World.size_alloc] at hy2
  go_upto_region 3 with (first
    | (refine wpList_store_blk rfl 100 (.tmp 3) (.tmp 25) rfl w1.heap.size csk rfl rfl 100 (List.replicate 64 (.int .u32 0)) hy1 (Eq.trans (by kernel_rfl) HCK.out.2.2.1) (by rw [hkl]; rfl) hk1 ?_; intro w2 hw2 hg2
       have hy3 := hy2.grown hg2 (by simp)
       have hb2 := hyb.grown hg2 hyb.size (fun k e => by injection e with e; omega))
    | (refine wpList_store_blk rfl 81 (.tmp 4) (.tmp 26) rfl (w1.heap.size + 1) csh rfl rfl 81 _ hy3 (Eq.trans (by kernel_rfl) HCK.out.2.2.2) (by rw [hhl]; rfl) hh1 ?_; intro w3 hw3 hg3
       have hy4 := hw2.grown hg3 (by simp)
       have hb3 := hb2.grown hg3 hb2.size (fun k e => by injection e with e; omega)))
  have H3 := Lib.hid (And.intro hy4 (And.intro hw3 (And.intro (below_then H1.out.2 H1.out.2.size hb3) (And.intro (H1.out.1.below hb3) (And.intro hw3.lt (Nat.lt_of_lt_of_le H1.out.1.lt (Nat.le_refl _)))))))
  clear hy1 hy2 hyb hy3 hw2 hg2 hb2 hw3 hg3 hy4 hb3 hk1 hh1
  generalize hgk : w1.heap.size = gk at *
  have HGK := Lib.hid hgk
  clear hgk
  have HL := Lib.hid (show 0 + bs.length ≤ maxLen ∧ (0 + bs.length) * 1 ≤ 140737488355328 ∧ bs.length + 1 ≤ maxLen ∧ (bs.length + 1) * 1 ≤ 140737488355328 by unfold maxLen; omega)
  go_wp2_with (at_builtin; refine wpList_app tBs rfl _ _ rfl w3.heap.size (.slice none 0 0) 0 [] rfl (World.ownsRow_nil _ _ _ _) A bs.length c (bs.map B) rfl (HT.out.2.below H3.out.2.2.1) (by simp) one_bytes HL.out.1 HL.out.2.1 (Nat.le_refl _) ?_)
  intro v4 w4 ho4 hx4
  obtain ⟨A4, c4, rfl, _⟩ := own_slice ho4
  have hb4 := hx4.below (B := w3.heap.size) (Nat.le_refl _) (fun k e => by cases e)
  have H4 := Lib.hid (And.intro (ho4.kept (w' := w4.alloc (.cells #[B 128] 5)) (grown_of_below ((Below.refl _ _).alloc (Nat.le_refl _) _) none) (by cases (Value.slice A4 bs.length c4).ownBlock <;> simp)) (hb4.alloc hb4.size (.cells #[B 128] 5)))
  clear ho4 hx4 hb4
  go_wp2_with (at_builtin; refine wpList_app tBs rfl _ _ rfl w3.heap.size _ bs.length (bs.map B) rfl H4.out.1 (some ⟨w4.heap.size, 0, none⟩) 1 1 [B 128] rfl (Rd_alloc w4 #[B 128] 5) rfl (one_cell1 rfl) HL.out.2.2.1 HL.out.2.2.2 H4.out.2.size ?_)
  intro v5 w5 ho5 hx5
  have hb5 := H4.out.2.grown hx5.grown H4.out.2.size (fun k e => (H4.out.1.lt k e).1)
  obtain ⟨A5, c5, rfl, _⟩ := own_slice ho5
  have H5 := Lib.hid (And.intro ho5 hb5)
  clear ho5 hx5 hb5
  go_wp2_with fail
  go_loopw [5] (fun v5 wr => PadInv1 w3 bs v5 wr) (fun v5 _ => bs.length + 100 - sliceN v5)
  case atStart => exact ⟨0, _, Nat.zero_le _, rfl, by simpa using H5.out.1, H5.out.2⟩
  case round =>
    obtain ⟨z, n, hz, hn, ho, hB⟩ := hrel
    have hzf := zeros_fits bs.length z hz
    have hz63 := zerosN_le bs.length
    rw [← hn] at hzf
    obtain ⟨A6, c6, rfl, _⟩ := own_slice ho
    by_cases hlt : z < zerosN (bs.length % 64)
    · have hne : ((n : Int) % 64 != 56) = true := by rw [bne_iff_ne]; omega
      have HS := Lib.hid (And.intro hn (And.intro ho (And.intro hB hlt)))
      have HM := Lib.hid (show n + 1 ≤ maxLen ∧ (n + 1) * 1 ≤ 140737488355328 by unfold maxLen; omega)
      have hn2 : n ≤ 140737488355300 := by omega
      clear hn ho hB hlt hz hzf hz63
      go_wp2_with (at_builtin; refine wpList_app tBs rfl _ _ rfl w3.heap.size _ n ((bs ++ (128 :: List.replicate z 0)).map B) rfl (HS.out.2.1.alloc _) (some ⟨wr.heap.size, 0, none⟩) 1 1 [B 0] rfl (Rd_alloc _ _ _) rfl (one_cell1 rfl) HM.out.1 HM.out.2 (by have := HS.out.2.2.1.size; rw [World.size_alloc]; omega) ?_)
      intro v7 w7 ho7 hx7
      have hb7 := (HS.out.2.2.1.alloc HS.out.2.2.1.size (.cells #[B 0] 5)).grown hx7.grown (by have := HS.out.2.2.1.size; rw [World.size_alloc]; omega) (fun q e => (HS.out.2.1.lt q e).1)
      obtain ⟨A7, c7, rfl, _⟩ := own_slice ho7
      have H7 := Lib.hid (And.intro ho7 hb7)
      clear ho7 hx7 hb7
      go_wp2_with fail
      go_roundw
      case rel =>
        refine ⟨z + 1, n + 1, HS.out.2.2.2, by have := HS.out.1; omega, ?_, H7.out.2⟩
        have e : bs ++ (128 :: List.replicate (z + 1) 0) = (bs ++ (128 :: List.replicate z 0)) ++ [0] := by rw [List.replicate_succ']; simp
        rw [e]
        simpa using H7.out.1
      case measure => have := HS.out.1; have := HS.out.2.2.2; have := zerosN_le bs.length; simp [sliceN]; omega
    · obtain rfl : z = zerosN (bs.length % 64) := by omega
      have hne : ((n : Int) % 64 != 56) = false := by have := hzf.2 rfl; simp; omega
      have hml : (bs ++ (128 :: List.replicate (zerosN (bs.length % 64)) (0 : UInt8))).length = n := by simp; omega
      have hpad : padF bs = (bs ++ (128 :: List.replicate (zerosN (bs.length % 64)) 0)) ++ be64 (bs.length * 8) := by
        unfold padF
        rw [Nat.mod_eq_of_lt (show bs.length * 8 < 18446744073709551616 by omega)]
        simp
      generalize bs ++ (128 :: List.replicate (zerosN (bs.length % 64)) (0 : UInt8)) = ms at *
      have HS := Lib.hid (And.intro hml (And.intro hpad (And.intro ho hB)))
      have hn2 : n ≤ 140737488355300 := by omega
      have hn8 : bs.length * 8 < 18446744073709551616 := by omega
      clear hml hpad ho hB hz hn hzf hz63 hlt
      go_wp2_with fail
      go_loopw [5, 7] (fun v5 v7 wr => PadInv2 w3 ms (bs.length * 8) v5 v7 wr) (fun _ v7 _ => (intOf v7 + 1).toNat)
      case atStart => exact ⟨0, n, Nat.zero_le _, by rw [HS.out.1]; rfl, rfl, by simpa using HS.out.2.2.1, HS.out.2.2.2⟩
      case round =>
        obtain ⟨k, n', hk, hn', rfl, ho, hB⟩ := hrel
        obtain ⟨A8, c8, rfl, _⟩ := own_slice ho
        by_cases hlt : k < 8
        · obtain ⟨j, hj, hkj⟩ : ∃ j, j < 8 ∧ k = 7 - j := ⟨7 - k, by omega, by omega⟩
          obtain ⟨x, hx, hv⟩ := be64_at bs.length j k hj hkj hn8
          rw [show (7 : Int) - (k : Int) = (j : Int) by omega]
          have HQ := Lib.hid (And.intro hn' (And.intro ho (And.intro hB (And.intro hlt (And.intro hj (And.intro hkj hx))))))
          have hj8 : (j : Int) < 8 := by omega
          have s2 : (8 * (j : Int)).toNat = 8 * j := by omega
          have hq1 : n' ≤ 140737488355320 := by have := HS.out.1; omega
          have HM := Lib.hid (show n' + 1 ≤ maxLen ∧ (n' + 1) * 1 ≤ 140737488355328 by unfold maxLen; omega)
          clear hn' ho hB hlt hk hj hkj hx hn2 hn8
          go_wp2_with (at_builtin; go_loud (refine wpList_app tBs rfl _ _ rfl w3.heap.size _ n' ((ms ++ (be64 (bs.length * 8)).take k).map B) rfl (HQ.out.2.1.alloc _) (some ⟨wr.heap.size, 0, none⟩) 1 1 [B x] rfl (Rd_alloc _ _ _) rfl (one_cell1 rfl) HM.out.1 HM.out.2 (by have := HQ.out.2.2.1.size; rw [World.size_alloc]; omega) ?_))
          intro v7 w7 ho7 hx7
          have hb7 := (HQ.out.2.2.1.alloc HQ.out.2.2.1.size (.cells #[B x] 5)).grown hx7.grown (by have := HQ.out.2.2.1.size; rw [World.size_alloc]; omega) (fun q e => (HQ.out.2.1.lt q e).1)
          obtain ⟨A7, c7, rfl, _⟩ := own_slice ho7
          have H7 := Lib.hid (And.intro ho7 hb7)
          clear ho7 hx7 hb7
          go_wp2_with fail
          go_roundw
          case rel =>
            refine ⟨k + 1, n' + 1, HQ.out.2.2.2.1, by have := HQ.out.1; omega, ?_, ?_, H7.out.2⟩
            · have := HQ.out.2.2.2.2.2.1; have := HQ.out.2.2.2.1; congr 1; omega
            · rw [List.take_add_one, HQ.out.2.2.2.2.2.2]
              simpa using H7.out.1
          case measure => simp [intOf]
        · obtain rfl : k = 8 := by omega
          rw [List.take_of_length_le (by rw [be64_length]; omega)] at ho
          have hnb := padF_length bs
          rw [HS.out.2.1, List.length_append, be64_length, ← hn'] at hnb
          rw [← HS.out.2.1] at ho
          have hsum := sum_pad bs
          generalize padF bs = ps at *
          generalize hnbe : blocksN bs.length = nb at *
          obtain ⟨A9, c9, e9, hc9, hr9, _, hat9⟩ := own_slice ho
          injection e9 with e91 e92 e93
          subst e91; subst e93
          have hpl : ps.length = n' := by have := ho.1; simpa using this
          have hBw : Below w.heap.size w wr := below_then H3.out.2.2.1 H3.out.2.2.1.size hB
          have HP := Lib.hid (And.intro hnb (And.intro hsum (And.intro hpl hat9)))
          have HSS : Hid (RefS w gk csk kStart A8 ps wr) := Lib.hid ⟨H3.out.1.below hB, by rw [← HCK.out.2.1]; exact H3.out.2.1.below hB, H3.out.2.2.2.1.below hB, hr9, hBw⟩
          have hq1 : n' ≤ 140737488355308 := by have := HS.out.1; omega
          clear ho hB hr9 hc9 hat9 hpl hBw hsum hnb hn' hnbe hlt hk hn2 hn8 hne
          go_wp2_with fail
          go_loopw [8] (fun v8 wx => BlkInv w gk nb csk A8 ps v8 wx) (fun v8 _ => n' - (intOf v8).toNat)
          case atStart => exact ⟨0, 0, Nat.zero_le _, rfl, rfl, HSS.out⟩
          clear HSS
          case round =>
            obtain ⟨j, q, hj, hq, rfl, hR⟩ := hrel
            by_cases hlt : j < nb
            · have HJ := Lib.hid (And.intro hlt (And.intro hq hR))
              have hqn : q + 64 ≤ n' := by have := HP.out.1; omega
              have hqi : (q : Int) < (n' : Int) := by omega
              clear hj hq hR hlt
              go_wp2_with fail
              generalize wr = wj at *
              have hgw := Blk_new wj (List.replicate 64 (Value.int .u32 0)) 100
              have hbw := (Below.refl wj.heap.size wj).alloc (Nat.le_refl _) (.cells (List.replicate 64 (Value.int .u32 0)).toArray 100)
              obtain ⟨b, hbe⟩ : ∃ b, (ps.drop q).take 64 = b := ⟨_, rfl⟩
              have hbl : b.length = 64 := by rw [← hbe]; have := HP.out.2.2.1; simp; omega
              have hwk0 : wcells (wordsK b 0) = List.replicate 64 (Value.int .u32 0) := by simp [wcells, wordsK]
              have hbx : ∀ m, m < 64 → ps[q + m]? = b[m]? := fun m hm => by
                rw [← hbe, List.getElem?_take, if_pos hm, List.getElem?_drop]
              obtain ⟨ba, oa, rfl, hba, hca⟩ := HJ.out.2.2.rd.at_ (by rw [List.length_map, HP.out.2.2.1]; omega)
              have hcb : ∀ m x, m < 64 → b[m]? = some x → ∀ wx, Below wj.heap.size wj wx → wx.cell? ⟨ba, oa + (q + m), none⟩ = some (B x) := fun m x hm hx wx hb => by
                have h := hca (q + m) (by rw [List.length_map, HP.out.2.2.1]; omega)
                rw [(hb.cell (p := ⟨ba, oa + (q + m), none⟩) hba), h]
                have h2 : ps[q + m]? = some x := (hbx m hm).trans hx
                have := (List.getElem?_eq_some_iff.1 h2).2
                simp [this]
              have HB := Lib.hid (And.intro hbe (And.intro hbl (And.intro hcb hba)))
              have HW0 := Lib.hid (And.intro hgw hbw)
              clear hgw hbw hbe hbl hbx hba hca hcb
              go_loopw [10] (fun v10 wx => WordInv wj b v10 wx) (fun v10 _ => 64 - (intOf v10).toNat)
              case atStart => exact ⟨0, Nat.zero_le _, rfl, by rw [hwk0]; exact HW0.out.1, HW0.out.2⟩
              clear HW0 hwk0
              case round =>
                obtain ⟨k, hk, rfl, hW, hB⟩ := hrel
                by_cases hlt : k < 64
                · obtain ⟨v0, hv0⟩ : ∃ v, wr.cell? ⟨wj.heap.size, k, none⟩ = some v := ⟨_, hW.cell k (by rw [wcells_length _ (by rw [wordsK_length]; omega)]; omega)⟩
                  have hfr := hW.frozen k
                  have hki : (k : Int) < 64 := by omega
                  by_cases h16 : k < 16
                  · have h16i : (k : Int) < 16 := by omega
                    have hb64 := HB.out.2.1
                    have hq := words16_take b k h16 hb64
                    have cc : ∀ m (hm : m < 4), wr.cell? ⟨ba, oa + (q + (4 * k + m)), none⟩ = some (B (b[4 * k + m]'(by omega))) := fun m hm => HB.out.2.2.1 (4 * k + m) _ (by omega) (List.getElem?_eq_getElem (by omega)) wr hB
                    have c0 := cc 0 (by omega)
                    have c1 := cc 1 (by omega)
                    have c2 := cc 2 (by omega)
                    have c3 := cc 3 (by omega)
                    simp only [Nat.add_zero] at c0
                    have hv := un32_val b[4 * k] b[4 * k + 1] b[4 * k + 2] b[4 * k + 3]
                    generalize b[4 * k] = x0 at *
                    generalize b[4 * k + 1] = x1 at *
                    generalize b[4 * k + 2] = x2 at *
                    generalize b[4 * k + 3] = x3 at *
                    obtain ⟨qq, hqq⟩ : ∃ qq, qq = q + 4 * k := ⟨_, rfl⟩
                    rw [show q + 4 * k = qq from hqq.symm] at c0
                    rw [show q + (4 * k + 1) = qq + 1 by omega] at c1
                    rw [show q + (4 * k + 2) = qq + 2 by omega] at c2
                    rw [show q + (4 * k + 3) = qq + 3 by omega] at c3
                    have HWW := Lib.hid (And.intro hW (And.intro hB (And.intro hq (And.intro h16 hqq))))
                    have n0 := x0.toNat_lt
                    have n1 := x1.toNat_lt
                    have n2 := x2.toNat_lt
                    have n3 := x3.toNat_lt
                    have HV := Lib.hid hv
                    have hqb : qq + 4 ≤ n' := by omega
                    clear hW hB hq h16 hb64 cc hv hlt hk hqq
                    go_upto_region 19 with fail
                    go_cut [11] from 68 to 71 (fun v11 wx => v11 = IJ qq ∧ wr = wx)
                    case first =>
                      go_wp2_with fail
                      go_meet
                      case rel => exact ⟨by have := HWW.out.2.2.2.2; congr 1; omega, rfl⟩
                    case rest =>
                      obtain ⟨rfl, rfl⟩ := hcut
                      have i1 : IntKind.i64.wrap ((qq : Int) + 1) = (qq : Int) + 1 := IntWalk.i64_in _ (by omega)
                      have i2 : IntKind.i64.wrap ((qq : Int) + 2) = (qq : Int) + 2 := IntWalk.i64_in _ (by omega)
                      have i3 : IntKind.i64.wrap ((qq : Int) + 3) = (qq : Int) + 3 := IntWalk.i64_in _ (by omega)
                      have p1 : (0 : Int) ≤ (qq : Int) + 1 := by omega
                      have p2 : (0 : Int) ≤ (qq : Int) + 2 := by omega
                      have p3 : (0 : Int) ≤ (qq : Int) + 3 := by omega
                      have u0 : (qq : Int) < (n' : Int) := by omega
                      have u1 : (qq : Int) + 1 < (n' : Int) := by omega
                      have u2 : (qq : Int) + 2 < (n' : Int) := by omega
                      have u3 : (qq : Int) + 3 < (n' : Int) := by omega
                      have t1 : ((qq : Int) + 1).toNat = qq + 1 := by omega
                      have t2 : ((qq : Int) + 2).toNat = qq + 2 := by omega
                      have t3 : ((qq : Int) + 3).toNat = qq + 3 := by omega
                      have z0 := wrap_u32_byte x0
                      have z1 := wrap_u32_byte x1
                      have z2 := wrap_u32_byte x2
                      have z3 := wrap_u32_byte x3
                      have y0 : IntKind.u32.wrap ((x0.toNat : Int) * 16777216) = (x0.toNat : Int) * 16777216 := wrap_u32_in _ (by omega) (by omega)
                      have y1 : IntKind.u32.wrap ((x1.toNat : Int) * 65536) = (x1.toNat : Int) * 65536 := wrap_u32_in _ (by omega) (by omega)
                      have y2 : IntKind.u32.wrap ((x2.toNat : Int) * 256) = (x2.toNat : Int) * 256 := wrap_u32_in _ (by omega) (by omega)
                      have HFAR : Hid (∀ v x, (wr.setCell ⟨wj.heap.size, k, none⟩ v).drew.cell? ⟨ba, x, none⟩ = wr.cell? ⟨ba, x, none⟩) := Lib.hid (fun v x => World.cell?_setCell_far wr _ _ v (by have := HB.out.2.2.2; simp; omega))
                      go_wp2_with fail
                      go_region_held3 (fun w' => w'.cell? ⟨ba, oa + qq, none⟩ = some (B x0) ∧ w'.cell? ⟨ba, oa + (qq + 1), none⟩ = some (B x1) ∧ w'.cell? ⟨ba, oa + (qq + 2), none⟩ = some (B x2) ∧ w'.cell? ⟨ba, oa + (qq + 3), none⟩ = some (B x3))
                        (first | exact ⟨c0, c1, c2, c3⟩ | exact ⟨(HFAR.out _ _).trans c0, (HFAR.out _ _).trans c1, (HFAR.out _ _).trans c2, (HFAR.out _ _).trans c3⟩) (fail)
                      rw [HV.out]
                      clear c0 c1 c2 c3 i1 i2 i3 p1 p2 p3 u0 u1 u2 u3 t1 t2 t3 z0 z1 z2 z3 y0 y1 y2 hv0 hfr n0 n1 n2 n3
                      go_wp2
                      go_roundw
                      case rel =>
                        refine ⟨k + 1, by have := HWW.out.2.2.2.1; omega, by go_num, ?_, below_drewN (HWW.out.2.1.setCell (p := ⟨wj.heap.size, k, none⟩) (Nat.le_refl _) _) 1⟩
                        have h := (HWW.out.1.set k (U (un32 x0 x1 x2 x3))).drew
                        have e := wcells_set (wordsK b k) (un32 x0 x1 x2 x3) (by rw [wordsK_length]; have := HWW.out.2.2.2.1; omega)
                        rw [wordsK_length] at e
                        rw [e, wordsK_low b k (by have := HWW.out.2.2.2.1; omega), ← HWW.out.2.2.1, ← wordsK_low b (k + 1) (by have := HWW.out.2.2.2.1; omega)] at h
                        exact h
                      case measure => have := HWW.out.2.2.2.1; simp [intOf]; omega
                  · have h16i : ¬ (k : Int) < 16 := by omega
                    obtain ⟨l, hl, hlen, hst⟩ : ∃ l, l = wordsK b k ∧ l.length = k ∧ wordsK b (k + 1) = snocW l := ⟨_, rfl, wordsK_length b k, wordsK_next b k (by omega)⟩
                    rw [← hl] at hW
                    have hsn := sched_next l k (by omega) hlen
                    clear hl
                    have cell : ∀ j (hj : j < k), wr.cell? ⟨wj.heap.size, j, none⟩ = some (U (l[j]'(by omega))) := fun j hj => hW.cellD j _ (wcells_at l j (by omega))
                    have c16 := cell (k - 16) (by omega)
                    have c15 := cell (k - 15) (by omega)
                    have c7 := cell (k - 7) (by omega)
                    have c2 := cell (k - 2) (by omega)
                    generalize l[k - 16] = x16 at *
                    generalize l[k - 15] = x15 at *
                    generalize l[k - 7] = x7 at *
                    generalize l[k - 2] = x2 at *
                    have hnr := next_ref l x16 x15 x7 x2 hsn
                    have HWW := Lib.hid (And.intro hW (And.intro hB (And.intro hnr (And.intro hst (And.intro hlen (And.intro hlt h16))))))
                    have i16 : IntKind.i64.wrap ((k : Int) - 16) = (k : Int) - 16 := IntWalk.i64_in _ (by omega)
                    have i15 : IntKind.i64.wrap ((k : Int) - 15) = (k : Int) - 15 := IntWalk.i64_in _ (by omega)
                    have i7 : IntKind.i64.wrap ((k : Int) - 7) = (k : Int) - 7 := IntWalk.i64_in _ (by omega)
                    have i2 : IntKind.i64.wrap ((k : Int) - 2) = (k : Int) - 2 := IntWalk.i64_in _ (by omega)
                    have t16 : ((k : Int) - 16).toNat = k - 16 := by omega
                    have t15 : ((k : Int) - 15).toNat = k - 15 := by omega
                    have t7 : ((k : Int) - 7).toNat = k - 7 := by omega
                    have t2 : ((k : Int) - 2).toNat = k - 2 := by omega
                    have p16 : (0 : Int) ≤ (k : Int) - 16 := by omega
                    have p15 : (0 : Int) ≤ (k : Int) - 15 := by omega
                    have p7 : (0 : Int) ≤ (k : Int) - 7 := by omega
                    have p2 : (0 : Int) ≤ (k : Int) - 2 := by omega
                    have u16 : (k : Int) - 16 < 64 := by omega
                    have u15 : (k : Int) - 15 < 64 := by omega
                    have u7 : (k : Int) - 7 < 64 := by omega
                    have u2 : (k : Int) - 2 < 64 := by omega
                    have q16 : (16 : Int) ≤ (k : Int) := by omega
                    have q15 : (15 : Int) ≤ (k : Int) := by omega
                    have q7 : (7 : Int) ≤ (k : Int) := by omega
                    have q2 : (2 : Int) ≤ (k : Int) := by omega
                    clear cell hW hB hsn hst hlen hnr hk hlt h16
                    go_wp2_with fail
                    go_quiet (fail)
                    go_wp2_with fail
                    have hlow : bits .xor .u32 (bits .xor .u32 ((rotT x15 7).toNat : Int) ((rotT x15 18).toNat : Int)) ((x15.toNat : Int) / 8) = ((lowS x15).toNat : Int) := low_val x15
                    have hhigh : bits .xor .u32 (bits .xor .u32 ((rotT x2 17).toNat : Int) ((rotT x2 19).toNat : Int)) ((x2.toNat : Int) / 1024) = ((highS x2).toNat : Int) := high_val x2
                    obtain ⟨a1, ha1⟩ : ∃ a1, a1 = highS x2 + x7 := ⟨_, rfl⟩
                    obtain ⟨a2, ha2⟩ : ∃ a2, a2 = a1 + lowS x15 := ⟨_, rfl⟩
                    obtain ⟨a3, ha3⟩ : ∃ a3, a3 = a2 + x16 := ⟨_, rfl⟩
                    have s1 := wadd (highS x2) x7
                    have s2 := wadd a1 (lowS x15)
                    have s3 := wadd a2 x16
                    rw [← ha1] at s1
                    rw [← ha2] at s2
                    rw [← ha3] at s3
                    have HA : Hid (a3 = highS x2 + x7 + lowS x15 + x16) := Lib.hid (by rw [ha3, ha2, ha1])
                    clear ha1 ha2 ha3 c15 c2 i15 i2 t15 t2 p15 p2 u15 u2
                    have HFAR : Hid (∀ v x y, wr.cell? ⟨wj.heap.size, x, none⟩ = some y → x ≠ k → ((wr.drewN nq).setCell ⟨wj.heap.size, k, none⟩ v).drew.cell? ⟨wj.heap.size, x, none⟩ = some y) := Lib.hid (fun v x y h hne => (World.cell?_setCell_other wr _ _ v (by intro e; injection e with _ e; exact hne e.symm)).trans h)
                    have HC16 := Lib.hid (And.intro c16 c7)
                    have HNE : Hid (k - 16 ≠ k ∧ k - 7 ≠ k) := Lib.hid (by have := HWW.out.2.2.2.2.2.2; omega)
                    go_region_held3 (fun w' => w'.cell? ⟨wj.heap.size, k - 16, none⟩ = some (U x16) ∧ w'.cell? ⟨wj.heap.size, k - 7, none⟩ = some (U x7))
                      (first | exact ⟨HC16.out.1, HC16.out.2⟩ | exact ⟨HFAR.out _ _ _ HC16.out.1 HNE.out.1, HFAR.out _ _ _ HC16.out.2 HNE.out.2⟩)
                      (first
                        | (go_at_call 65; refine (turn_any _ _ _ (by decide) (by decide)).mono ?_; rintro e w' ⟨rfl, rfl⟩))
                    clear s1 s2 s3 c16 c7 i16 i7 t16 t7 p16 p7 u16 u7 q16 q15 q7 q2 hfr hv0 hlow hhigh
                    go_wp2
                    go_roundw
                    case rel =>
                      refine ⟨k + 1, by have := HWW.out.2.2.2.2.2.1; omega, by go_num, ?_, below_drewN (HWW.out.2.1.setCell (p := ⟨wj.heap.size, k, none⟩) (Nat.le_refl _) _) (nq + 1)⟩
                      have h := (HWW.out.1.set k (U a3)).drewN (nq + 1)
                      have e := wcells_set l a3 (by rw [HWW.out.2.2.2.2.1]; exact HWW.out.2.2.2.2.2.1)
                      rw [HWW.out.2.2.2.2.1] at e
                      rw [HWW.out.2.2.2.1]
                      unfold snocW
                      rw [HWW.out.2.2.1, ← HA.out, ← e]
                      exact h
                    case measure => have := HWW.out.2.2.2.2.2.1; simp [intOf]; omega
                · obtain rfl : k = 64 := by omega
                  rw [show IJ 64 = Value.int .i64 64 from rfl]
                  generalize wr = ww at *
                  clear hlt hk
                  have hws : wordsK b 64 = schedN 48 (words16 b) := wordsK_end b
                  have hwl := wordsK_length b 64
                  generalize wordsK b 64 = ws at *
                  have hR := HJ.out.2.2.below hB
                  obtain ⟨s, hs⟩ : ∃ s, s = absN j kStart ps := ⟨_, rfl⟩
                  rw [← hs] at hR
                  have HWS := Lib.hid (And.intro hws (And.intro hwl (And.intro hs (And.intro hW hR))))
                  have hh := hR.hb
                  have hgl := hR.hb.lt
                  clear hws hwl hs hW hR
                  have hcv : Hid (∀ (r : R8) (wx : World) (g : Nat), Blk wx g 81 (r.list.map U) → ∀ i v, r.list[i]? = some v → wx.cell? ⟨g, i, none⟩ = some (U v)) := Lib.hid (fun r wx g h i v hv => h.cellD i _ (by rw [List.getElem?_map, hv]; rfl))
                  go_wp2_with (first
                    | (refine wpList_load_blk rfl 81 (.tmp 4) rfl (gk + 1) rfl 81 (s.list.map U) _ hh Tryd.underlying81 rfl (by kernel_rfl) ?_)
                    | (refine wpList_store_blk rfl 81 (.tmp 14) (.tmp 140) rfl ww.heap.size (s.list.map U) rfl rfl 81 _ (heap_alloc_new ww _) (by kernel_rfl) rfl (by intro u hu; obtain ⟨x, _, rfl⟩ := List.mem_map.1 hu; rfl) ?_; intro w9 hw9 hg9))
                  have hb9 : Below ww.heap.size ww w9 := ((Below.refl ww.heap.size ww).alloc (Nat.le_refl _) _).grown hg9 (by simp) (fun r e => by injection e with e; omega)
                  have H9 := Lib.hid (And.intro hw9 (And.intro hb9 hB))
                  clear hh hw9 hg9 hb9 hB
                  go_loopw [15] (fun v15 wx => RndInv ww ws s v15 wx) (fun v15 _ => 64 - (intOf v15).toNat)
                  case atStart => obtain ⟨a, c, d, e, f, g, h, i⟩ := s; exact ⟨0, a, c, d, e, f, g, h, i, Nat.zero_le _, rfl, rfl, H9.out.1, H9.out.2.1⟩
                  case round =>
                    obtain ⟨k, a, c', d, e, f, g, h, i, hk, rfl, hrd, hV, hB⟩ := hrel
                    by_cases hlt : k < 64
                    · obtain ⟨kk, wk, hkk, hwk, hnx⟩ := rounds_next ws k _ _ hlt HWS.out.2.1 hrd
                      have hcells : ∀ wx, Blk wx ww.heap.size 81 ([a, c', d, e, f, g, h, i].map U) → Below ww.heap.size ww wx →
                          wx.cell? ⟨ww.heap.size, 0, none⟩ = some (U a) ∧ wx.cell? ⟨ww.heap.size, 1, none⟩ = some (U c') ∧ wx.cell? ⟨ww.heap.size, 2, none⟩ = some (U d) ∧ wx.cell? ⟨ww.heap.size, 3, none⟩ = some (U e) ∧ wx.cell? ⟨ww.heap.size, 4, none⟩ = some (U f) ∧ wx.cell? ⟨ww.heap.size, 5, none⟩ = some (U g) ∧ wx.cell? ⟨ww.heap.size, 6, none⟩ = some (U h) ∧ wx.cell? ⟨ww.heap.size, 7, none⟩ = some (U i) ∧ wx.cell? ⟨gk, k, none⟩ = some (U kk) ∧ wx.cell? ⟨wj.heap.size, k, none⟩ = some (U wk) :=
                        fun wx hV hB => ⟨hV.cellD 0 _ rfl, hV.cellD 1 _ rfl, hV.cellD 2 _ rfl, hV.cellD 3 _ rfl, hV.cellD 4 _ rfl, hV.cellD 5 _ rfl, hV.cellD 6 _ rfl, hV.cellD 7 _ rfl,
                          (HWS.out.2.2.2.2.kb.below hB).cellD k _ (by rw [HCK.out.1, List.getElem?_map, hkk]; rfl), (HWS.out.2.2.2.1.below hB).cellD k _ (wcells_at' ws k wk hwk)⟩
                      have HCL := Lib.hid hcells
                      have HK := Lib.hid (And.intro hlt (And.intro hnx (And.intro hV hB)))
                      have hk64 : (k : Int) < 64 := by omega
                      clear hkk hwk hlt hnx hV hB hk hrd hcells
                      go_upto_region 27 with fail
                      go_cut [16, 17] from 145 to 148 (fun s16 s17 wx => s16 = U f ∧ s17 = U a ∧ Blk wx ww.heap.size 81 ([a, c', d, e, f, g, h, i].map U) ∧ Below ww.heap.size ww wx)
                      case first =>
                        obtain ⟨d0, d1, d2, d3, d4, d5, d6, d7, ck, cw⟩ := HCL.out wr HK.out.2.2.1 HK.out.2.2.2
                        go_quiet (fail)
                        go_wp2_with fail
                        go_meet
                        case rel => exact ⟨rfl, rfl, HK.out.2.2.1.drewN _, below_drewN HK.out.2.2.2 _⟩
                      case rest =>
                        obtain ⟨rfl, rfl, hV, hB⟩ := hcut
                        generalize wc = w28 at *
                        obtain ⟨d0, d1, d2, d3, d4, d5, d6, d7, ck, cw⟩ := HCL.out w28 hV hB
                        have HK := Lib.hid (And.intro HK.out.1 (And.intro HK.out.2.1 (And.intro hV hB)))
                        clear hV hB
                        go_upto_region 28 with fail
                        go_cut [18] from 149 to 178 (fun s18 wx => s18 = U (oneS kk wk ⟨a, c', d, e, f, g, h, i⟩) ∧ Blk wx ww.heap.size 81 ([a, c', d, e, f, g, h, i].map U) ∧ Below ww.heap.size ww wx)
                        case first =>
                          go_quiet ((go_at_call 65; refine Calls.quiet_of_same (turn_any _ _ _ ?_ ?_); decide; decide))
                          simp only [xor_lit, xor32, and32, or32]
                          go_wp2_with fail
                          go_meet
                          case rel => exact ⟨congrArg (Value.int .u32) (by rw [ch_or]; exact one_val a c' d e f g h i kk wk), HK.out.2.2.1.drewN _, below_drewN HK.out.2.2.2 _⟩
                        case rest =>
                          obtain ⟨rfl, hV, hB⟩ := hcut
                          generalize wc = w29 at *
                          obtain ⟨one, hone⟩ : ∃ one, one = oneS kk wk ⟨a, c', d, e, f, g, h, i⟩ := ⟨_, rfl⟩
                          rw [← hone]
                          clear d0 d1 d2 d3 d4 d5 d6 d7 ck cw
                          obtain ⟨d0, d1, d2, d3, d4, d5, d6, d7, ck, cw⟩ := HCL.out w29 hV hB
                          have HK := Lib.hid (And.intro HK.out.1 (And.intro HK.out.2.1 (And.intro hV (And.intro hB hone))))
                          clear hV hB hone
                          go_upto_region 29 with fail
                          go_cut [19] from 179 to 202 (fun s19 wx => s19 = U (twoS ⟨a, c', d, e, f, g, h, i⟩) ∧ Blk wx ww.heap.size 81 ([a, c', d, e, f, g, h, i].map U) ∧ Below ww.heap.size ww wx)
                          case first =>
                            go_quiet ((go_at_call 65; refine Calls.quiet_of_same (turn_any _ _ _ ?_ ?_); decide; decide))
                            simp only [xor32, and32, or32]
                            go_wp2_with fail
                            go_meet
                            case rel => exact ⟨congrArg (Value.int .u32) (by rw [maj_or]; exact add32 _ _), HK.out.2.2.1.drewN _, below_drewN HK.out.2.2.2.1 _⟩
                          case rest =>
                            obtain ⟨rfl, hV, hB⟩ := hcut
                            generalize wc = w30 at *
                            obtain ⟨two, htwo⟩ : ∃ two, two = twoS ⟨a, c', d, e, f, g, h, i⟩ := ⟨_, rfl⟩
                            rw [← htwo]
                            clear d0 d1 d2 d3 d4 d5 d6 d7 ck cw
                            obtain ⟨d0, d1, d2, d3, d4, d5, d6, d7, ck, cw⟩ := HCL.out w30 hV hB
                            obtain ⟨z1, y1, x1, hz1⟩ := sum_facts e one
                            obtain ⟨z2, y2, x2, hz2⟩ := sum_facts one two
                            have HZ := Lib.hid (And.intro htwo (And.intro hz1 hz2))
                            have hV' := hV
                            have HK := Lib.hid (And.intro HK.out.1 (And.intro HK.out.2.1 (And.intro hB HK.out.2.2.2.2)))
                            clear hV hB htwo hz1 hz2
                            go_wp2_with (refine wpList_store_blk rfl 81 (.tmp 14) (.tmp 222) rfl ww.heap.size ([z2, a, c', d, z1, f, g, h].map U) rfl rfl 81 _ hV' (by kernel_rfl) rfl (by intro u hu; obtain ⟨x, _, rfl⟩ := List.mem_map.1 hu; rfl) ?_; intro w31 hw31 hg31)
                            have H31 := Lib.hid (And.intro hw31 (HK.out.2.2.1.grown hg31 HK.out.2.2.1.size (fun r e => by injection e with e; omega)))
                            clear hV' hw31 hg31 d0 d1 d2 d3 d4 d5 d6 d7 ck cw
                            go_wp2_with fail
                            go_roundw
                            case rel =>
                              refine ⟨k + 1, z2, a, c', d, z1, f, g, h, HK.out.1, by go_num, ?_, H31.out.1, H31.out.2⟩
                              rw [HK.out.2.1, rnd, ← HK.out.2.2.2, ← HZ.out.1, HZ.out.2.1, HZ.out.2.2]
                              rfl
                            case measure => have := HK.out.1; simp [intOf]; omega
                    · obtain rfl : k = 64 := by omega
                      rw [show IJ 64 = Value.int .i64 64 from rfl]
                      generalize wr = wv at *
                      have hfin : mixF s b = s.add ⟨a, c', d, e, f, g, h, i⟩ := by unfold mixF; rw [← HWS.out.1, hrd]
                      have hR := HWS.out.2.2.2.2.below hB
                      have hgv : gk + 1 < ww.heap.size := hgl
                      obtain ⟨t, ht⟩ : ∃ t, t = mixF s b := ⟨_, rfl⟩
                      have HF := Lib.hid (And.intro hfin (And.intro hV (And.intro hR ht)))
                      clear hfin hV hR hrd hlt hk ht
                      go_wp2_with fail
                      go_loopw [20] (fun v20 wx => AddInv wv gk s t v20 wx) (fun v20 _ => 8 - (intOf v20).toNat)
                      case atStart => exact ⟨0, Nat.zero_le _, rfl, by simpa [cur8] using HF.out.2.2.1.hb, World.grownBy.refl _ _⟩
                      case round =>
                        obtain ⟨k, hk, rfl, hP, hG⟩ := hrel
                        by_cases hlt : k < 8
                        · obtain ⟨xk, yk, h1, h2, h3⟩ := add_at s ⟨a, c', d, e, f, g, h, i⟩ k hlt
                          rw [← HF.out.1, ← HF.out.2.2.2] at h3
                          have hcell : wr.cell? ⟨gk + 1, k, none⟩ = some (U xk) := by
                            have h := cur_at s t k k xk rfl h1 []
                            rw [List.append_nil] at h
                            exact hP.cellD k _ h
                          have hcel2 : wr.cell? ⟨ww.heap.size, k, none⟩ = some (U yk) := (HF.out.2.1.grown hG (by simp; omega)).cellD k _ (by rw [List.getElem?_map, h2]; rfl)
                          have hfr := hP.frozen k
                          have hset := hP.set k (U (xk + yk))
                          rw [← List.map_set, cur_set _ _ _ _ hlt h3] at hset
                          obtain ⟨zk, y1, x1, hz⟩ := sum_facts xk yk
                          have HS := Lib.hid (And.intro hset (And.intro hG (And.intro hlt hz)))
                          have hk8 : (k : Int) < 8 := by omega
                          clear hP hG hlt h1 h2 h3 hset hz hk
                          go_wp2_with fail
                          go_region
                          go_wp2
                          go_roundw
                          case rel => exact ⟨k + 1, HS.out.2.2.1, by go_num, (by have h := HS.out.1.drew; rw [← HS.out.2.2.2] at h; exact h), grown_drewN (grown_trans HS.out.2.1 (grown_setC _ _ _ _) (.inl rfl)) 1⟩
                          case measure => have := HS.out.2.2.1; simp [intOf]; omega
                        · obtain rfl : k = 8 := by omega
                          rw [cur_end] at hP
                          rw [show IJ 8 = Value.int .i64 8 from rfl]
                          have hR := HF.out.2.2.1.grown hG hP (fun ad e => by have := HP.out.2.2.2 ad e; have := H3.out.2.2.2.2.1; omega) H3.out.2.2.2.2.2
                          have habs : absN (j + 1) kStart ps = t := by rw [absN_succ, HF.out.2.2.2, HWS.out.2.2.1, ← HB.out.1, HJ.out.2.1]
                          rw [← habs] at hR
                          have HN := Lib.hid hR
                          have hqq : q ≤ 140737488355308 := by omega
                          clear hR habs hP hG hlt hk
                          go_wp2_with fail
                          go_roundw
                          case rel => exact ⟨j + 1, q + 64, HJ.out.1, by have := HJ.out.2.1; omega, by go_num, HN.out⟩
                          case measure => simp [intOf]; omega
            · obtain rfl : j = nb := by omega
              obtain ⟨s, hs⟩ : ∃ s, s = absN j kStart ps := ⟨_, rfl⟩
              have hsum : sumF bs = outF s := by rw [hs]; exact HP.out.2.1
              rw [← hs] at hR
              have hqn : ¬ (q : Int) < (n' : Int) := by have := HP.out.1; omega
              generalize wr = wv at *
              have HR := Lib.hid (And.intro hR hsum)
              have hz := Blk_new wv (List.replicate 32 (B 0)) 28
              have hbz := (Below.refl wv.heap.size wv).alloc (Nat.le_refl _) (.cells (List.replicate 32 (B 0)).toArray 28)
              have hol := outF_length s
              have HO := Lib.hid hol
              clear hR hsum hs hlt hq hj hol
              go_wp2_with fail
              go_loopw [22] (fun v22 wx => OutInv wv (outF s) v22 wx) (fun v22 _ => 32 - (intOf v22).toNat)
              case atStart => exact ⟨0, Nat.zero_le _, rfl, by rw [show (outK (outF s) 0).map B = List.replicate 32 (B 0) from out_zero (outF s)]; exact hz, hbz⟩
              clear hz hbz
              case round =>
                obtain ⟨k, hk, rfl, hV, hB⟩ := hrel
                by_cases hlt : k < 32
                · obtain ⟨t, i, ht, hi, hti⟩ : ∃ t i, t < 8 ∧ i < 4 ∧ k = 4 * t + i := ⟨k / 4, k % 4, by omega, by omega, by omega⟩
                  obtain ⟨x, hx, hxo⟩ := out_word s t ht
                  have hcell : wr.cell? ⟨gk + 1, t, none⟩ = some (U x) := (HR.out.1.hb.below hB).cellD t _ (by rw [List.getElem?_map, hx]; rfl)
                  have hv := be32_val x i hi
                  have hoe := hxo i hi
                  rw [← hti] at hoe
                  generalize (be32 x)[i]'(by rw [be32_length]; exact hi) = y at *
                  have hset := hV.set k (B y)
                  rw [out_set (outF s) k y HO.out hlt hoe] at hset
                  obtain ⟨v2, hv2⟩ : ∃ v, wr.cell? ⟨wv.heap.size, k, none⟩ = some v := ⟨_, hV.cell k (by rw [List.length_map, out_len _ _ HO.out hk]; exact hlt)⟩
                  have hf2 := hV.frozen k
                  have hB' := hB.setCell (p := ⟨wv.heap.size, k, none⟩) (Nat.le_refl _) (B y)
                  have H11 := Lib.hid (And.intro hset (And.intro hB' hlt))
                  have hk32 : (k : Int) < 32 := by omega
                  have e1 : (k : Int) / 4 = (t : Int) := by omega
                  have e2 : (k : Int) % 4 = (i : Int) := by omega
                  have ht8 : (t : Int) < 8 := by omega
                  have hi4 : (i : Int) < 4 := by omega
                  have s1 : (0 : Int) ≤ 24 - 8 * (i : Int) := by omega
                  have s2 : (24 - 8 * (i : Int)).toNat = 24 - 8 * i := by omega
                  have s6 : IntKind.u64.wrap (24 - 8 * (i : Int)) = 24 - 8 * (i : Int) := by
                    simp only [IntKind.wrap, IntKind.bits, IntKind.signed, Bool.false_and, Bool.false_eq_true, if_false]
                    omega
                  clear hset hB' hlt hx hxo hoe hV hB hk hti ht hi
                  go_wp2_with fail
                  go_roundw
                  case rel => exact ⟨k + 1, H11.out.2.2, by go_num, H11.out.1, H11.out.2.1⟩
                  case measure => have := H11.out.2.2; simp [intOf]; omega
                · obtain rfl : k = 32 := by omega
                  rw [out_full (outF s) HO.out] at hV
                  rw [show IJ 32 = Value.int .i64 32 from rfl]
                  have hrb := HR.out.1.rb.below hB
                  have HE := Lib.hid (And.intro hV (below_then HR.out.1.bl HR.out.1.bl.size hB))
                  have HLL := Lib.hid (show (some 32 : Option Nat) = some ((outF s).map B).length by rw [List.length_map, HO.out])
                  clear hV hB hlt hk
                  go_wp2_with (first
                    | (refine wpList_load_blk rfl 28 (.tmp 21) rfl wv.heap.size rfl 28 ((outF s).map B) _ HE.out.1 Tryd.underlying28 rfl (Eq.trans (by kernel_rfl) HLL.out) ?_)
                    | (refine wpList_store_blk rfl 28 (.tmp 2) (.tmp 253) rfl w.heap.size ((outF s).map B) rfl rfl 28 _ hrb (Eq.trans (by kernel_rfl) HLL.out) (by rw [List.length_map, HO.out, List.length_replicate]) one_bytes ?_; intro w12 hw12 hg12))
                  refine bodyPost_ret (results_blk rfl _ _ w.heap.size 28 ((outF s).map B) _ rfl hw12 Tryd.underlying28 rfl (Eq.trans (by kernel_rfl) HLL.out)) rfl ⟨by rw [HR.out.2], ?_⟩
                  exact HE.out.2.grown hg12 HE.out.2.size (fun k e => by injection e with e; omega)
#print axioms refsum_any
end Go.Proofs.YtcgdojdiihdkeaaDoor
