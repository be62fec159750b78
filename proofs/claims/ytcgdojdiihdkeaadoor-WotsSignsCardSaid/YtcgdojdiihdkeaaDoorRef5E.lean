/- Layer 5's reference: From by its contracts. -/
import Derived.Test.YtcgdojdiihdkeaaDoorRef5D
import Derived.Test.YtcgdojdiihdkeaaDoorStepApp
namespace Go.Proofs.YtcgdojdiihdkeaaDoor
open Go Go.RowKit Go.Isth

set_option maxRecDepth 100000 in
set_option maxHeartbeats 1000000 in
theorem rfrom_no (As Ad : Option Addr) (m cs n cd : Nat) (leaf : Int) (w : World) (h : Bad05 leaf n) :
    Calls Tryd.prog 37 #[.slice As m cs, .int .i64 leaf, .slice Ad n cd] w fun e w' => e = .returned (.tuple #[HV Z32, I 1]) ∧ Below w.heap.size w w' := by
  have HT := Lib.hid h
  clear h
  go_enter Tryd.func37, Tryd.ntmps37
  have hz2 := Blk_new w (List.replicate 32 (B 0)) 28
  have hb0 := (Below.refl w.heap.size w).alloc (Nat.le_refl _) (.cells (List.replicate 32 (B 0)).toArray 28)
  go_upto_region 1 with fail
  change Code.wp _ _ _ _ (w.alloc (.cells (List.replicate 32 (B 0)).toArray 28))
  generalize w.alloc (.cells (List.replicate 32 (B 0)).toArray 28) = w0 at *
  go_wp2_with (first
    | (go_at_call 70; refine (rcheck_no leaf n _ HT.out).mono ?_; rintro e w1 ⟨rfl, rfl⟩)
    | (refine wpList_store_blk rfl 28 (.tmp 6) (.tmp 17) rfl w.heap.size (List.replicate 32 (B 0)) rfl rfl 28 _ hz2 (by kernel_rfl) rfl (by decide) ?_; intro w2 hw2 hg2))
  refine bodyPost_ret (results_two rfl _ _ w.heap.size 28 (Z32.map B) _ rfl hw2 Tryd.underlying28 rfl (by kernel_rfl)) rfl ⟨rfl, ?_⟩
  exact hb0.grown hg2 hb0.size (fun k e => by injection e with e; omega)
set_option maxRecDepth 100000 in
set_option maxHeartbeats 1000000 in
theorem rfrom_long (As Ad : Option Addr) (m cs cd leaf : Nat) (d : List UInt8) (w : World) (hl : leaf < 1024) (h1 : 1 ≤ d.length) (h2 : d.length ≤ 32) (hm : m ≠ 32 * (2 * d.length + 3)) (hrd : Rd w Ad (d.map B)) :
    Calls Tryd.prog 37 #[.slice As m cs, .int .i64 leaf, .slice Ad d.length cd] w fun e w' => e = .returned (.tuple #[HV Z32, I 2]) ∧ Below w.heap.size w w' := by
  have HT := Lib.hid (And.intro hl (And.intro h1 (And.intro h2 (And.intro hm hrd))))
  clear hl h1 h2 hm hrd
  go_enter Tryd.func37, Tryd.ntmps37
  have hz2 := Blk_new w (List.replicate 32 (B 0)) 28
  have hb0 := (Below.refl w.heap.size w).alloc (Nat.le_refl _) (.cells (List.replicate 32 (B 0)).toArray 28)
  go_upto_region 1 with fail
  change Code.wp _ _ _ _ (w.alloc (.cells (List.replicate 32 (B 0)).toArray 28))
  generalize w.alloc (.cells (List.replicate 32 (B 0)).toArray 28) = w0 at *
  go_wp2_with (go_at_call 70; refine (rcheck_yes leaf d.length _ (by omega) (by have := HT.out; omega) (by have := HT.out; omega) (by have := HT.out; omega)).mono ?_; rintro e w1 ⟨rfl, rfl⟩)
  refine (rdigits_any Ad cd d w0 (by have := HT.out; omega) (by have := HT.out; omega) (HT.out.2.2.2.2.below hb0)).mono ?_
  rintro e w1 ⟨v1, rfl, ho1, hb1⟩
  have hdl := digitsW_length d
  obtain ⟨N, hN⟩ : ∃ N, N = 2 * d.length + 3 := ⟨_, rfl⟩
  rw [← hN] at hdl
  rw [hdl] at ho1
  obtain ⟨A1, c1, rfl, _, _, _⟩ := own_slice ho1
  have hN67 : N ≤ 67 := by have h1 := HT.out; omega
  have hne : ((m : Int) != 32 * (N : Int)) = true := by have h1 := HT.out; simp; omega
  have hz1 := hz2.below hb1
  have H1 := Lib.hid (below_then hb0 hb0.size hb1)
  clear ho1 hz2 hb0 hb1 hdl hN
  go_wp2_with (refine wpList_store_blk rfl 28 (.tmp 6) (.tmp 26) rfl w.heap.size (List.replicate 32 (B 0)) rfl rfl 28 _ hz1 (by kernel_rfl) rfl (by decide) ?_; intro w2 hw2 hg2)
  refine bodyPost_ret (results_two rfl _ _ w.heap.size 28 (Z32.map B) _ rfl hw2 Tryd.underlying28 rfl (by kernel_rfl)) rfl ⟨rfl, ?_⟩
  exact H1.out.grown hg2 H1.out.size (fun k e => by injection e with e; omega)
def RFromInv (w1 : World) (sign : List UInt8) (leaf N : Nat) (places : List Nat) (v9 v10 : Value) (wr : World) : Prop :=
  ∃ (k : Nat) (A : Option Addr) (n c : Nat), k ≤ N ∧ v10 = I k ∧ v9 = .slice A n c ∧ n = 32 * k ∧ Rd wr A ((fromN sign leaf places k).map B) ∧ Below w1.heap.size w1 wr
set_option maxRecDepth 100000 in
set_option maxHeartbeats 2000000 in
theorem rfrom_yes (As Ad : Option Addr) (cs cd m leaf : Nat) (sign d : List UInt8) (w : World) (hl : leaf < 1024) (h1 : 1 ≤ d.length) (h2 : d.length ≤ 32) (hm : m = 32 * (2 * d.length + 3)) (hsl : sign.length = m) (hcs : m ≤ cs) (hrs : Rd w As (sign.map B)) (hrd : Rd w Ad (d.map B)) :
    Calls Tryd.prog 37 #[.slice As m cs, .int .i64 leaf, .slice Ad d.length cd] w fun e w' => e = .returned (.tuple #[HV (fromF sign leaf d), I 0]) ∧ Below w.heap.size w w' := by
  have HT := Lib.hid (And.intro hl (And.intro h1 (And.intro h2 (And.intro hm (And.intro hsl (And.intro hcs (And.intro hrs hrd)))))))
  clear hl h1 h2 hm hsl hcs hrs hrd
  go_enter Tryd.func37, Tryd.ntmps37
  go_wp2_with (go_at_call 70; refine (rcheck_yes leaf d.length _ (by omega) (by have := HT.out; omega) (by have := HT.out; omega) (by have := HT.out; omega)).mono ?_; rintro e w1 ⟨rfl, rfl⟩)
  have hz0 := Blk_new w (List.replicate 32 (B 0)) 28
  have hb0 := (Below.refl w.heap.size w).alloc (Nat.le_refl _) (.cells (List.replicate 32 (B 0)).toArray 28)
  change Calls _ _ _ (w.alloc (.cells (List.replicate 32 (B 0)).toArray 28)) _
  generalize w.alloc (.cells (List.replicate 32 (B 0)).toArray 28) = w0 at *
  refine (rdigits_any Ad cd d w0 (by have := HT.out; omega) (by have := HT.out; omega) (HT.out.2.2.2.2.2.2.2.below hb0)).mono ?_
  rintro e w1 ⟨v1, rfl, ho1, hb1⟩
  have hdl := digitsW_length d
  have h15 := digitsW_le d
  have hff : fromF sign leaf d = leafF (fromN sign leaf (digitsW d) (2 * d.length + 3)) := rfl
  obtain ⟨N, hN⟩ : ∃ N, N = 2 * d.length + 3 := ⟨_, rfl⟩
  rw [← hN] at hdl hff
  rw [hdl] at ho1
  obtain ⟨A1, c1, rfl, _, hrd1, _⟩ := own_slice ho1
  generalize digitsW d = places at *
  have hB1 := below_then hb0 hb0.size hb1
  have hz1 := hz0.below hb1
  have H1 := Lib.hid (And.intro hB1 (And.intro hz1 (And.intro hrd1 (And.intro hdl (And.intro hff (And.intro h15 (show N = 2 * d.length + 3 ∧ sign.length = 32 * N ∧ N ≤ 67 by have := HT.out; omega)))))))
  have hN67 : N ≤ 67 := H1.out.2.2.2.2.2.2.2.2
  have heq : ((m : Int) != 32 * (N : Int)) = false := by have h1 := HT.out; have h2 := H1.out.2.2.2.2.2.2; simp; omega
  clear hb0 hb1 hz0 hz1 hB1 ho1 hrd1 hdl hff h15
  clear hN
  go_wp2_with fail
  go_loopw [9, 10] (fun v9 v10 wr => RFromInv w1 sign leaf N places v9 v10 wr) (fun _ v10 _ => N - (intOf v10).toNat)
  case atStart => exact ⟨0, none, 0, 0, Nat.zero_le _, rfl, rfl, rfl, by simpa [fromN] using Rd.nil _ _, Below.refl _ _⟩
  case round =>
    obtain ⟨k, A9, n9, c9, hk, rfl, rfl, hn9, hr9, hB⟩ := hrel
    by_cases hlt : k < N
    · obtain ⟨p, hp⟩ : ∃ p, places[k]? = some p := ⟨_, List.getElem?_eq_getElem (by rw [H1.out.2.2.2.1]; exact hlt)⟩
      obtain ⟨b, o, rfl, hb, hcell⟩ := H1.out.2.2.1.at_ (by rw [List.length_map, H1.out.2.2.2.1]; omega)
      have HCELL : Hid (∀ wx, Below wr.heap.size wr wx → wx.cell? ⟨b, o + k, none⟩ = some (I p)) := Lib.hid (fun wx hx => by
        have h := hcell k (by rw [List.length_map, H1.out.2.2.2.1]; exact hlt)
        rw [(below_then hB hB.size hx).cell (p := ⟨b, o + k, none⟩) hb, h]
        have := (List.getElem?_eq_some_iff.1 hp).2
        simp [this])
      obtain ⟨x, hx⟩ : ∃ x, (sign.drop (32 * k)).take 32 = x := ⟨_, rfl⟩
      have hxl : x.length = 32 := by rw [← hx]; have := H1.out.2.2.2.2.2.2; simp; omega
      have hch : fromN sign leaf places (k + 1) = fromN sign leaf places k ++ stepF leaf k p 15 x := by
        rw [fromN, List.getD_eq_getElem?_getD, hp, hx]; rfl
      have hcln := fromN_length sign leaf places k (by have := H1.out.2.2.2.2.2.2; omega)
      obtain ⟨bs, os, rfl, hbs, hcells⟩ := HT.out.2.2.2.2.2.2.1.at_ (by rw [List.length_map]; have := H1.out.2.2.2.2.2.2; omega)
      obtain ⟨sl, hsl⟩ : ∃ sl, m - 32 * k = sl := ⟨_, rfl⟩
      have hcut : ∀ wx, (Instr.slice 22 (.slice (some ⟨bs, os, none⟩) m cs) (some (.int .i64 (32 * (k : Int)))) none none).run Tryd.prog wx = .ok (.slice (some ⟨bs, os + 32 * k, none⟩) sl (cs - 32 * k)) wx := by
        intro wx
        have h := run_cut_from tBs (some ⟨bs, os, none⟩) m cs (32 * (k : Int)) (by omega) (by have := HT.out; have := H1.out.2.2.2.2.2.2; omega) wx
        rw [show (32 * (k : Int)).toNat = 32 * k by omega, hsl] at h
        rw [h]
        unfold cutA
        rw [if_neg (by have := HT.out; have := H1.out.2.2.2.2.2.2; omega), Option.map_some, add_plain, Nat.mul_one]
      have hrx : ∀ wx, Below w1.heap.size w1 wx → Rd wx (some ⟨bs, os + 32 * k, none⟩) (x.map B) := by
        intro wx hwx _
        refine ⟨bs, os + 32 * k, rfl, fun j u hj => ?_⟩
        have hr2 := (HT.out.2.2.2.2.2.2.1.below H1.out.1).below hwx
        obtain ⟨b', o', e', hc'⟩ := hr2 (by rw [List.length_map]; have := H1.out.2.2.2.2.2.2; omega)
        injection e' with e'
        injection e' with e1 e2
        subst e1; subst e2
        rw [Nat.add_assoc]
        refine hc' (32 * k + j) u ?_
        rw [← hx, List.map_take, List.getElem?_take, List.map_drop, List.getElem?_drop] at hj
        split at hj
        · exact hj
        · cases hj
      have HMN := Lib.hid (show (x.map B).length = Nat.min sl 32 ∧ 0 + (x.map B).length ≤ (List.replicate 32 (B 0)).length by
        rw [List.length_map, hxl, List.length_replicate]; have := HT.out; have := H1.out.2.2.2.2.2.2; exact ⟨by show 32 = min sl 32; omega, by omega⟩)
      have hz := Blk_new wr (List.replicate 32 (B 0)) 28
      have hbz := (Below.refl wr.heap.size wr).alloc (Nat.le_refl _) (.cells (List.replicate 32 (B 0)).toArray 28)
      have HS := Lib.hid (And.intro hr9 (And.intro hB (And.intro hch (And.intro hcln hn9))))
      have HX := Lib.hid (And.intro hxl hrx)
      clear hsl hr9 hB hch hcln hn9 hxl hrx hp hcell hb hx hbs hcells
      have hw32 := IntWalk.i64_in (32 * (k : Int)) (by omega)
      go_upto_region 11 with fail
      change Code.wp _ _ _ _ (wr.alloc (.cells (List.replicate 32 (B 0)).toArray 28))
      generalize wr.alloc (.cells (List.replicate 32 (B 0)).toArray 28) = w2 at *
      have H2 := Lib.hid (And.intro hz.drew (And.intro hbz (HX.out.2 w2.drew (below_then HS.out.2.1 HS.out.2.1.size hbz).drew)))
      clear hz hbz
      go_region_law (refine step_copy_blk rfl (.tmp 33) (.tmp 37) 22 22 rfl 5 Tryd.underlying22 (by kernel_rfl) wr.heap.size 0 32 32 sl (cs - 32 * k) (some ⟨bs, os + 32 * k, none⟩) rfl rfl 28 (List.replicate 32 (B 0)) H2.out.1 (x.map B) HMN.out.1 H2.out.2.2 HMN.out.2 one_bytes ?_; intro w3 hw3 hg3)
      have hsp : splice (List.replicate 32 (B 0)) 0 (x.map B) = x.map B := by simp [splice, HX.out.1]
      rw [hsp] at hw3
      have hb3 : Below wr.heap.size wr w3 := (below_then H2.out.2.1 H2.out.2.1.size (Below.refl _ _).drew).grown hg3 (by have := H2.out.2.1.size; exact this) (fun r e => by injection e with e; omega)
      obtain ⟨csx, hcsx⟩ : ∃ cs, cs = x.map B := ⟨_, rfl⟩
      rw [← hcsx] at hw3
      have H3 := Lib.hid (And.intro hw3 hb3)
      have HC3 := Lib.hid (HCELL.out _ hb3.drew)
      have hxc : csx.length = 32 := by rw [hcsx, List.length_map]; exact HX.out.1
      have hi28 : (Tryd.prog.info? 28).map (·.size) = some csx.length := by rw [hxc]; kernel_rfl
      have hu28 := Tryd.underlying28
      have HCS := Lib.hid hcsx
      have HRG : Hid (∀ w', Blk w' wr.heap.size 28 csx → w'.rangeAt wr.heap.size 0 csx) := Lib.hid (fun w' hr j v hv => by rw [Nat.zero_add]; exact hr.cellD j v hv)
      clear hw3 hg3 hb3 hcsx hsp hw32 hcut hxc
      have hkN : (k : Int) < 67 := by omega
      go_wp2_with fail
      go_region_held3 (fun w' => w'.cell? ⟨b, o + k, none⟩ = some (I p) ∧ w'.rangeAt wr.heap.size 0 csx)
        (first | exact ⟨HC3.out, HRG.out _ H3.out.1.drew⟩ | exact ⟨HCELL.out _ H4.out.2.1, HRG.out _ H4.out.2.2.1⟩ | exact ⟨HCELL.out _ H5.out.2.1, HRG.out _ H5.out.2.2⟩)
        (first
          | (go_at_call 38; refine (rstep_any x csx leaf k p 15 leaf k w3.drew HCS.out HX.out.1 (u64_nat (by have := HT.out.1; omega)) (by have := HT.out.1; omega) (u64_nat (by omega)) (by omega)).mono ?_
             rintro e w4 ⟨cv, rfl, hcv, hcl, hb4⟩
             have H4 := Lib.hid (And.intro hcv (And.intro (below_then H3.out.2.drew H3.out.2.drew.size hb4) (And.intro (H3.out.1.drew.below hb4) (And.intro hb4 hcl))))
             clear hcv hcl hb4)
          | (go_at_call 71; refine (rhash_to A9 c9 n9 (fromN sign leaf places k) (stepF leaf k (p : Int).toNat (Int.toNat 15) x) cv w4 (by have := HS.out.2.2.2; omega) H4.out.1 (stepF_length _ _ _ _ _ HX.out.1) (HS.out.1.below H4.out.2.1) (by have := HS.out.2.2.2; omega)).mono ?_
             rintro e w5 ⟨A5, N5, c5, d5, rfl, hd5, hN5, hr5, hb5⟩
             have H5 := Lib.hid (And.intro (And.intro hd5 (And.intro hN5 hr5)) (And.intro (below_then H4.out.2.1 H4.out.2.1.size hb5) (H4.out.2.2.1.below hb5)))
             clear hd5 hN5 hr5 hb5))
      go_wp2_with fail
      go_roundw
      case rel =>
        have e : d5 = fromN sign leaf places (k + 1) := by rw [HS.out.2.2.1, H5.out.1.1]; rfl
        refine ⟨k + 1, _, _, _, hlt, by go_num, rfl, ?_, ?_, below_then HS.out.2.1 HS.out.2.1.size H5.out.2.1⟩
        · rw [H5.out.1.2.1, H5.out.1.1, List.length_append, stepF_length _ _ _ _ _ HX.out.1]; have := HS.out.2.2.2; omega
        · rw [← e]; exact H5.out.1.2.2
      case measure => simp [intOf]; omega
    · obtain rfl : k = N := by omega
      have hcln := fromN_length sign leaf places k (by have := H1.out.2.2.2.2.2.2; omega)
      have hff := H1.out.2.2.2.2.1
      generalize fromN sign leaf places k = bs7 at *
      have hz7 := H1.out.2.1.below hB
      have HS := Lib.hid (And.intro (below_then H1.out.1 H1.out.1.size hB) (And.intro hr9 (And.intro hcln (And.intro hff (And.intro hz7 hn9)))))
      clear hr9 hB hcln hff hz7 hlt hn9
      go_wp2_with fail
      refine (rleaf_any A9 c9 n9 bs7 wr (by have := HS.out.2.2; omega) (by have := HS.out.2.2; omega) HS.out.2.1).mono ?_
      rintro e w5 ⟨cv, rfl, hcv, hcl, hb5⟩
      have hz5 := HS.out.2.2.2.2.1.below hb5
      have H5 := Lib.hid (And.intro (below_then HS.out.1 HS.out.1.size hb5) hcv)
      have HLL := Lib.hid (And.intro (show (some 32 : Option Nat) = some cv.length by rw [hcl]) hcl)
      have H1s := Lib.hid (show ∀ u ∈ cv, u.oneCell' = true by rw [hcv]; exact one_bytes)
      clear hb5 hcv hcl
      go_wp2_with (refine wpList_store_blk rfl 28 (.tmp 6) (.tmp 50) rfl w.heap.size cv rfl rfl 28 _ hz5 (Eq.trans (by kernel_rfl) HLL.out.1) (by rw [HLL.out.2, List.length_replicate]) H1s.out ?_; intro w6 hw6 hg6)
      refine bodyPost_ret (results_two rfl _ _ w.heap.size 28 cv _ rfl hw6 Tryd.underlying28 rfl (Eq.trans (by kernel_rfl) HLL.out.1)) rfl ⟨by rw [HS.out.2.2.2.1, H5.out.2]; rfl, ?_⟩
      exact H5.out.1.grown hg6 H5.out.1.size (fun k e => by injection e with e; omega)
end Go.Proofs.YtcgdojdiihdkeaaDoor
