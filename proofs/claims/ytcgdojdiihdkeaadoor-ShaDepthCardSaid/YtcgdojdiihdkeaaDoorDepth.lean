/- ShaDepth: the walk. -/
import Derived.Test.YtcgdojdiihdkeaaDoorProves
namespace Go.Proofs.YtcgdojdiihdkeaaDoor
open Go Go.RowKit Go.Isth

set_option maxRecDepth 100000 in
theorem depth_far (A : Option Addr) (c n : Nat) (w : World) (hn : 60 < n) (ht : TabLaid w) :
    Calls Tryd.prog 8 #[.slice A n c] w fun e w' => e = .returned (.bool true) ∧ Below w.heap.size w w' := by
  have HT := Lib.hid ht
  have h1 : (60 : Int) < (n : Int) := by omega
  clear ht hn
  go_enter Tryd.func8, Tryd.ntmps8
  go_wp2_with fail
  refine (sure01_any w HT.out).mono ?_
  rintro e w1 ⟨rfl, hb1⟩
  have H1 := Lib.hid hb1
  clear hb1
  go_wp2
  go_ret
  exact ⟨rfl, H1.out⟩

def MostInv (w : World) (v3 v4 : Value) (wr : World) : Prop := ∃ m : Nat, v3 = .int .i64 m ∧ v4 = .int .i64 (2 ^ m : Nat) ∧ 2 ^ m ≤ 120 ∧ m ≤ 7 ∧ wr = w
def DepthInv (n : Nat) (w : World) (v5 : Value) (wr : World) : Prop := ∃ i : Nat, v5 = .int .i64 i ∧ i ≤ n ∧ Below w.heap.size w wr
set_option maxRecDepth 100000 in
set_option maxHeartbeats 4000000 in
theorem depth_near (A : Option Addr) (n : Nat) (c : Nat) (l : List (List UInt8)) (w : World) (hl : l.length = n) (hb : n ≤ 60) (hc : n ≤ c) (h32 : All32 l) (hr : Rd w A (cellsH l)) (ht : TabLaid w) :
    Calls Tryd.prog 8 #[.slice A n c] w fun e w' => e = .returned (.bool true) ∧ Below w.heap.size w w' := by
  have HT := Lib.hid (And.intro hl (And.intro hb (And.intro hc (And.intro h32 (And.intro hr ht)))))
  have hn2 : ¬ (60 : Int) < (n : Int) := by omega
  clear hl hb hc h32 hr ht
  go_enter Tryd.func8, Tryd.ntmps8
  go_wp2_with fail
  clear hn2
  go_loopw [3, 4] (fun v3 v4 wr => MostInv w v3 v4 wr) (fun _ v4 _ => 1000 - (intOf v4).toNat)
  case atStart => exact ⟨0, rfl, rfl, by decide, by decide, rfl⟩
  case round =>
    obtain ⟨m, rfl, rfl, hm, hm7, hw⟩ := hrel
    obtain rfl : w = wr := hw.symm
    generalize hpow : 2 ^ m = q at *
    have HM := Lib.hid (And.intro hm (And.intro hm7 hpow))
    have hq0 : 0 < q := by rw [← hpow]; exact Nat.pow_pos (by decide)
    by_cases hlt : q < n
    · have hli : (q : Int) < (n : Int) := by omega
      have h64 : wrap64 (2 * (q : Int)) = ((2 * q : Nat) : Int) := by rw [IntWalk.wrap64_in _ ⟨by omega, by omega⟩]; omega
      have h65 : wrap64 ((m : Int) + 1) = ((m + 1 : Nat) : Int) := by rw [IntWalk.wrap64_in _ ⟨by omega, by omega⟩]; omega
      have HQ := Lib.hid (And.intro hq0 hlt)
      clear hm hm7 hpow hq0 hlt
      go_wp2_with fail
      go_roundw
      case rel =>
        have h7 : m + 1 ≤ 7 := by
          rcases Nat.lt_or_ge m 7 with h | h
          · omega
          · have h2 : 2 ^ 7 ≤ 2 ^ m := Nat.pow_le_pow_right (by decide) h
            have := HM.out; have := HQ.out; have := HT.out; omega
        exact ⟨m + 1, by rw [h65], by rw [h64, Nat.pow_succ, HM.out.2.2, Nat.mul_comm], by rw [Nat.pow_succ, HM.out.2.2]; have := HQ.out; have := HT.out; omega, h7, rfl⟩
      case measure => rw [h64]; show 1000 - ((2 * q : Nat) : Int).toNat < 1000 - ((q : Nat) : Int).toNat; have := HQ.out; have := HT.out; omega
    · have hli : ¬ (q : Int) < (n : Int) := by omega
      have HQ := Lib.hid hlt
      clear hm hm7 hpow hq0 hlt hw
      go_wp2_with fail
      go_loopw [5] (fun v5 wr => DepthInv n w v5 wr) (fun v5 _ => n - (intOf v5).toNat)
      case atStart => exact ⟨0, rfl, Nat.zero_le _, Below.refl _ _⟩
      case round =>
        obtain ⟨i, rfl, hi, hB⟩ := hrel
        by_cases hin : i < n
        · have hii : (i : Int) < (n : Int) := by omega
          obtain ⟨b, o, rfl⟩ := rdH_some HT.out.2.2.2.2.1 HT.out.2.2.2.1 (by have := HT.out.1; omega)
          obtain ⟨x, hx⟩ : ∃ x, l[i]? = some x := ⟨_, List.getElem?_eq_getElem (by have := HT.out.1; omega)⟩
          have HI := Lib.hid (And.intro hin (And.intro hB hx))
          clear hi hin hB hx
          go_wp2_with fail
          refine (path_any n _ c l i wr HT.out.1 HT.out.2.2.1 (by have := HT.out.2.1; omega) HI.out.1 HT.out.2.2.2.1 (HT.out.2.2.2.2.1.below HI.out.2.1) (HT.out.2.2.2.2.2.below HI.out.2.1 HT.out.2.2.2.2.2.lt)).mono ?_
          rintro e w3 ⟨v3, rfl, ho3, hb3⟩
          obtain ⟨A3, c3, rfl, hfit, hrd, _, _⟩ := own_slice ho3
          have hpl := path_len l i (by have := HT.out.1; have := HI.out.1; omega)
          rw [HT.out.1] at hpl
          have hp32 := pathH_32 n l i HT.out.1 HT.out.2.2.2.1
          have hfx := fold_back l i x HI.out.2.2
          rw [HT.out.1] at hfx
          have hx32 := HT.out.2.2.2.1 x (List.mem_of_getElem? HI.out.2.2)
          have hdep : (pathH l i).length ≤ m := by
            rw [hpl]
            exact turns_depth m n i (by rw [HM.out.2.2]; have := HQ.out; omega) (by have := HT.out; omega)
          generalize hps : pathH l i = ps at *
          have HB3 := Lib.hid (And.intro (below_then HI.out.2.1 HI.out.2.1.size hb3) (And.intro hfit (And.intro hrd (And.intro hpl (And.intro hp32 (And.intro hfx (And.intro hx32 hdep)))))))
          have HLD := Lib.hid (load_hash (P := Tryd.prog) Tryd.underlying28 rfl (by kernel_rfl) (HT.out.2.2.2.2.1.below HB3.out.1) HT.out.2.2.2.1 HI.out.2.2)
          clear ho3 hb3 hfit hrd hpl hp32 hfx hx32 hps hdep
          go_wp2_with (refine wpList_load rfl (.tmp 37) rfl _ _ rfl HLD.out ?_)
          refine (fold_any x i n A3 c3 ps w3 HB3.out.2.2.2.2.2.2.1 HI.out.1 (by have := HT.out.2.1; omega) HB3.out.2.2.2.1 HB3.out.2.1 HB3.out.2.2.2.2.1 HB3.out.2.2.1 (HT.out.2.2.2.2.2.below HB3.out.1 HT.out.2.2.2.2.2.lt)).mono ?_
          rintro e w4 ⟨rfl, hb4⟩
          rw [HB3.out.2.2.2.2.2.1]
          have HB4 := Lib.hid (below_then HB3.out.1 HB3.out.1.size hb4)
          have hR32 := rootH_length l HT.out.2.2.2.1
          generalize hroot : rootH l = root at *
          have HRT := Lib.hid (And.intro hroot hR32)
          have HL1 := Lib.hid (show (some 32 : Option Nat) = some (root.map B).length by rw [List.length_map, hR32])
          clear hb4 hroot hR32
          go_wp2_with (refine wpList_store_blk rfl 28 (.tmp 8) (.tmp 44) rfl w4.heap.size (root.map B) rfl rfl 28 _ (heap_alloc_new w4 _) (Eq.trans (by kernel_rfl) HL1.out) (by rw [List.length_map, HRT.out.2]; rfl) one_bytes ?_; intro w5 hw5 hg5
                       have hb5 : Below w4.heap.size w4 w5 := ((Below.refl w4.heap.size w4).alloc (Nat.le_refl _) _).grown hg5 (by simp) (fun r e => by injection e with e; omega)
                       have HB5 := Lib.hid (And.intro hw5 (below_then HB4.out HB4.out.size hb5))
                       clear hw5 hg5 hb5)
          obtain ⟨csr, hcr⟩ : ∃ cs, cs = root.map B := ⟨_, rfl⟩
          have hlr : csr.length = 32 := by rw [hcr, List.length_map]; exact HRT.out.2
          have hir : (Tryd.prog.info? 28).map (·.size) = some csr.length := by rw [hlr]; kernel_rfl
          have hu28 := Tryd.underlying28
          have hgt : decide (m < ps.length) = false := by have := HB3.out.2.2.2.2.2.2.2; simp; omega
          have hgi : decide ((m : Int) < (ps.length : Int)) = false := by have := HB3.out.2.2.2.2.2.2.2; simp; omega
          have hneq : ∀ wx, (binOp .neq 28 (.agg csr.toArray) (.agg csr.toArray)).run Tryd.prog wx = .ok (.bool false) wx := by
            rw [hcr]
            intro wx
            have h := run_neq_bytes aHash wx root root HRT.out.2 HRT.out.2
            simpa using h
          have HTS : Hid (∀ w', Blk w' w4.heap.size 28 (root.map B) → w'.rangeAt w4.heap.size 0 csr) := Lib.hid (fun w' hr => by rw [hcr]; intro j v hv; rw [Nat.zero_add]; exact hr.cellD j v hv)
          have HCR := Lib.hid hcr
          clear hcr
          go_region_held3 (fun w' => w'.rangeAt w4.heap.size 0 csr)
            (first | exact HTS.out _ HB5.out.1.drew | exact HTS.out _ H8.out.1)
            (first
              | (go_at_call 27; refine (root_any n _ c l _ HT.out.1 HT.out.2.2.1 (by have := HT.out.2.1; omega) HT.out.2.2.2.1 (HT.out.2.2.2.2.1.below (below_drewN HB5.out.2 1)) (HT.out.2.2.2.2.2.below (below_drewN HB5.out.2 1) HT.out.2.2.2.2.2.lt)).mono ?_; rintro e w8 ⟨rfl, hb8⟩; rw [HRT.out.1, show HV root = Value.agg csr.toArray by rw [HCR.out]]; have H8 := Lib.hid (And.intro (HB5.out.1.drew.below hb8) (below_then (below_drewN HB5.out.2 1) (below_drewN HB5.out.2 1).size hb8)); clear hb8))
          have hi1 : wrap64 ((i : Int) + 1) = ((i + 1 : Nat) : Int) := by have := HT.out; have := HI.out; rw [IntWalk.wrap64_in _ ⟨by omega, by omega⟩]; omega
          go_wp2_with fail
          go_roundw
          case rel => exact ⟨i + 1, by rw [hi1], HI.out.1, H8.out.2⟩
          case measure => rw [hi1]; show n - ((i + 1 : Nat) : Int).toNat < n - ((i : Nat) : Int).toNat; have := HI.out.1; omega
        · have hii : ¬ (i : Int) < (n : Int) := by omega
          have HI := Lib.hid hB
          clear hi hin hB
          go_wp2_with fail
          refine (sure01_any _ (HT.out.2.2.2.2.2.below HI.out HT.out.2.2.2.2.2.lt)).mono ?_
          rintro e w8 ⟨rfl, hb8⟩
          have H8 := Lib.hid (below_then HI.out HI.out.size hb8)
          clear hb8
          go_wp2
          go_ret
          exact ⟨rfl, H8.out⟩
#print axioms depth_near
theorem depth_any (A : Option Addr) (c : Nat) (l : List (List UInt8)) (w : World) (hc : l.length ≤ c) (hr : Rd w A (cellsH l)) (h32 : All32 l) (ht : TabLaid w) :
    Calls Tryd.prog 8 #[.slice A l.length c] w fun e w' => e = .returned (.bool true) ∧ Below w.heap.size w w' := by
  by_cases h : 60 < l.length
  · exact depth_far A c l.length w h ht
  · exact depth_near A l.length c l w rfl (by omega) hc h32 hr ht
end Go.Proofs.YtcgdojdiihdkeaaDoor
