/- Layer 1: half, Root by their contracts. -/
import Derived.Test.YtcgdojdiihdkeaaDoorTree
import Derived.Test.YtcgdojdiihdkeaaDoorHs
namespace Go.Proofs.YtcgdojdiihdkeaaDoor
open Go Go.RowKit Go.Isth

theorem half_bits {n : Nat} (h1 : 1 < n) (h2 : n ≤ 4611686018427387904) : ∃ e, Lib.bitLen (n - 1) = e + 1 ∧ e ≤ 63 ∧ halfN n = 2 ^ e := by
  have h3 := halfN_lt h1
  unfold halfN at *
  refine ⟨Lib.bitLen (n - 1) - 1, ?_, ?_, rfl⟩
  · have h4 := bitLenAux_high 64 (n - 1) (by omega)
    rcases Nat.eq_zero_or_pos (Lib.bitLen (n - 1)) with e | e
    · unfold Lib.bitLen at e; rw [e] at h4; simp at h4; omega
    · omega
  · have h5 : 2 ^ (Lib.bitLen (n - 1) - 1) < 2 ^ 63 := by omega
    have h6 := (Nat.pow_lt_pow_iff_right (by decide : 1 < 2)).1 h5
    omega
theorem half_any (n : Nat) (h1 : 1 < n) (h2 : n ≤ 4611686018427387904) (w : World) :
    Calls Tryd.prog 62 #[.int .i64 n] w fun e w' => e = .returned (.int .i64 (halfN n)) ∧ w' = w := by
  obtain ⟨e, he, hle, hh⟩ := half_bits h1 h2
  have hlt := halfN_lt h1
  have HE := Lib.hid (And.intro he (And.intro hle (And.intro hh hlt)))
  clear he hle hh hlt
  go_enter Tryd.func62, Tryd.ntmps62
  go_wp2_with fail
  refine (Tryd.bits_Len _ _ (by omega) (by omega)).mono ?_
  rintro e' w' ⟨rfl, rfl⟩
  rw [show ((n : Int) - 1).toNat = n - 1 by omega, HE.out.1]
  have k1 : ((e + 1 : Nat) : Int) - 1 = (e : Int) := by omega
  have k2 : IntKind.i64.wrap ((e : Nat) : Int) = (e : Int) := by rw [IntKind.wrap_i64]; have := HE.out; omega
  have k3 : ¬ ((e : Nat) : Int) < 0 := by omega
  have k4 : min e 64 = e := by have := HE.out; omega
  have k5 : IntKind.i64.wrap ((2 : Int) ^ e) = ((halfN n : Nat) : Int) := by
    have h : ((2 : Int) ^ e) = ((halfN n : Nat) : Int) := by rw [HE.out.2.2.1]; push_cast; rfl
    rw [h, IntKind.wrap_i64]; have := HE.out; omega
  go_wp2
  go_ret
  exact ⟨rfl, rfl⟩

theorem tHs : SlT Tryd.prog 52 28 (.agg (List.replicate 32 (B 0)).toArray) 32 32 := ⟨Tryd.underlying52, by kernel_rfl, rfl, by decide⟩
def rootH (l : List (List UInt8)) : List UInt8 := rootG nodeF (sumF []) l
theorem rootH_length (l : List (List UInt8)) (h : All32 l) : (rootH l).length = 32 := by
  unfold rootH
  by_cases h1 : 1 < l.length
  · rw [rootG_two h1]; exact nodeF_length _ _
  · rw [rootG_one h1]
    match l, h1 with
    | [], _ => exact sumF_length _
    | [a], _ => exact h a (by simp)
    | _ :: _ :: _, h1 => simp at h1
def RootCalls (n : Nat) : Prop := ∀ (A : Option Addr) (c : Nat) (l : List (List UInt8)) (w : World), l.length = n → n ≤ c → n ≤ 4611686018427387904 → All32 l → Rd w A (cellsH l) → TabLaid w →
    Calls Tryd.prog 27 #[.slice A n c] w fun e w' => e = .returned (HV (rootH l)) ∧ Below w.heap.size w w'
set_option maxRecDepth 100000 in
set_option maxHeartbeats 2000000 in
theorem root_any : ∀ n, RootCalls n := by
  intro n
  induction n using Nat.strongRecOn with
  | _ n ih =>
    intro A c l w hl hc hn h32 hr ht
    have HT := Lib.hid (And.intro hl (And.intro hc (And.intro hn (And.intro h32 (And.intro hr ht)))))
    have IH := Lib.hid ih
    clear hl hc hn h32 hr ht ih
    have hcase : (n = 0 ∨ n = 1) ∨ 1 < n := by omega
    rcases hcase with (rfl | rfl) | h1
    · have h0 := HT.out.1
      obtain rfl := List.eq_nil_of_length_eq_zero h0
      clear h0
      go_enter Tryd.func27, Tryd.ntmps27
      go_wp2_with fail
      have hb0 : Below w.heap.size w (w.alloc (.cells (List.replicate 32 (B 0)).toArray 28)) := (Below.refl _ _).alloc (Nat.le_refl _) _
      have hz0 := Blk_new w (List.replicate 32 (B 0)) 28
      refine (sum_to none 0 0 [] _ w rfl hb0 (by decide) (by decide) (Rd.nil _ _) HT.out.2.2.2.2.2).mono ?_
      rintro e w1 ⟨rfl, hb⟩
      have HB := Lib.hid (And.intro (below_then hb0 hb0.size hb) (hz0.below hb))
      clear hb hb0 hz0
      have HLL := Lib.hid (show (some 32 : Option Nat) = some ((sumF []).map B).length by rw [List.length_map, sumF_length])
      go_wp2_with (refine wpList_store_blk rfl 28 (.tmp 2) (.tmp 8) rfl w.heap.size ((sumF []).map B) rfl rfl 28 _ HB.out.2 (Eq.trans (by kernel_rfl) HLL.out) (by rw [List.length_map, sumF_length, List.length_replicate]) one_bytes ?_; intro w5 hw5 hg5)
      refine bodyPost_ret (results_blk rfl _ _ w.heap.size 28 ((sumF []).map B) _ rfl hw5 Tryd.underlying28 rfl (Eq.trans (by kernel_rfl) HLL.out)) rfl ⟨?_, ?_⟩
      · unfold rootH; rw [rootG_one (by simp)]; rfl
      · exact HB.out.1.grown hg5 HB.out.1.size (fun k e => by injection e with e; omega)
    · obtain ⟨x, rfl⟩ : ∃ x, l = [x] := by
        match l, HT.out.1 with
        | [x], _ => exact ⟨x, rfl⟩
      obtain ⟨b, o, rfl⟩ := rdH_some HT.out.2.2.2.2.1 HT.out.2.2.2.1 (by simp)
      have hx : x.length = 32 := HT.out.2.2.2.1 x (by simp)
      have hb0 : Below w.heap.size w (w.alloc (.cells (List.replicate 32 (B 0)).toArray 28)) := (Below.refl _ _).alloc (Nat.le_refl _) _
      have hz0 := Blk_new w (List.replicate 32 (B 0)) 28
      have hld := load_hash (P := Tryd.prog) Tryd.underlying28 rfl (by kernel_rfl) (k := 0) (x := x) (HT.out.2.2.2.2.1.below hb0) HT.out.2.2.2.1 rfl
      have HB := Lib.hid (And.intro hb0 (And.intro hz0 (And.intro hx hld)))
      rw [show o + 0 * 32 = o by omega] at hld
      have HLD := Lib.hid hld
      clear hb0 hz0 hx hld
      go_enter Tryd.func27, Tryd.ntmps27
      have HLL := Lib.hid (show (some 32 : Option Nat) = some (x.map B).length by rw [List.length_map, HB.out.2.2.1])
      go_wp2_with (first
        | refine wpList_load rfl (.tmp 12) rfl _ _ rfl HLD.out ?_
        | (refine wpList_store_blk rfl 28 (.tmp 2) (.tmp 13) rfl w.heap.size (x.map B) rfl rfl 28 _ HB.out.2.1 (Eq.trans (by kernel_rfl) HLL.out) (by rw [List.length_map, HB.out.2.2.1, List.length_replicate]) one_bytes ?_; intro w5 hw5 hg5))
      refine bodyPost_ret (results_blk rfl _ _ w.heap.size 28 (x.map B) _ rfl hw5 Tryd.underlying28 rfl (Eq.trans (by kernel_rfl) HLL.out)) rfl ⟨?_, ?_⟩
      · unfold rootH; rw [rootG_one (by simp)]; rfl
      · exact HB.out.1.grown hg5 HB.out.1.size (fun k e => by injection e with e; omega)
    · have hn0 : ((n : Int) == 0) = false := by simp; omega
      have hn1 : ((n : Int) == 1) = false := by simp; omega
      have HN := Lib.hid h1
      clear h1
      go_enter Tryd.func27, Tryd.ntmps27
      go_wp2_with (go_at_call 62; refine (half_any n HN.out HT.out.2.2.1 _).mono ?_; rintro e w' ⟨rfl, rfl⟩)
      have hk1 := halfN_lt HN.out
      have hk0 := halfN_pos n
      generalize hk : halfN n = k at *
      have hct : ∀ wx, _ := fun wx => run_cut_to tHs A n c (k : Int) (by omega) (by have := HT.out; omega) wx
      have hcf : ∀ wx, _ := fun wx => run_cut_from tHs A n c (k : Int) (by omega) (by omega) wx
      simp only [Int.toNat_natCast] at hct hcf
      have hb0 : Below w.heap.size w (w.alloc (.cells (List.replicate 32 (B 0)).toArray 28)) := (Below.refl _ _).alloc (Nat.le_refl _) _
      have hz0 := Blk_new w (List.replicate 32 (B 0)) 28
      change Code.wp _ _ _ _ (w.alloc (.cells (List.replicate 32 (B 0)).toArray 28))
      generalize w.alloc (.cells (List.replicate 32 (B 0)).toArray 28) = w0 at *
      have H0 := Lib.hid (And.intro hb0.drew (And.intro hz0.drew (And.intro (show 0 < k ∧ k < n from ⟨hk0, hk1⟩) (show halfN l.length = k by rw [HT.out.1]; exact hk))))
      clear hb0 hz0 hk0 hk1 hk hn0 hn1
      obtain ⟨cs, hcs⟩ : ∃ cs, cs = (rootH l).map B := ⟨_, rfl⟩
      have hcl : cs.length = 32 := by rw [hcs, List.length_map, rootH_length _ HT.out.2.2.2.1]
      have hc1 : ∀ u ∈ cs, u.oneCell' = true := by rw [hcs]; exact one_bytes
      have hi28 : (Tryd.prog.info? 28).map (·.size) = some cs.length := by rw [hcl]; kernel_rfl
      have HCS := Lib.hid hcs
      have HEQ := Lib.hid (show nodeF (rootH (l.take k)) (rootH (l.drop k)) = rootH l by
        have h1 : 1 < l.length := by rw [HT.out.1]; exact HN.out
        unfold rootH; rw [rootG_two h1, H0.out.2.2.2])
      clear hcs
      go_region_held3 (fun w' => w'.there w.heap.size 0 32)
        (first | exact H0.out.2.1.there (by simp) | exact HX.out.2.there (by simp) | exact HY.out.2.there (by simp) | exact HZ.out.2.there (by simp) | exact World.there_setCells (HZ.out.2.there (by simp)) _ _ _)
        (first
          | (go_at_call 27; have HXX := HX.out; clear HXX; refine (IH.out (n - k) (by have := H0.out.2.2.1; omega) (cutA A c k 32) (c - k) (l.drop k) w1 (by have := HT.out.1; simp; omega) (by have := HT.out; omega) (by have := HT.out; omega) (HT.out.2.2.2.1.drop k) ((rdH_from c k HT.out.2.2.2.2.1 HT.out.2.2.2.1 (by have := HT.out.1; have := H0.out.2.2.1; omega) (by have := HT.out; omega)).below HX.out.1) (HT.out.2.2.2.2.2.below HX.out.1 HT.out.2.2.2.2.2.lt)).mono ?_
             rintro e w2 ⟨rfl, hb2⟩
             have HY := Lib.hid (And.intro (below_then HX.out.1 HX.out.1.size hb2) (HX.out.2.below hb2))
             clear hb2)
          | (go_at_call 27; refine (IH.out k H0.out.2.2.1.2 A c (l.take k) w0.drew (by have := HT.out.1; have := H0.out.2.2.1; simp; omega) (by have := HT.out; have := H0.out.2.2.1; omega) (by have := HT.out; have := H0.out.2.2.1; omega) (HT.out.2.2.2.1.take k) ((rdH_to k HT.out.2.2.2.2.1 HT.out.2.2.2.1).below H0.out.1) (HT.out.2.2.2.2.2.below H0.out.1 HT.out.2.2.2.2.2.lt)).mono ?_
             rintro e w1 ⟨rfl, hb1⟩
             have HX := Lib.hid (And.intro (below_then H0.out.1 H0.out.1.size hb1) (H0.out.2.1.below hb1))
             clear hb1)
          | (go_at_call 44; refine (node_any (rootH (l.take k)) (rootH (l.drop k)) (rootH_length _ (HT.out.2.2.2.1.take k)) (rootH_length _ (HT.out.2.2.2.1.drop k)) w2 (HT.out.2.2.2.2.2.below HY.out.1 HT.out.2.2.2.2.2.lt)).mono ?_
             rintro e w4 ⟨rfl, hb4⟩
             have HZ := Lib.hid (And.intro (below_then HY.out.1 HY.out.1.size hb4) (HY.out.2.below hb4))
             rw [HEQ.out, show HV (rootH l) = Value.agg cs.toArray by rw [HCS.out]]
             clear hb4))
      have hw5 := HZ.out.2.setCells0 (vs := cs) (by rw [hcl, List.length_replicate])
      have hb5 : Below w.heap.size w (w4.setCells w.heap.size 0 cs) := HZ.out.1.grown (grown_setCells _ _ _ _) HZ.out.1.size (fun k e => by injection e with e; omega)
      generalize w4.setCells w.heap.size 0 cs = w5 at *
      have H5 := Lib.hid (And.intro hw5 hb5)
      clear hw5 hb5
      go_wp2
      refine bodyPost_ret (results_blk rfl _ _ w.heap.size 28 cs _ rfl H5.out.1 Tryd.underlying28 rfl hi28) rfl ⟨?_, H5.out.2⟩
      rw [HCS.out]
#print axioms root_any
end Go.Proofs.YtcgdojdiihdkeaaDoor
