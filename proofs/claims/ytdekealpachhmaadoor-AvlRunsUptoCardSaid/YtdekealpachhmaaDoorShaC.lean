/- Layer 1: start, Sum, New by their contracts. -/
import Derived.Test.YtdekealpachhmaaDoorShaB
import Derived.Test.YtdekealpachhmaaDoorTail
namespace Go.Proofs.YtdekealpachhmaaDoor
open Go Go.RowKit Go.Isth

theorem tBs : SlT Tryd.prog 135 5 (.int .u8 0) 1 1 := ⟨Tryd.underlying135, by kernel_rfl, rfl, by decide⟩
/-- A sum's value. -/
abbrev HV (bs : List UInt8) : Value := .agg (bs.map B).toArray
abbrev WV (s : R8) : Value := .agg (s.list.map U).toArray

theorem start_any (w : World) : Calls Tryd.prog 89 #[] w fun e w' => e = .returned (WV kStart) ∧ Below w.heap.size w w' := by
  go_enter Tryd.func89, Tryd.ntmps89
  go_wp2
  exact bodyPost_ret (results_blk rfl _ _ w.heap.size 165 (kStart.list.map U) _ rfl (heap_alloc_new w _) Tryd.underlying165 rfl (by kernel_rfl)) rfl ⟨rfl, (Below.refl _ _).alloc (Nat.le_refl _) _⟩

def SumInv (w : World) (p : Nat) (bs : List UInt8) (sl : Value) (wr : World) : Prop :=
  ∃ (j n : Nat) (A : Option Addr) (c : Nat), n + 64 * j = bs.length ∧ sl = .slice A n c ∧ n ≤ c ∧ Rd w A ((bs.drop (64 * j)).map B) ∧ Blk wr p 165 ((absN j kStart bs).list.map U) ∧ Blk wr w.heap.size 46 (List.replicate 32 (B 0)) ∧ Below w.heap.size w wr
def sliceLen : Value → Nat
  | .slice _ n _ => n
  | _ => 0
set_option maxRecDepth 100000 in
set_option maxHeartbeats 2000000 in
theorem sum_any (A : Option Addr) (c : Nat) (bs : List UInt8) (w : World) (hc : bs.length ≤ c) (hm : bs.length ≤ 140737488355328) (hr : Rd w A (bs.map B)) (ht : TabLaid w) :
    Calls Tryd.prog 61 #[.slice A bs.length c] w fun e w' => e = .returned (HV (sumF bs)) ∧ Below w.heap.size w w' := by
  have HT := Lib.hid (And.intro hc (And.intro hm (And.intro hr ht)))
  have hu := u64_nat (n := bs.length) (by omega)
  clear hc hm hr ht
  go_enter Tryd.func61, Tryd.ntmps61
  go_wp2_with fail
  refine (start_any _).mono ?_
  rintro e w1 ⟨rfl, hb1⟩
  have hz : Blk w1 w.heap.size 46 (List.replicate 32 (B 0)) := (Blk_new w _ _).below hb1
  have hb1' : Below w.heap.size w w1 := ((Below.refl w.heap.size w).alloc (Nat.le_refl _) _).trans (hb1.mono (by rw [World.size_alloc]; omega))
  have H1 := Lib.hid (And.intro hz hb1')
  clear hz hb1 hb1'
  go_upto_region 2 with (refine wpList_store_blk rfl 165 (.tmp 3) (.tmp 5) rfl w1.heap.size (kStart.list.map U) rfl rfl 165 _ (heap_alloc_new w1 _) (by kernel_rfl) rfl (by decide) ?_; intro w2 hw2 hg2)
  have hb2 : Below w.heap.size w w2 := (H1.out.2.alloc H1.out.2.size _).grown hg2 (by rw [World.size_alloc]; have := H1.out.2.size; omega) (fun k e => by injection e with e; have := H1.out.2.size; omega)
  have hz2 := (H1.out.1.alloc (.cells #[.int .u32 0, .int .u32 0, .int .u32 0, .int .u32 0, .int .u32 0, .int .u32 0, .int .u32 0, .int .u32 0] 165)).grown hg2 (by have := H1.out.1.lt; simp; omega)
  have H2 := Lib.hid (And.intro hw2 (And.intro hz2 (And.intro hb2 H1.out.1.lt)))
  clear hw2 hg2 hb2 hz2
  generalize w1.heap.size = p at *
  go_loopw [0] (fun sl wr => SumInv w p bs sl wr) (fun sl _ => sliceLen sl)
  case atStart => exact ⟨0, bs.length, A, c, rfl, rfl, HT.out.1, by simpa using HT.out.2.2.1, H2.out.1, H2.out.2.1, H2.out.2.2.1⟩
  case round =>
    obtain ⟨j, n, A1, c1, hn, rfl, hc, hR, hs, hz, hB⟩ := hrel
    by_cases hlt : 64 ≤ n
    · have hni : (64 : Int) ≤ (n : Int) := by omega
      have hct := run_cut_to tBs A1 n c1 64 (by omega) (by omega) wr
      have HS := Lib.hid (And.intro hn (And.intro hc (And.intro hR (And.intro hs (And.intro hz (And.intro hB hlt))))))
      rw [show (64 : Int).toNat = 64 from rfl] at hct
      clear hn hc hR hs hz hB hlt
      go_wp2_with fail
      refine (mix0_any p c1 A1 ((bs.drop (64 * j)).take 64) _ 165 wr HS.out.2.2.2.1 (by have := HS.out; simp; omega) (by rw [List.map_take]; exact (HS.out.2.2.1.below HS.out.2.2.2.2.2.1).front 64) (HT.out.2.2.2.below HS.out.2.2.2.2.2.1 HT.out.2.2.2.lt) (by have := HT.out.2.2.2.lt; have := H2.out.2.2.2; omega)).mono ?_
      rintro e w3 ⟨rfl, hs3, hg3⟩
      have hcf := run_cut_from tBs A1 n c1 64 (by omega) (by omega) w3
      rw [show (64 : Int).toNat = 64 from rfl] at hcf
      have H3 := Lib.hid (And.intro hs3 hg3)
      clear hs3 hg3 hct
      go_wp2
      go_roundw
      case rel =>
        refine ⟨j + 1, n - 64, _, _, by have := HS.out; omega, rfl, by have := HS.out; omega, ?_, ?_, H3.out.2 |> fun g => HS.out.2.2.2.2.1.grown g (by have := H2.out.2.2.2; simp; omega), HS.out.2.2.2.2.2.1.grown H3.out.2 HS.out.2.2.2.2.2.1.size (fun k e => by injection e with e; have := H2.out.2.2.2; omega)⟩
        · have h := HS.out.2.2.1.cut c1 64 1 (n - 64) (by have := HS.out; simp; omega) (by have := HS.out; simp; omega)
          rw [Nat.mul_one, ← List.map_drop, List.drop_drop, List.take_of_length_le (by have := HS.out; simp; omega)] at h
          rwa [show 64 * (j + 1) = 64 * j + 64 from by omega]
        · rw [absN_succ]; exact H3.out.1
      case measure => have := HS.out.2.2.2.2.2.2; simp [sliceLen]; omega
    · have hni : (n : Int) < 64 := by omega
      have hj : j = bs.length / 64 := by omega
      subst hj
      have hsum : sumF bs = endF (absN (bs.length / 64) kStart bs) (bs.drop (64 * (bs.length / 64))) bs.length := by unfold sumF; rw [Nat.mul_comm 64]
      have hnl : n = (bs.drop (64 * (bs.length / 64))).length := by simp; omega
      generalize hrest : bs.drop (64 * (bs.length / 64)) = rest at *
      generalize absN (bs.length / 64) kStart bs = st at *
      have HS := Lib.hid (And.intro hsum (And.intro hnl (And.intro hc (And.intro hR (And.intro hs (And.intro hz (And.intro hB (show n < 64 by omega))))))))
      have hcall := fun wx => end_any st rest bs.length c1 A1 wx
      rw [← hnl] at hcall
      have HC := Lib.hid hcall
      have HL := Lib.hid (show (some 32 : Option Nat) = some ((sumF bs).map B).length by rw [List.length_map, sumF_length])
      clear hsum hnl hc hR hs hz hB hlt hn hrest hcall
      go_wp2_with (refine wpList_load_blk rfl 165 (.tmp 3) rfl p rfl 165 _ _ HS.out.2.2.2.2.1 Tryd.underlying165 rfl (by kernel_rfl) ?_)
      refine (HC.out wr (by have := HS.out; omega) (by have := HT.out.2.1; omega) (HS.out.2.2.2.1.below HS.out.2.2.2.2.2.2.1) (HT.out.2.2.2.below HS.out.2.2.2.2.2.2.1 HT.out.2.2.2.lt)).mono ?_
      rintro e w4 ⟨rfl, hb4⟩
      rw [← HS.out.1]
      have hz4 := HS.out.2.2.2.2.2.1.below hb4
      have HB4 := Lib.hid (below_then HS.out.2.2.2.2.2.2.1 HS.out.2.2.2.2.2.2.1.size hb4)
      clear hb4
      go_wp2_with (refine wpList_store_blk rfl 46 (.tmp 2) (.tmp 20) rfl w.heap.size ((sumF bs).map B) rfl rfl 46 _ hz4 (Eq.trans (by kernel_rfl) HL.out) (by rw [List.length_map, sumF_length, List.length_replicate]) one_bytes ?_; intro w5 hw5 hg5)
      refine bodyPost_ret (results_blk rfl _ _ w.heap.size 46 ((sumF bs).map B) _ rfl hw5 Tryd.underlying46 rfl (Eq.trans (by kernel_rfl) HL.out)) rfl ⟨rfl, ?_⟩
      exact HB4.out.grown hg5 HB4.out.size (fun k e => by injection e with e; omega)
#print axioms sum_any
end Go.Proofs.YtdekealpachhmaaDoor
