/- PackSizes: the walk. -/
import Derived.Test.YtdmopnmifdjcnaaPackD
namespace Go.Proofs.Ytdmopnmifdjcnaa
open Go Go.RowKit Go.Isth

def lenV (m : Nat) : Nat := if m = 0 then 0 else (varint m).length
theorem lenV_step {m : Nat} (h : 0 < m) : lenV m = 1 + lenV (m / 128) := by
  unfold lenV
  rw [if_neg (by omega)]
  by_cases h1 : m < 128
  · rw [varint_small h1, if_pos (by omega)]; rfl
  · rw [varint_great h1, if_neg (by omega)]; simp; omega
theorem varint_lenV (n : Nat) : (varint n).length = 1 + lenV (n / 128) := by
  unfold lenV
  by_cases h1 : n < 128
  · rw [varint_small h1, if_pos (by omega)]; rfl
  · rw [varint_great h1, if_neg (by omega)]; simp; omega

def SizeInv (n : Nat) (k x : Value) : Prop := ∃ j m : Nat, k = .int .i64 j ∧ x = .int .u64 m ∧ (varint n).length = j + lenV m

set_option maxRecDepth 100000 in
theorem packSizes_any (n : Nat) (hn : n < 18446744073709551616) (w : World) : Calls Try.prog 5 #[.int .u64 n] w fun e w' => e = .returned (.bool true) ∧ Below w.heap.size w w' := by
  have HN := Lib.hid hn
  have hl := varint_len10 n hn
  have HL := Lib.hid hl
  clear hn hl
  go_enter Try.func5, Try.ntmps5
  go_wp2_with fail
  go_loop [3, 4] (fun k x => SizeInv n k x) (fun _ x => (intOf x).toNat)
  case atStart => exact ⟨1, n / 128, rfl, by simp, varint_lenV n⟩
  case round =>
    obtain ⟨j, m, rfl, rfl, hjm⟩ := hrel
    by_cases hm : 0 < m
    · have hmi : (0 : Int) < (m : Int) := by omega
      have hj : (j : Int) + 1 ≤ 11 := by have := HL.out; omega
      have hs := lenV_step hm
      have HJ := Lib.hid (And.intro hjm (And.intro hs hm))
      clear hjm hs hm
      go_wp2
      go_round
      case rel => exact ⟨j + 1, m / 128, by simp, by simp, by have := HJ.out; omega⟩
      case measure => have := HJ.out; simp [intOf]; omega
    · obtain rfl : m = 0 := by omega
      have hj : (varint n).length = j := by simpa [lenV] using hjm
      have HJ := Lib.hid hj
      clear hjm hm hj
      go_wp2_with fail
      refine (new_any w).mono ?_
      rintro e w1 ⟨rfl, hw1, hb1⟩
      go_wp2_with fail
      refine (uint_any n _ _ _ w.heap.size w1 HN.out hw1 (by simp)).mono ?_
      rintro e w2 ⟨rfl, v2, hw2, hx2⟩
      rw [List.nil_append] at hw2
      have hb2 : Below w.heap.size w w2 := hb1.trans (hx2.below (Nat.le_refl _) hb1.size (fun k e => by cases e))
      clear hw1 hx2 hb1
      go_wp2_with fail
      refine (done_any _ v2 _ w.heap.size w2 hw2 (by have := HL.out; omega)).mono ?_
      rintro e w3 ⟨v3, rfl, ho3, hb3⟩
      have hb3' : Below w.heap.size w w3 := hb2.trans (hb3.mono hb2.size)
      obtain ⟨A3, c3, rfl, _⟩ := own_slice ho3
      rw [HJ.out]
      have HB3 := Lib.hid hb3'
      clear ho3 hb3 hb3' hw2 hb2
      go_wp2_with fail
      refine (new_any w3).mono ?_
      rintro e w4 ⟨rfl, hw4, hb4⟩
      go_wp2_with fail
      refine (bool_any true _ _ _ w3.heap.size w4 hw4 (by simp)).mono ?_
      rintro e w5 ⟨rfl, v5, hw5, hx5⟩
      have hb5 : Below w3.heap.size w3 w5 := hb4.trans (hx5.below (Nat.le_refl _) hb4.size (fun k e => by cases e))
      clear hw4 hx5 hb4
      go_wp2_with fail
      refine (done_any _ v5 _ w3.heap.size w5 hw5 (by simp)).mono ?_
      rintro e w6 ⟨v6, rfl, ho6, hb6⟩
      have hb6' : Below w.heap.size w w6 := HB3.out.trans ((hb5.trans (hb6.mono hb5.size)).mono HB3.out.size)
      obtain ⟨A6, c6, rfl, _⟩ := own_slice ho6
      have HB6 := Lib.hid hb6'
      clear ho6 hb6 hb6' hw5 hb5
      go_wp2_with fail
      refine (new_any w6).mono ?_
      rintro e w7 ⟨rfl, hw7, hb7⟩
      go_wp2_with fail
      have hh := hash_any (List.replicate 32 0) _ _ _ w6.heap.size w7 (by simp) hw7 (by simp)
      refine hh.mono ?_
      rintro e w8 ⟨rfl, v8, hw8, hx8⟩
      have hb8 : Below w6.heap.size w6 w8 := hb7.trans (hx8.below (Nat.le_refl _) hb7.size (fun k e => by cases e))
      clear hw7 hx8 hb7 hh
      go_wp2_with fail
      refine (done_any _ v8 _ w6.heap.size w8 hw8 (by simp)).mono ?_
      rintro e w9 ⟨v9, rfl, ho9, hb9⟩
      have hb9' : Below w.heap.size w w9 := HB6.out.trans ((hb8.trans (hb9.mono hb8.size)).mono HB6.out.size)
      obtain ⟨A9, c9, rfl, _⟩ := own_slice ho9
      have HB9 := Lib.hid hb9'
      clear ho9 hb9 hb9' hw8 hb8
      go_wp2_with fail
      refine (packSure_any w9).mono ?_
      rintro e w10 ⟨rfl, hb10⟩
      go_wp2
      go_ret
      exact ⟨rfl, HB9.out.trans (hb10.mono HB9.out.size)⟩
#print axioms packSizes_any
end Go.Proofs.Ytdmopnmifdjcnaa
