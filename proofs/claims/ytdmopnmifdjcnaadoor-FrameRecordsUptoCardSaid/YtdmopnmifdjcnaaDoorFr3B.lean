/- The reference of layer 3: four, Frame by their contracts. -/
import Derived.Test.YtdmopnmifdjcnaaDoorFr3A
import Derived.Test.YtdmopnmifdjcnaaDoorReg
namespace Go.Proofs.YtdmopnmifdjcnaaDoor
open Go Go.RowKit Go.Isth

theorem four_any (k : Int) (x : BitVec 32) (w : World) (hk : k = (x.toNat : Int)) :
    Calls Tryd.prog 38 #[.int .u32 k] w fun e w' => e = .returned (.slice (some ⟨w.heap.size, 0, none⟩) 4 4) ∧ w' = w.alloc (.cells ((be32 x).map B).toArray 5) := by
  subst hk
  have hx := x.isLt
  have t1 : (x.toNat : Int).tdiv 16777216 = (x.toNat : Int) / 16777216 := Int.tdiv_eq_ediv_of_nonneg (by omega)
  have t2 : (x.toNat : Int).tdiv 65536 = (x.toNat : Int) / 65536 := Int.tdiv_eq_ediv_of_nonneg (by omega)
  have t3 : (x.toNat : Int).tdiv 256 = (x.toNat : Int) / 256 := Int.tdiv_eq_ediv_of_nonneg (by omega)
  go_enter Tryd.func38, Tryd.ntmps38
  go_wp2
  go_ret
  refine ⟨rfl, ?_⟩
  rw [← be32_vals]
theorem four_to (k : Int) (x : BitVec 32) (w : World) (hk : k = (x.toNat : Int)) :
    Calls Tryd.prog 38 #[.int .u32 k] w fun e w' => ∃ A c, e = .returned (.slice A 4 c) ∧ w'.ownsRow w.heap.size 5 1 (.slice A 4 c) 4 ((be32 x).map B) ∧ Rd w' A ((be32 x).map B) ∧ Below w.heap.size w w' := by
  refine (four_any k x w hk).mono ?_
  rintro e w' ⟨rfl, rfl⟩
  have ho := World.ownsRow_lit (base := w.heap.size) (e := 5) (size := 1) w ((be32 x).map B).toArray 4 (Nat.le_refl _) (by decide) rfl
  exact ⟨_, _, rfl, ho, Rd_alloc _ _ _, (Below.refl _ _).alloc (Nat.le_refl _) _⟩
theorem rsum03_to (A : Option Addr) (m c : Nat) (bs : List UInt8) (w : World) (x : BitVec 32) (hm : bs.length = m) (hn : m ≤ 140737488351232) (hx : x = crc bs) (hr : Rd w A (bs.map B)) :
    Calls Tryd.prog 18 #[.slice A m c] w fun e w' => e = .returned (.int .u32 (x.toNat : Nat)) ∧ w = w' := by
  subst hx
  exact rsum03_any A m c bs w hm hn hr
theorem rframe_none (A : Option Addr) (c n : Nat) (w : World) (k : Nat) (h : (n = 0 ∧ k = 1) ∨ (1048576 < n ∧ k = 2)) :
    Calls Tryd.prog 9 #[.slice A n c] w fun e w' => e = .returned (.tuple #[.slice none 0 0, .int .i64 (k : Nat)]) ∧ w = w' := by
  rcases h with ⟨rfl, rfl⟩ | ⟨h, rfl⟩
  · go_enter Tryd.func9, Tryd.ntmps9
    go_wp2
    go_ret2
    exact ⟨rfl, rfl⟩
  · have h0 : ((n : Int) == 0) = false := by simp; omega
    have h1 : (1048576 : Int) < (n : Int) := by omega
    clear h
    go_enter Tryd.func9, Tryd.ntmps9
    go_wp2
    go_ret2
    exact ⟨rfl, rfl⟩
set_option maxRecDepth 100000 in
set_option maxHeartbeats 1000000 in
theorem rframe_yes (A : Option Addr) (c n : Nat) (p : List UInt8) (w : World) (hn : p.length = n) (h0 : 0 < n) (h1 : n ≤ 1048576) (hr : Rd w A (p.map B)) :
    Calls Tryd.prog 9 #[.slice A n c] w fun e w' => ∃ A' c', e = .returned (.tuple #[.slice A' (n + 12) c', .int .i64 0]) ∧ Rd w' A' ((record p).map B) ∧ Below w.heap.size w w' := by
  have HT := Lib.hid (And.intro hn (And.intro h0 (And.intro h1 hr)))
  have e0 : ((n : Int) == 0) = false := by simp; omega
  have e1 : ¬ (1048576 : Int) < (n : Int) := by omega
  have hwn : IntKind.u32.wrap (n : Int) = (n : Int) := by
    simp only [IntKind.wrap, IntKind.bits, IntKind.signed, Bool.false_and, Bool.false_eq_true, if_false]; omega
  obtain ⟨xl, hxl⟩ : ∃ x, x = BitVec.ofNat 32 n := ⟨_, rfl⟩
  have hxn : (n : Int) = (xl.toNat : Int) := by rw [hxl, BitVec.toNat_ofNat]; omega
  obtain ⟨xs, hxs⟩ : ∃ x, x = crc (be32 xl) := ⟨_, rfl⟩
  obtain ⟨xp, hxp⟩ : ∃ x, x = crc p := ⟨_, rfl⟩
  have HX := Lib.hid (And.intro hxl (And.intro hxn (And.intro hxs hxp)))
  clear hn h0 h1 hr hxl hxn hxs hxp
  go_enter Tryd.func9, Tryd.ntmps9
  go_wp2_with fail
  refine (four_to (n : Int) xl w HX.out.2.1).mono ?_
  rintro e w1 ⟨A1, c1, rfl, ho1, hr1, hb1⟩
  have H1 := Lib.hid (And.intro ho1 (And.intro hr1 hb1))
  clear ho1 hr1 hb1 e0 e1 hwn
  go_wp2_with fail
  refine (rsum03_to A1 4 c1 (be32 xl) w1 xs rfl (by decide) HX.out.2.2.1 H1.out.2.1).mono ?_
  rintro e w1' ⟨rfl, rfl⟩
  go_wp2_with fail
  refine (four_to (xs.toNat : Nat) xs w1 rfl).mono ?_
  rintro e w2 ⟨A2, c2, rfl, ho2, hr2, hb2⟩
  have hov1 := own_below H1.out.1 hb2
  have H2 := Lib.hid (And.intro hov1 (And.intro hr2 (below_then H1.out.2.2 H1.out.2.2.size hb2)))
  clear ho2 hov1 hr2 hb2
  have HM := Lib.hid (show 4 + 4 ≤ maxLen ∧ (4 + 4) * 1 ≤ 140737488355328 ∧ ((be32 xs).map B).length = 4 * 1 from ⟨by unfold maxLen; omega, by omega, rfl⟩)
  go_wp2_with (at_builtin; refine wpList_app tB rfl _ _ rfl w.heap.size (.slice A1 4 c1) 4 ((be32 xl).map B) rfl H2.out.1 A2 4 c2 ((be32 xs).map B) rfl H2.out.2.1 HM.out.2.2 one_bytes HM.out.1 HM.out.2.1 H2.out.2.2.size ?_)
  intro v3 w3 ho3 hx3
  obtain ⟨A3, c3, rfl, _⟩ := own_slice ho3
  have hb3 := H2.out.2.2.grown hx3.grown H2.out.2.2.size (fun q e => (H2.out.1.lt q e).1)
  have H3 := Lib.hid (And.intro ho3 hb3)
  clear ho3 hx3 hb3
  have HM2 := Lib.hid (show 4 + 4 + n ≤ maxLen ∧ (4 + 4 + n) * 1 ≤ 140737488355328 ∧ (p.map B).length = n * 1 by have := HT.out; unfold maxLen; simp; omega)
  go_wp2_with (at_builtin; refine wpList_app tB rfl _ _ rfl w.heap.size (.slice A3 (4 + 4) c3) (4 + 4) ((be32 xl).map B ++ (be32 xs).map B) rfl H3.out.1 A n c (p.map B) rfl (HT.out.2.2.2.below H3.out.2) HM2.out.2.2 one_bytes HM2.out.1 HM2.out.2.1 H3.out.2.size ?_)
  intro v4 w4 ho4 hx4
  obtain ⟨A4, c4, rfl, _⟩ := own_slice ho4
  have hb4 := H3.out.2.grown hx4.grown H3.out.2.size (fun q e => (H3.out.1.lt q e).1)
  have H4 := Lib.hid (And.intro ho4 hb4)
  clear ho4 hx4 hb4
  go_wp2_with fail
  refine (rsum03_to A n c p w4 xp HT.out.1 (by have := HT.out; omega) HX.out.2.2.2 (HT.out.2.2.2.below H4.out.2)).mono ?_
  rintro e w4' ⟨rfl, rfl⟩
  go_wp2_with fail
  refine (four_to (xp.toNat : Nat) xp w4 rfl).mono ?_
  rintro e w5 ⟨A5, c5, rfl, ho5, hr5, hb5⟩
  have hov4 := own_below H4.out.1 hb5
  have H5 := Lib.hid (And.intro hov4 (And.intro hr5 (below_then H4.out.2 H4.out.2.size hb5)))
  clear ho5 hov4 hr5 hb5
  have HM3 := Lib.hid (show 4 + 4 + n + 4 ≤ maxLen ∧ (4 + 4 + n + 4) * 1 ≤ 140737488355328 ∧ ((be32 xp).map B).length = 4 * 1 by have := HT.out; unfold maxLen; exact ⟨by omega, by omega, rfl⟩)
  go_wp2_with (at_builtin; refine wpList_app tB rfl _ _ rfl w.heap.size (.slice A4 (4 + 4 + n) c4) (4 + 4 + n) ((be32 xl).map B ++ (be32 xs).map B ++ p.map B) rfl H5.out.1 A5 4 c5 ((be32 xp).map B) rfl H5.out.2.1 HM3.out.2.2 one_bytes HM3.out.1 HM3.out.2.1 H5.out.2.2.size ?_)
  intro v6 w6 ho6 hx6
  obtain ⟨A6, c6, rfl, _, hr6, _⟩ := own_slice ho6
  have hb6 := H5.out.2.2.grown hx6.grown H5.out.2.2.size (fun q e => (H5.out.1.lt q e).1)
  have H6 := Lib.hid (And.intro hr6 hb6)
  clear ho6 hx6 hb6 hr6
  go_wp2_with fail
  go_ret2
  refine ⟨A6, c6, by rw [show 4 + 4 + n + 4 = n + 12 by omega]; rfl, ?_, H6.out.2⟩
  have h := H6.out.1
  rw [show (record p).map B = (be32 xl).map B ++ (be32 xs).map B ++ p.map B ++ (be32 xp).map B by
    rw [HX.out.2.2.2, HX.out.2.2.1, HX.out.1, ← HT.out.1]; simp [record]]
  exact h
end Go.Proofs.YtdmopnmifdjcnaaDoor
