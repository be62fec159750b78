/- The walk of PackBounds. -/
import Derived.Test.YtdmopnmifdjcnaaDoorStops
namespace Go.Proofs.YtdmopnmifdjcnaaDoor
open Go Go.RowKit Go.Isth

theorem uint_bound (n m : Nat) (rest : List UInt8) (h : n < 18446744073709551616) : RS.uint ⟨varint n ++ rest, none⟩ m = if m < n then (0, ⟨varint n ++ rest, some 4⟩) else (n, ⟨rest, none⟩) := by
  unfold RS.uint
  rw [if_neg (by simp), numF_varint n 10 0 0 rest (by omega) (by omega) (.inl rfl)]
  have e : 0 + n * 128 ^ 0 = n := by simp
  rw [e]
  by_cases h2 : m < n
  · simp [h2, RS.fail]
  · simp [h2]
theorem take_enc (xs rest : List UInt8) : RS.take ⟨xs ++ rest, none⟩ xs.length = (xs, ⟨rest, none⟩) := by
  unfold RS.take
  rw [if_neg (by simp), if_neg (by simp)]
  simp
theorem bytes_bound (xs : List UInt8) (m : Int) (h : xs.length ≤ 1048576) : bytesS ⟨varint xs.length ++ xs, none⟩ m = if m < 0 then ([], ⟨varint xs.length ++ xs, some 1⟩) else if m < (xs.length : Int) then ([], ⟨varint xs.length ++ xs, some 2⟩) else (xs, ⟨[], none⟩) := by
  have e : RS.uint ⟨varint xs.length ++ xs, none⟩ 18446744073709551615 = (xs.length, ⟨xs, none⟩) := by rw [uint_bound _ _ _ (by omega), if_neg (by omega)]
  have e2 : RS.take ⟨xs, none⟩ xs.length = (xs, ⟨[], none⟩) := by have := take_enc xs []; rwa [List.append_nil] at this
  unfold bytesS
  by_cases h0 : m < 0
  · simp [h0, RS.fail]
  · by_cases h1 : m < (xs.length : Int)
    · simp [h0, h1, e]
    · simp [h0, h1, e, e2]

theorem count_ok (r : Nat) (s s2 : RS) (n : Nat) (w : World) (h : RIs w r s) (hs : s.err = none) (hu : s.uint 1073741824 = (n, s2)) (h2 : s2.err = none) (hle : n ≤ s2.rest.length) (hn : n ≤ 1048576) :
    Calls Tryd.prog 33 #[Ptr r, .int .i64 1073741824] w fun e w' => e = .returned (.int .i64 (n : Nat)) ∧ RIs w' r s2 ∧ w.grownBy w' (some r) := by
  obtain ⟨A, c, ev, hc, _⟩ := h.of
  obtain ⟨hc0, _, _, _, _⟩ := two_cells hc
  have H := Lib.hid (And.intro h (And.intro hs (And.intro hu (And.intro h2 hle))))
  clear h hs hu h2 hle hc
  go_enter Tryd.func33, Tryd.ntmps33
  go_wp2_with fail
  refine (live_any r s w H.out.1).mono ?_
  rintro e w1 ⟨rfl, rfl⟩
  rw [H.out.2.1]
  go_wp2_with fail
  refine (ruint_any r s 1073741824 w1 H.out.1).mono ?_
  rintro e w2 ⟨rfl, hr2, g2⟩
  rw [H.out.2.2.1] at hr2
  rw [H.out.2.2.1]
  simp only at hr2 ⊢
  have H2 := Lib.hid (And.intro hr2 g2)
  obtain ⟨A2, c2, ev2, hc2, _, _, _, hm2, _⟩ := hr2.of
  obtain ⟨hd0, _, _, _, _⟩ := two_cells hc2
  have hwl : IntKind.u64.wrap ((s2.rest.length : Nat) : Int) = ((s2.rest.length : Nat) : Int) := u64_nat (by omega)
  have hni : (n : Int) ≤ ((s2.rest.length : Nat) : Int) := by have := H.out.2.2.2.2; omega
  clear hr2 g2 hc0 hc2 hm2
  go_wp2_with fail
  refine (live_any r s2 w2 H2.out.1).mono ?_
  rintro e w3 ⟨rfl, rfl⟩
  rw [H.out.2.2.2.1]
  go_wp2_with fail
  refine (live_any r s2 w3 H2.out.1).mono ?_
  rintro e w4 ⟨rfl, rfl⟩
  rw [H.out.2.2.2.1]
  go_wp2
  go_ret
  exact ⟨rfl, H2.out.1, H2.out.2⟩

set_option maxRecDepth 100000 in
set_option maxHeartbeats 4000000 in
theorem bounds_any (n m : Nat) (xs : List UInt8) (long : Int) (w : World) (hn : n < 18446744073709551616) (hm : m < 18446744073709551616) (hl : long < 9223372036854775808) (hg : TypeLaid w) :
    Calls Tryd.prog 6 #[.agg #[.int .u64 n, .int .u64 m], .string ⟨xs.toArray⟩, .int .i64 long] w fun e w' => e = .returned (.bool true) ∧ Below w.heap.size w w' := by
  have HG := Lib.hid hg
  have HN := Lib.hid (And.intro hn (And.intro hm hl))
  clear hg hn hm hl
  go_enter Tryd.func6, Tryd.ntmps6
  go_wp2_with fail
  go_quiet (fail)
  have hw0 : Below w.heap.size w ((w.alloc (.cells #[.int .u64 n, .int .u64 m] 61)).drewN nq) := below_drewN ((Below.refl _ _).alloc (Nat.le_refl _) _) nq
  generalize (w.alloc (.cells #[.int .u64 n, .int .u64 m] 61)).drewN nq = w0 at *
  have HW0 := Lib.hid hw0
  clear hw0
  by_cases hlong : 1048576 < xs.length
  · have hli : (1048576 : Int) < (xs.length : Int) := by omega
    clear hlong
    go_wp2_with fail
    refine (packSure_any _).mono ?_
    rintro e w10 ⟨rfl, hb10⟩
    go_wp2
    go_ret
    exact ⟨rfl, below_trans HW0.out hb10⟩
  have hli : (xs.length : Int) ≤ 1048576 := by omega
  have HLI := Lib.hid hlong
  clear hlong
  -- a number
  go_wp2_with fail
  refine (new_any w0).mono ?_
  rintro e w1 ⟨rfl, hw1, hb1⟩
  have H1 := Lib.hid (And.intro hw1 (below_trans HW0.out hb1))
  clear hw1 hb1
  go_wp2_with fail
  refine (uint_any n _ _ _ w0.heap.size w1 HN.out.1 H1.out.1 (by simp)).mono ?_
  rintro e w2 ⟨rfl, v2, hw2, hx2⟩
  have hb2 : Below w.heap.size w w2 := H1.out.2.trans (hx2.below HW0.out.size H1.out.2.size (fun k e => by cases e))
  rw [List.nil_append] at hw2
  have H2 := Lib.hid (And.intro hw2 hb2)
  clear hw2 hb2 hx2
  go_wp2_with fail
  refine (done_any _ v2 _ w0.heap.size w2 H2.out.1 (by have := varint_len10 n HN.out.1; omega)).mono ?_
  rintro e w3 ⟨v3, rfl, ho3, hb3⟩
  obtain ⟨A3, c3, rfl, hc3, hr3, _⟩ := own_slice ho3
  have H3 := Lib.hid (And.intro hr3 (And.intro hc3 (below_trans H2.out.2 hb3)))
  clear ho3 hr3 hc3 hb3
  go_wp2_with fail
  refine (read_any A3 c3 _ w3 H3.out.1 H3.out.2.1 (by have := varint_len10 n HN.out.1; omega)).mono ?_
  rintro e w4 ⟨rfl, hr4, hb4⟩
  have H4 := Lib.hid (And.intro hr4 (And.intro (below_trans H3.out.2.2 hb4) H3.out.2.2.size))
  clear hr4 hb4
  generalize w3.heap.size = r at *
  go_wp2_with fail
  refine (ruint_any r _ m w4 H4.out.1).mono ?_
  rintro e w5 ⟨rfl, hr5, g5⟩
  have eu := uint_bound n m [] HN.out.1
  rw [List.append_nil] at eu
  rw [eu] at hr5
  rw [eu]
  have hB5 : Below w.heap.size w w5 := H4.out.2.1.grown g5 H4.out.2.1.size (fun k' e => by injection e with e; rw [← e]; exact H4.out.2.2)
  have HB5 := Lib.hid hB5
  clear g5 hB5 eu
  by_cases hmn : m < n
  · rw [if_pos hmn] at hr5
    rw [if_pos hmn]
    simp only at hr5 ⊢
    have hmi : (m : Int) < (n : Int) := by omega
    have hz : ((0 : Int) != (n : Int)) = true := by rw [bne_iff_ne]; omega
    have hz0 : ((0 : Int) == (n : Int)) = false := beq_eq_false_iff_ne.2 (by omega)
    have HR5 := Lib.hid hr5
    clear hr5 hmn
    go_wp2_with fail
    refine (err_any r _ w5 HR5.out).mono ?_
    rintro e w6 ⟨v6, rfl, rfl, _, hv⟩
    obtain ⟨b6, s6, rfl, hc6⟩ := hv 4 rfl
    have HC6 := Lib.hid (show FaultIs w6 _ 4 from ⟨b6, s6, rfl, hc6⟩)
    clear hv hc6
    go_wp2_with fail
    refine (err_any r _ w6 HR5.out).mono ?_
    rintro e w7 ⟨v7, rfl, rfl, _, hv⟩
    obtain ⟨b7, s7, rfl, hc7⟩ := hv 4 rfl
    clear hv hc7
    go_wp2_with fail
    refine (err_any r _ w7 HR5.out).mono ?_
    rintro e w8 ⟨v8, rfl, rfl, _, hv⟩
    obtain ⟨b8, s8, rfl, hc8⟩ := hv 4 rfl
    clear hv hc8
    go_wp2_with fail
    refine (err_any r _ w8 HR5.out).mono ?_
    rintro e w9 ⟨v9, rfl, rfl, _, hv⟩
    have HV9 := Lib.hid (hv 4 rfl)
    clear hv
    go_wp2_with fail
    refine (num02_any v9 4 w9 HV9.out (HG.out.below HB5.out HG.out.lt)).mono ?_
    rintro e wx ⟨rfl, hbx⟩
    have HBX := Lib.hid (below_trans HB5.out hbx)
    clear hbx hmi hz hz0
    have HTL : Hid (xs.length ≤ 1048576) := Lib.hid (by have := HLI.out; omega)
    go_wp2_with fail
    refine (new_any wx).mono ?_
    rintro e w11 ⟨rfl, hw1, hb1⟩
    have H11 := Lib.hid (And.intro hw1 (And.intro (below_trans HBX.out hb1) HBX.out.size))
    clear hw1 hb1
    go_wp2_with fail
    refine (text_any ⟨xs.toArray⟩ _ _ _ wx.heap.size w11 H11.out.1 (by have := HTL.out; simp only [List.length_nil]; omega)).mono ?_
    rintro e w12 ⟨rfl, v12, hw2, hx2⟩
    have hb2 : Below w.heap.size w w12 := H11.out.2.1.trans (hx2.below H11.out.2.2 H11.out.2.1.size (fun k e => by cases e))
    rw [List.nil_append] at hw2
    have H12 := Lib.hid (And.intro hw2 hb2)
    clear hw2 hb2 hx2
    have hl10 := varint_len10 xs.length (by have := HTL.out; omega)
    have HL10 := Lib.hid hl10
    clear hl10
    go_wp2_with fail
    refine (done_any _ v12 _ wx.heap.size w12 H12.out.1 (by have := HL10.out; have := HTL.out; rw [List.length_append]; omega)).mono ?_
    rintro e w13 ⟨v13, rfl, ho3, hb3⟩
    obtain ⟨A13, c13, rfl, hc3, hr3, _⟩ := own_slice ho3
    have H13 := Lib.hid (And.intro hr3 (And.intro hc3 (below_trans H12.out.2 hb3)))
    clear ho3 hr3 hc3 hb3
    generalize hys : varint xs.length ++ xs = ys at *
    have HYS := Lib.hid hys
    clear hys
    go_wp2_with fail
    refine (read_any A13 c13 ys w13 H13.out.1 H13.out.2.1 (by have := HL10.out; have := HTL.out; rw [← HYS.out, List.length_append]; omega)).mono ?_
    rintro e w14 ⟨rfl, hr4, hb4⟩
    have H14 := Lib.hid (And.intro hr4 (And.intro (below_trans H13.out.2.2 hb4) H13.out.2.2.size))
    clear hr4 hb4
    generalize w13.heap.size = r2 at *
    go_wp2_with fail
    refine (rtext_any r2 _ long w14 H14.out.1 HN.out.2.2).mono ?_
    rintro e w15 ⟨rfl, hr5, g5⟩
    have eb := bytes_bound xs long HTL.out
    rw [HYS.out] at eb
    rw [eb] at hr5
    rw [eb]
    have HB15 : Hid (Below w.heap.size w w15) := Lib.hid (H14.out.2.1.grown g5 H14.out.2.1.size (fun k' e => by injection e with e; rw [← e]; exact H14.out.2.2))
    clear g5 eb
    have HHL := Lib.hid (HN.out.2.2)
    have hB15 := HG.out.below HB15.out HG.out.lt
    have HG15 := Lib.hid hB15
    clear hB15
    have fin : ∀ w : World, TypeLaid w → True := fun _ _ => trivial
    clear fin
    by_cases hl0 : long < 0
    · rw [if_pos hl0] at hr5
      rw [if_pos hl0]
      simp only at hr5 ⊢
      have HR := Lib.hid hr5
      clear hr5
      go_wp2_with fail
      refine (err_any r2 _ w15 HR.out).mono ?_
      rintro e w16 ⟨v16, rfl, rfl, _, hv⟩
      obtain ⟨b16, s16, rfl, hc16⟩ := hv 1 rfl
      clear hv hc16
      go_wp2_with fail
      refine (new_any w16).mono ?_
      rintro e w21 ⟨rfl, hw1, hb1⟩
      have H21 := Lib.hid (And.intro hw1 (And.intro (below_trans HB15.out hb1) HB15.out.size))
      obtain ⟨ct, w22, hcv, hct, hrt, hbt, hst⟩ := run_text Tryd.underlying9 Tryd.underlying22 Tryd.underlying5 ⟨xs.toArray⟩ w21
      have H22 := Lib.hid (And.intro hrt (And.intro hct (And.intro hbt (And.intro (hw1.below hbt) (And.intro (below_trans (below_trans HB15.out hb1) hbt) hb1.size)))))
      clear hw1 hb1 hct hrt hbt hst
      go_wp2_with fail
      refine (bytes_any _ ct _ _ _ xs w16.heap.size w22 H22.out.2.2.2.1 (by have := HTL.out; simp only [List.length_nil]; omega) H22.out.1 (fun ad e _ => ⟨fun e' => by injection e with e; subst e; simp only at e'; have := H21.out.1.lt; omega, fun e' => by cases e'⟩)).mono ?_
      rintro e w23 ⟨rfl, v23, hw2, hx2⟩
      have hb2 : Below w.heap.size w w23 := H22.out.2.2.2.2.1.trans (hx2.below HB15.out.size H22.out.2.2.2.2.1.size (fun k e => by cases e))
      rw [List.nil_append, HYS.out] at hw2
      have H23 := Lib.hid (And.intro hw2 hb2)
      clear hw2 hb2 hx2 hcv
      go_wp2_with fail
      refine (done_any _ v23 _ w16.heap.size w23 H23.out.1 (by have := HL10.out; have := HTL.out; rw [← HYS.out, List.length_append]; omega)).mono ?_
      rintro e w24 ⟨v24, rfl, ho3, hb3⟩
      obtain ⟨A24, c24, rfl, hc3, hr3, _⟩ := own_slice ho3
      have H24 := Lib.hid (And.intro hr3 (And.intro hc3 (below_trans H23.out.2 hb3)))
      clear ho3 hr3 hc3 hb3
      go_wp2_with fail
      refine (read_any A24 c24 ys w24 H24.out.1 H24.out.2.1 (by have := HL10.out; have := HTL.out; rw [← HYS.out, List.length_append]; omega)).mono ?_
      rintro e w25 ⟨rfl, hr4, hb4⟩
      have H25 := Lib.hid (And.intro hr4 (And.intro (below_trans H24.out.2.2 hb4) H24.out.2.2.size))
      clear hr4 hb4
      generalize w24.heap.size = r3 at *
      go_wp2_with fail
      refine (count_ok r3 _ ⟨xs, none⟩ xs.length w25 H25.out.1 rfl (by rw [← HYS.out, uint_bound _ _ _ (by have := HTL.out; omega), if_neg (by have := HTL.out; omega)]) rfl (Nat.le_refl _) HTL.out).mono ?_
      rintro e w26 ⟨rfl, hr6, g6⟩
      have H26 := Lib.hid (And.intro hr6 (H25.out.2.1.grown g6 H25.out.2.1.size (fun k' e => by injection e with e; rw [← e]; exact H25.out.2.2)))
      clear hr6 g6
      go_wp2_with fail
      refine (err_any r3 _ w26 H26.out.1).mono ?_
      rintro e w27 ⟨v27, rfl, rfl, hv, _⟩
      obtain rfl := hv rfl
      clear hv
      go_wp2_with fail
      refine (left_any r3 _ w27 H26.out.1).mono ?_
      rintro e w28 ⟨rfl, rfl⟩
      go_wp2_with fail
      refine (packSure_any _).mono ?_
      rintro e w29 ⟨rfl, hb29⟩
      go_wp2
      go_ret
      exact ⟨rfl, below_trans H26.out.2 hb29⟩
    · rw [if_neg hl0] at hr5
      rw [if_neg hl0]
      have hl0' : 0 ≤ long := by omega
      clear hl0
      by_cases hl1 : long < (xs.length : Int)
      · rw [if_pos hl1] at hr5
        rw [if_pos hl1]
        simp only at hr5 ⊢
        have HR := Lib.hid hr5
        clear hr5
        go_wp2_with fail
        refine (err_any r2 _ w15 HR.out).mono ?_
        rintro e w16 ⟨v16, rfl, rfl, _, hv⟩
        obtain ⟨b16, s16, rfl, hc16⟩ := hv 2 rfl
        clear hv hc16
        go_wp2_with fail
        refine (new_any w16).mono ?_
        rintro e w21 ⟨rfl, hw1, hb1⟩
        have H21 := Lib.hid (And.intro hw1 (And.intro (below_trans HB15.out hb1) HB15.out.size))
        obtain ⟨ct, w22, hcv, hct, hrt, hbt, hst⟩ := run_text Tryd.underlying9 Tryd.underlying22 Tryd.underlying5 ⟨xs.toArray⟩ w21
        have H22 := Lib.hid (And.intro hrt (And.intro hct (And.intro hbt (And.intro (hw1.below hbt) (And.intro (below_trans (below_trans HB15.out hb1) hbt) hb1.size)))))
        clear hw1 hb1 hct hrt hbt hst
        go_wp2_with fail
        refine (bytes_any _ ct _ _ _ xs w16.heap.size w22 H22.out.2.2.2.1 (by have := HTL.out; simp only [List.length_nil]; omega) H22.out.1 (fun ad e _ => ⟨fun e' => by injection e with e; subst e; simp only at e'; have := H21.out.1.lt; omega, fun e' => by cases e'⟩)).mono ?_
        rintro e w23 ⟨rfl, v23, hw2, hx2⟩
        have hb2 : Below w.heap.size w w23 := H22.out.2.2.2.2.1.trans (hx2.below HB15.out.size H22.out.2.2.2.2.1.size (fun k e => by cases e))
        rw [List.nil_append, HYS.out] at hw2
        have H23 := Lib.hid (And.intro hw2 hb2)
        clear hw2 hb2 hx2 hcv
        go_wp2_with fail
        refine (done_any _ v23 _ w16.heap.size w23 H23.out.1 (by have := HL10.out; have := HTL.out; rw [← HYS.out, List.length_append]; omega)).mono ?_
        rintro e w24 ⟨v24, rfl, ho3, hb3⟩
        obtain ⟨A24, c24, rfl, hc3, hr3, _⟩ := own_slice ho3
        have H24 := Lib.hid (And.intro hr3 (And.intro hc3 (below_trans H23.out.2 hb3)))
        clear ho3 hr3 hc3 hb3
        go_wp2_with fail
        refine (read_any A24 c24 ys w24 H24.out.1 H24.out.2.1 (by have := HL10.out; have := HTL.out; rw [← HYS.out, List.length_append]; omega)).mono ?_
        rintro e w25 ⟨rfl, hr4, hb4⟩
        have H25 := Lib.hid (And.intro hr4 (And.intro (below_trans H24.out.2.2 hb4) H24.out.2.2.size))
        clear hr4 hb4
        generalize w24.heap.size = r3 at *
        go_wp2_with fail
        refine (count_ok r3 _ ⟨xs, none⟩ xs.length w25 H25.out.1 rfl (by rw [← HYS.out, uint_bound _ _ _ (by have := HTL.out; omega), if_neg (by have := HTL.out; omega)]) rfl (Nat.le_refl _) HTL.out).mono ?_
        rintro e w26 ⟨rfl, hr6, g6⟩
        have H26 := Lib.hid (And.intro hr6 (H25.out.2.1.grown g6 H25.out.2.1.size (fun k' e => by injection e with e; rw [← e]; exact H25.out.2.2)))
        clear hr6 g6
        go_wp2_with fail
        refine (err_any r3 _ w26 H26.out.1).mono ?_
        rintro e w27 ⟨v27, rfl, rfl, hv, _⟩
        obtain rfl := hv rfl
        clear hv
        go_wp2_with fail
        refine (left_any r3 _ w27 H26.out.1).mono ?_
        rintro e w28 ⟨rfl, rfl⟩
        go_wp2_with fail
        refine (packSure_any _).mono ?_
        rintro e w29 ⟨rfl, hb29⟩
        go_wp2
        go_ret
        exact ⟨rfl, below_trans H26.out.2 hb29⟩
      · rw [if_neg hl1] at hr5
        rw [if_neg hl1]
        simp only at hr5 ⊢
        have hl1' : (xs.length : Int) ≤ long := by omega
        have HR := Lib.hid hr5
        clear hr5 hl1
        go_wp2_with fail
        refine (err_any r2 _ w15 HR.out).mono ?_
        rintro e w16 ⟨v16, rfl, rfl, hv, _⟩
        obtain rfl := hv rfl
        clear hv
        go_wp2_with fail
        refine (new_any w16).mono ?_
        rintro e w21 ⟨rfl, hw1, hb1⟩
        have H21 := Lib.hid (And.intro hw1 (And.intro (below_trans HB15.out hb1) HB15.out.size))
        obtain ⟨ct, w22, hcv, hct, hrt, hbt, hst⟩ := run_text Tryd.underlying9 Tryd.underlying22 Tryd.underlying5 ⟨xs.toArray⟩ w21
        have H22 := Lib.hid (And.intro hrt (And.intro hct (And.intro hbt (And.intro (hw1.below hbt) (And.intro (below_trans (below_trans HB15.out hb1) hbt) hb1.size)))))
        clear hw1 hb1 hct hrt hbt hst
        go_wp2_with fail
        refine (bytes_any _ ct _ _ _ xs w16.heap.size w22 H22.out.2.2.2.1 (by have := HTL.out; simp only [List.length_nil]; omega) H22.out.1 (fun ad e _ => ⟨fun e' => by injection e with e; subst e; simp only at e'; have := H21.out.1.lt; omega, fun e' => by cases e'⟩)).mono ?_
        rintro e w23 ⟨rfl, v23, hw2, hx2⟩
        have hb2 : Below w.heap.size w w23 := H22.out.2.2.2.2.1.trans (hx2.below HB15.out.size H22.out.2.2.2.2.1.size (fun k e => by cases e))
        rw [List.nil_append, HYS.out] at hw2
        have H23 := Lib.hid (And.intro hw2 hb2)
        clear hw2 hb2 hx2 hcv
        go_wp2_with fail
        refine (done_any _ v23 _ w16.heap.size w23 H23.out.1 (by have := HL10.out; have := HTL.out; rw [← HYS.out, List.length_append]; omega)).mono ?_
        rintro e w24 ⟨v24, rfl, ho3, hb3⟩
        obtain ⟨A24, c24, rfl, hc3, hr3, _⟩ := own_slice ho3
        have H24 := Lib.hid (And.intro hr3 (And.intro hc3 (below_trans H23.out.2 hb3)))
        clear ho3 hr3 hc3 hb3
        go_wp2_with fail
        refine (read_any A24 c24 ys w24 H24.out.1 H24.out.2.1 (by have := HL10.out; have := HTL.out; rw [← HYS.out, List.length_append]; omega)).mono ?_
        rintro e w25 ⟨rfl, hr4, hb4⟩
        have H25 := Lib.hid (And.intro hr4 (And.intro (below_trans H24.out.2.2 hb4) H24.out.2.2.size))
        clear hr4 hb4
        generalize w24.heap.size = r3 at *
        go_wp2_with fail
        refine (count_ok r3 _ ⟨xs, none⟩ xs.length w25 H25.out.1 rfl (by rw [← HYS.out, uint_bound _ _ _ (by have := HTL.out; omega), if_neg (by have := HTL.out; omega)]) rfl (Nat.le_refl _) HTL.out).mono ?_
        rintro e w26 ⟨rfl, hr6, g6⟩
        have H26 := Lib.hid (And.intro hr6 (H25.out.2.1.grown g6 H25.out.2.1.size (fun k' e => by injection e with e; rw [← e]; exact H25.out.2.2)))
        clear hr6 g6
        go_wp2_with fail
        refine (err_any r3 _ w26 H26.out.1).mono ?_
        rintro e w27 ⟨v27, rfl, rfl, hv, _⟩
        obtain rfl := hv rfl
        clear hv
        go_wp2_with fail
        refine (left_any r3 _ w27 H26.out.1).mono ?_
        rintro e w28 ⟨rfl, rfl⟩
        go_wp2_with fail
        refine (packSure_any _).mono ?_
        rintro e w29 ⟨rfl, hb29⟩
        go_wp2
        go_ret
        exact ⟨rfl, below_trans H26.out.2 hb29⟩
  · rw [if_neg hmn] at hr5
    rw [if_neg hmn]
    simp only at hr5 ⊢
    have hmi : (n : Int) ≤ (m : Int) := by omega
    have HR5 := Lib.hid hr5
    clear hr5 hmn
    go_wp2_with fail
    refine (err_any r _ w5 HR5.out).mono ?_
    rintro e w6 ⟨v6, rfl, rfl, hv, _⟩
    obtain rfl := hv rfl
    clear hv
    go_wp2_with fail
    refine (err_any r _ w6 HR5.out).mono ?_
    rintro e w7 ⟨v7, rfl, rfl, hv, _⟩
    obtain rfl := hv rfl
    clear hv
    have HBX := HB5
    clear hmi
    generalize w7 = wx at *
    have HTL : Hid (xs.length ≤ 1048576) := Lib.hid (by have := HLI.out; omega)
    go_wp2_with fail
    refine (new_any wx).mono ?_
    rintro e w11 ⟨rfl, hw1, hb1⟩
    have H11 := Lib.hid (And.intro hw1 (And.intro (below_trans HBX.out hb1) HBX.out.size))
    clear hw1 hb1
    go_wp2_with fail
    refine (text_any ⟨xs.toArray⟩ _ _ _ wx.heap.size w11 H11.out.1 (by have := HTL.out; simp only [List.length_nil]; omega)).mono ?_
    rintro e w12 ⟨rfl, v12, hw2, hx2⟩
    have hb2 : Below w.heap.size w w12 := H11.out.2.1.trans (hx2.below H11.out.2.2 H11.out.2.1.size (fun k e => by cases e))
    rw [List.nil_append] at hw2
    have H12 := Lib.hid (And.intro hw2 hb2)
    clear hw2 hb2 hx2
    have hl10 := varint_len10 xs.length (by have := HTL.out; omega)
    have HL10 := Lib.hid hl10
    clear hl10
    go_wp2_with fail
    refine (done_any _ v12 _ wx.heap.size w12 H12.out.1 (by have := HL10.out; have := HTL.out; rw [List.length_append]; omega)).mono ?_
    rintro e w13 ⟨v13, rfl, ho3, hb3⟩
    obtain ⟨A13, c13, rfl, hc3, hr3, _⟩ := own_slice ho3
    have H13 := Lib.hid (And.intro hr3 (And.intro hc3 (below_trans H12.out.2 hb3)))
    clear ho3 hr3 hc3 hb3
    generalize hys : varint xs.length ++ xs = ys at *
    have HYS := Lib.hid hys
    clear hys
    go_wp2_with fail
    refine (read_any A13 c13 ys w13 H13.out.1 H13.out.2.1 (by have := HL10.out; have := HTL.out; rw [← HYS.out, List.length_append]; omega)).mono ?_
    rintro e w14 ⟨rfl, hr4, hb4⟩
    have H14 := Lib.hid (And.intro hr4 (And.intro (below_trans H13.out.2.2 hb4) H13.out.2.2.size))
    clear hr4 hb4
    generalize w13.heap.size = r2 at *
    go_wp2_with fail
    refine (rtext_any r2 _ long w14 H14.out.1 HN.out.2.2).mono ?_
    rintro e w15 ⟨rfl, hr5, g5⟩
    have eb := bytes_bound xs long HTL.out
    rw [HYS.out] at eb
    rw [eb] at hr5
    rw [eb]
    have HB15 : Hid (Below w.heap.size w w15) := Lib.hid (H14.out.2.1.grown g5 H14.out.2.1.size (fun k' e => by injection e with e; rw [← e]; exact H14.out.2.2))
    clear g5 eb
    have HHL := Lib.hid (HN.out.2.2)
    have hB15 := HG.out.below HB15.out HG.out.lt
    have HG15 := Lib.hid hB15
    clear hB15
    have fin : ∀ w : World, TypeLaid w → True := fun _ _ => trivial
    clear fin
    by_cases hl0 : long < 0
    · rw [if_pos hl0] at hr5
      rw [if_pos hl0]
      simp only at hr5 ⊢
      have HR := Lib.hid hr5
      clear hr5
      go_wp2_with fail
      refine (err_any r2 _ w15 HR.out).mono ?_
      rintro e w16 ⟨v16, rfl, rfl, _, hv⟩
      obtain ⟨b16, s16, rfl, hc16⟩ := hv 1 rfl
      clear hv hc16
      go_wp2_with fail
      refine (new_any w16).mono ?_
      rintro e w21 ⟨rfl, hw1, hb1⟩
      have H21 := Lib.hid (And.intro hw1 (And.intro (below_trans HB15.out hb1) HB15.out.size))
      obtain ⟨ct, w22, hcv, hct, hrt, hbt, hst⟩ := run_text Tryd.underlying9 Tryd.underlying22 Tryd.underlying5 ⟨xs.toArray⟩ w21
      have H22 := Lib.hid (And.intro hrt (And.intro hct (And.intro hbt (And.intro (hw1.below hbt) (And.intro (below_trans (below_trans HB15.out hb1) hbt) hb1.size)))))
      clear hw1 hb1 hct hrt hbt hst
      go_wp2_with fail
      refine (bytes_any _ ct _ _ _ xs w16.heap.size w22 H22.out.2.2.2.1 (by have := HTL.out; simp only [List.length_nil]; omega) H22.out.1 (fun ad e _ => ⟨fun e' => by injection e with e; subst e; simp only at e'; have := H21.out.1.lt; omega, fun e' => by cases e'⟩)).mono ?_
      rintro e w23 ⟨rfl, v23, hw2, hx2⟩
      have hb2 : Below w.heap.size w w23 := H22.out.2.2.2.2.1.trans (hx2.below HB15.out.size H22.out.2.2.2.2.1.size (fun k e => by cases e))
      rw [List.nil_append, HYS.out] at hw2
      have H23 := Lib.hid (And.intro hw2 hb2)
      clear hw2 hb2 hx2 hcv
      go_wp2_with fail
      refine (done_any _ v23 _ w16.heap.size w23 H23.out.1 (by have := HL10.out; have := HTL.out; rw [← HYS.out, List.length_append]; omega)).mono ?_
      rintro e w24 ⟨v24, rfl, ho3, hb3⟩
      obtain ⟨A24, c24, rfl, hc3, hr3, _⟩ := own_slice ho3
      have H24 := Lib.hid (And.intro hr3 (And.intro hc3 (below_trans H23.out.2 hb3)))
      clear ho3 hr3 hc3 hb3
      go_wp2_with fail
      refine (read_any A24 c24 ys w24 H24.out.1 H24.out.2.1 (by have := HL10.out; have := HTL.out; rw [← HYS.out, List.length_append]; omega)).mono ?_
      rintro e w25 ⟨rfl, hr4, hb4⟩
      have H25 := Lib.hid (And.intro hr4 (And.intro (below_trans H24.out.2.2 hb4) H24.out.2.2.size))
      clear hr4 hb4
      generalize w24.heap.size = r3 at *
      go_wp2_with fail
      refine (count_ok r3 _ ⟨xs, none⟩ xs.length w25 H25.out.1 rfl (by rw [← HYS.out, uint_bound _ _ _ (by have := HTL.out; omega), if_neg (by have := HTL.out; omega)]) rfl (Nat.le_refl _) HTL.out).mono ?_
      rintro e w26 ⟨rfl, hr6, g6⟩
      have H26 := Lib.hid (And.intro hr6 (H25.out.2.1.grown g6 H25.out.2.1.size (fun k' e => by injection e with e; rw [← e]; exact H25.out.2.2)))
      clear hr6 g6
      go_wp2_with fail
      refine (err_any r3 _ w26 H26.out.1).mono ?_
      rintro e w27 ⟨v27, rfl, rfl, hv, _⟩
      obtain rfl := hv rfl
      clear hv
      go_wp2_with fail
      refine (left_any r3 _ w27 H26.out.1).mono ?_
      rintro e w28 ⟨rfl, rfl⟩
      go_wp2_with fail
      refine (packSure_any _).mono ?_
      rintro e w29 ⟨rfl, hb29⟩
      go_wp2
      go_ret
      exact ⟨rfl, below_trans H26.out.2 hb29⟩
    · rw [if_neg hl0] at hr5
      rw [if_neg hl0]
      have hl0' : 0 ≤ long := by omega
      clear hl0
      by_cases hl1 : long < (xs.length : Int)
      · rw [if_pos hl1] at hr5
        rw [if_pos hl1]
        simp only at hr5 ⊢
        have HR := Lib.hid hr5
        clear hr5
        go_wp2_with fail
        refine (err_any r2 _ w15 HR.out).mono ?_
        rintro e w16 ⟨v16, rfl, rfl, _, hv⟩
        obtain ⟨b16, s16, rfl, hc16⟩ := hv 2 rfl
        clear hv hc16
        go_wp2_with fail
        refine (new_any w16).mono ?_
        rintro e w21 ⟨rfl, hw1, hb1⟩
        have H21 := Lib.hid (And.intro hw1 (And.intro (below_trans HB15.out hb1) HB15.out.size))
        obtain ⟨ct, w22, hcv, hct, hrt, hbt, hst⟩ := run_text Tryd.underlying9 Tryd.underlying22 Tryd.underlying5 ⟨xs.toArray⟩ w21
        have H22 := Lib.hid (And.intro hrt (And.intro hct (And.intro hbt (And.intro (hw1.below hbt) (And.intro (below_trans (below_trans HB15.out hb1) hbt) hb1.size)))))
        clear hw1 hb1 hct hrt hbt hst
        go_wp2_with fail
        refine (bytes_any _ ct _ _ _ xs w16.heap.size w22 H22.out.2.2.2.1 (by have := HTL.out; simp only [List.length_nil]; omega) H22.out.1 (fun ad e _ => ⟨fun e' => by injection e with e; subst e; simp only at e'; have := H21.out.1.lt; omega, fun e' => by cases e'⟩)).mono ?_
        rintro e w23 ⟨rfl, v23, hw2, hx2⟩
        have hb2 : Below w.heap.size w w23 := H22.out.2.2.2.2.1.trans (hx2.below HB15.out.size H22.out.2.2.2.2.1.size (fun k e => by cases e))
        rw [List.nil_append, HYS.out] at hw2
        have H23 := Lib.hid (And.intro hw2 hb2)
        clear hw2 hb2 hx2 hcv
        go_wp2_with fail
        refine (done_any _ v23 _ w16.heap.size w23 H23.out.1 (by have := HL10.out; have := HTL.out; rw [← HYS.out, List.length_append]; omega)).mono ?_
        rintro e w24 ⟨v24, rfl, ho3, hb3⟩
        obtain ⟨A24, c24, rfl, hc3, hr3, _⟩ := own_slice ho3
        have H24 := Lib.hid (And.intro hr3 (And.intro hc3 (below_trans H23.out.2 hb3)))
        clear ho3 hr3 hc3 hb3
        go_wp2_with fail
        refine (read_any A24 c24 ys w24 H24.out.1 H24.out.2.1 (by have := HL10.out; have := HTL.out; rw [← HYS.out, List.length_append]; omega)).mono ?_
        rintro e w25 ⟨rfl, hr4, hb4⟩
        have H25 := Lib.hid (And.intro hr4 (And.intro (below_trans H24.out.2.2 hb4) H24.out.2.2.size))
        clear hr4 hb4
        generalize w24.heap.size = r3 at *
        go_wp2_with fail
        refine (count_ok r3 _ ⟨xs, none⟩ xs.length w25 H25.out.1 rfl (by rw [← HYS.out, uint_bound _ _ _ (by have := HTL.out; omega), if_neg (by have := HTL.out; omega)]) rfl (Nat.le_refl _) HTL.out).mono ?_
        rintro e w26 ⟨rfl, hr6, g6⟩
        have H26 := Lib.hid (And.intro hr6 (H25.out.2.1.grown g6 H25.out.2.1.size (fun k' e => by injection e with e; rw [← e]; exact H25.out.2.2)))
        clear hr6 g6
        go_wp2_with fail
        refine (err_any r3 _ w26 H26.out.1).mono ?_
        rintro e w27 ⟨v27, rfl, rfl, hv, _⟩
        obtain rfl := hv rfl
        clear hv
        go_wp2_with fail
        refine (left_any r3 _ w27 H26.out.1).mono ?_
        rintro e w28 ⟨rfl, rfl⟩
        go_wp2_with fail
        refine (packSure_any _).mono ?_
        rintro e w29 ⟨rfl, hb29⟩
        go_wp2
        go_ret
        exact ⟨rfl, below_trans H26.out.2 hb29⟩
      · rw [if_neg hl1] at hr5
        rw [if_neg hl1]
        simp only at hr5 ⊢
        have hl1' : (xs.length : Int) ≤ long := by omega
        have HR := Lib.hid hr5
        clear hr5 hl1
        go_wp2_with fail
        refine (err_any r2 _ w15 HR.out).mono ?_
        rintro e w16 ⟨v16, rfl, rfl, hv, _⟩
        obtain rfl := hv rfl
        clear hv
        go_wp2_with fail
        refine (new_any w16).mono ?_
        rintro e w21 ⟨rfl, hw1, hb1⟩
        have H21 := Lib.hid (And.intro hw1 (And.intro (below_trans HB15.out hb1) HB15.out.size))
        obtain ⟨ct, w22, hcv, hct, hrt, hbt, hst⟩ := run_text Tryd.underlying9 Tryd.underlying22 Tryd.underlying5 ⟨xs.toArray⟩ w21
        have H22 := Lib.hid (And.intro hrt (And.intro hct (And.intro hbt (And.intro (hw1.below hbt) (And.intro (below_trans (below_trans HB15.out hb1) hbt) hb1.size)))))
        clear hw1 hb1 hct hrt hbt hst
        go_wp2_with fail
        refine (bytes_any _ ct _ _ _ xs w16.heap.size w22 H22.out.2.2.2.1 (by have := HTL.out; simp only [List.length_nil]; omega) H22.out.1 (fun ad e _ => ⟨fun e' => by injection e with e; subst e; simp only at e'; have := H21.out.1.lt; omega, fun e' => by cases e'⟩)).mono ?_
        rintro e w23 ⟨rfl, v23, hw2, hx2⟩
        have hb2 : Below w.heap.size w w23 := H22.out.2.2.2.2.1.trans (hx2.below HB15.out.size H22.out.2.2.2.2.1.size (fun k e => by cases e))
        rw [List.nil_append, HYS.out] at hw2
        have H23 := Lib.hid (And.intro hw2 hb2)
        clear hw2 hb2 hx2 hcv
        go_wp2_with fail
        refine (done_any _ v23 _ w16.heap.size w23 H23.out.1 (by have := HL10.out; have := HTL.out; rw [← HYS.out, List.length_append]; omega)).mono ?_
        rintro e w24 ⟨v24, rfl, ho3, hb3⟩
        obtain ⟨A24, c24, rfl, hc3, hr3, _⟩ := own_slice ho3
        have H24 := Lib.hid (And.intro hr3 (And.intro hc3 (below_trans H23.out.2 hb3)))
        clear ho3 hr3 hc3 hb3
        go_wp2_with fail
        refine (read_any A24 c24 ys w24 H24.out.1 H24.out.2.1 (by have := HL10.out; have := HTL.out; rw [← HYS.out, List.length_append]; omega)).mono ?_
        rintro e w25 ⟨rfl, hr4, hb4⟩
        have H25 := Lib.hid (And.intro hr4 (And.intro (below_trans H24.out.2.2 hb4) H24.out.2.2.size))
        clear hr4 hb4
        generalize w24.heap.size = r3 at *
        go_wp2_with fail
        refine (count_ok r3 _ ⟨xs, none⟩ xs.length w25 H25.out.1 rfl (by rw [← HYS.out, uint_bound _ _ _ (by have := HTL.out; omega), if_neg (by have := HTL.out; omega)]) rfl (Nat.le_refl _) HTL.out).mono ?_
        rintro e w26 ⟨rfl, hr6, g6⟩
        have H26 := Lib.hid (And.intro hr6 (H25.out.2.1.grown g6 H25.out.2.1.size (fun k' e => by injection e with e; rw [← e]; exact H25.out.2.2)))
        clear hr6 g6
        go_wp2_with fail
        refine (err_any r3 _ w26 H26.out.1).mono ?_
        rintro e w27 ⟨v27, rfl, rfl, hv, _⟩
        obtain rfl := hv rfl
        clear hv
        go_wp2_with fail
        refine (left_any r3 _ w27 H26.out.1).mono ?_
        rintro e w28 ⟨rfl, rfl⟩
        go_wp2_with fail
        refine (packSure_any _).mono ?_
        rintro e w29 ⟨rfl, hb29⟩
        go_wp2
        go_ret
        exact ⟨rfl, below_trans H26.out.2 hb29⟩
#print axioms bounds_any
end Go.Proofs.YtdmopnmifdjcnaaDoor
