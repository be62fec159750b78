/- Layer 2: Bool off bytes, and what must come. -/
import Derived.Test.YtdmopnmifdjcnaaDoorPackC
namespace Go.Proofs.YtdmopnmifdjcnaaDoor
open Go Go.RowKit Go.Isth

theorem take_none {s : RS} {k : Int} (h : s.err = some k) (n : Nat) : s.take n = ([], s) := by unfold RS.take; rw [if_pos (by rw [h]; simp)]
theorem fail_some {s : RS} {k : Int} (h : s.err = some k) (j : Int) : s.fail j = s := by unfold RS.fail; rw [if_neg (by rw [h]; simp)]
theorem fail_none {s : RS} (h : s.err = none) (j : Int) : s.fail j = { s with err := some j } := by unfold RS.fail; rw [if_pos h]

set_option maxRecDepth 100000 in
theorem rbool_any (r : Nat) (s : RS) (w : World) (h : RIs w r s) :
    Calls Tryd.prog 23 #[Ptr r] w fun e w' => e = .returned (.bool s.bool.1) ∧ RIs w' r s.bool.2 ∧ w.grownBy w' (some r) := by
  have H := Lib.hid h
  obtain ⟨A, c, ev, hc, hf, hr, hn, hs, h0, h1⟩ := h.of
  obtain ⟨hc0, hc1, hf0, hf1, hlt⟩ := two_cells hc
  have HR := Lib.hid hr
  clear hc hf hr hn h hs h0 h1
  rcases he : s.err with _ | k
  · rcases hx : s.rest with _ | ⟨x, xs⟩
    · have hl : s.rest.length = 0 := by rw [hx]; rfl
      rw [hl] at hc0
      have HE := Lib.hid he
      have HX := Lib.hid hx
      have HT : Hid (s.take 1 = ([], s.fail 12) ∧ s.boolS = s) := Lib.hid ⟨by unfold RS.take; rw [if_neg (by rw [he]; simp), if_pos (by rw [hl]; omega)], by unfold RS.boolS; rw [if_neg (by rw [hl]; simp)]⟩
      clear hx he hl
      go_enter Tryd.func23, Tryd.ntmps23
      go_wp2_with fail
      refine (live_any r s w H.out).mono ?_
      rintro e w1 ⟨rfl, rfl⟩
      rw [HE.out]
      go_wp2_with fail
      refine (take_any r s _ 1 w1 H.out (by omega)).mono ?_
      rintro e w2 ⟨v, rfl, ho, h3, h4⟩
      rw [HT.out.1] at ho h3
      obtain ⟨A1, c1, rfl, _⟩ := own_slice ho
      have H3 := Lib.hid h3
      clear ho h3
      go_wp2
      go_ret
      unfold RS.bool
      rw [HT.out.2, HT.out.1]
      exact ⟨rfl, H3.out, h4⟩
    · have hl : (0 : Int) < ((s.rest.length : Nat) : Int) := by rw [hx]; simp
      have hln : 0 < s.rest.length := by rw [hx]; simp
      obtain ⟨b, o, rfl, _, hcell⟩ := HR.out.at_ (by simpa using hln)
      have hx0 := hcell 0 (by simpa using hln)
      simp only [List.getElem_map, Nat.add_zero] at hx0
      have hg : s.rest[0] = x := by simp [hx]
      rw [hg] at hx0
      have hxlt := x.toNat_lt
      have hh : s.rest.headD 0 = x := by rw [hx]; rfl
      by_cases hbig : 1 < x.toNat
      · have hi : (1 : Int) < (x.toNat : Int) := by omega
        have HT : Hid (s.boolS = s.fail 3 ∧ (s.fail 3).err = some 3) := Lib.hid ⟨by unfold RS.boolS; rw [if_pos ⟨he, hln, by rw [hh]; exact hbig⟩], by rw [fail_none he]⟩
        have HE := Lib.hid he
        clear hx he hg hxlt hh hbig hcell
        go_enter Tryd.func23, Tryd.ntmps23
        go_wp2_with fail
        refine (live_any r s w H.out).mono ?_
        rintro e w1 ⟨rfl, rfl⟩
        rw [HE.out]
        go_wp2_with fail
        refine (fail_any r s _ 3 w1 H.out).mono ?_
        rintro e w2 ⟨rfl, h3, h4⟩
        clear hc0 hc1 hf0 hf1 hx0
        go_wp2_with fail
        refine (take_any r _ _ 1 w2 h3 (by omega)).mono ?_
        rintro e w3 ⟨v, rfl, ho, h5, h6⟩
        have ht := take_none HT.out.2 1
        rw [ht] at ho h5
        obtain ⟨A1, c1, rfl, _⟩ := own_slice ho
        have H5 := Lib.hid h5
        have HTT := Lib.hid ht
        clear ho h5 ht h3
        go_wp2
        go_ret
        unfold RS.bool
        rw [HT.out.1, HTT.out]
        exact ⟨rfl, H5.out, grown_one h4 h6⟩
      · have hi : (x.toNat : Int) ≤ 1 := by omega
        have HT : Hid (s.boolS = s ∧ s.take 1 = ([x], { s with rest := xs })) := Lib.hid ⟨by unfold RS.boolS; rw [if_neg (fun h => hbig (by rw [hh] at h; exact h.2.2))], by unfold RS.take; rw [if_neg (by rw [he]; simp), if_neg (by omega), hx]; rfl⟩
        have HE := Lib.hid he
        have HB := Lib.hid hbig
        clear hx he hg hxlt hh hbig hcell
        go_enter Tryd.func23, Tryd.ntmps23
        go_wp2_with fail
        refine (live_any r s w H.out).mono ?_
        rintro e w1 ⟨rfl, rfl⟩
        rw [HE.out]
        go_wp2_with fail
        refine (take_any r s _ 1 w1 H.out (by omega)).mono ?_
        rintro e w2 ⟨v, rfl, ho, h3, h4⟩
        rw [HT.out.2] at ho h3
        obtain ⟨A1, c1, rfl, _, hr1, _⟩ := own_slice ho
        obtain ⟨b1, o1, rfl, _, hcell1⟩ := hr1.at_ (by simp)
        have hy0 := hcell1 0 (by simp)
        simp only [List.getElem_map, Nat.add_zero, List.getElem_cons_zero] at hy0
        have H3 := Lib.hid h3
        clear ho h3 hc0 hc1 hf0 hf1 hx0 hr1 hcell1
        go_wp2
        go_ret
        unfold RS.bool
        rw [HT.out.1, HT.out.2]
        refine ⟨?_, H3.out, h4⟩
        have := HB.out
        by_cases h1 : x = 1
        · subst h1; rfl
        · have h2 : x.toNat ≠ 1 := fun e => h1 (UInt8.toNat_inj.1 e)
          obtain rfl : x = 0 := UInt8.toNat_inj.1 (by have : (0 : UInt8).toNat = 0 := rfl; omega)
          rfl
  · have HT : Hid (s.take 1 = ([], s) ∧ s.boolS = s) := Lib.hid ⟨take_none he 1, by unfold RS.boolS; rw [if_neg (fun h => by rw [he] at h; cases h.1)]⟩
    have HE := Lib.hid he
    clear he
    go_enter Tryd.func23, Tryd.ntmps23
    go_wp2_with fail
    refine (live_any r s w H.out).mono ?_
    rintro e w1 ⟨rfl, rfl⟩
    rw [HE.out]
    go_wp2_with fail
    refine (take_any r s _ 1 w1 H.out (by omega)).mono ?_
    rintro e w2 ⟨v, rfl, ho, h3, h4⟩
    rw [HT.out.1] at ho h3
    obtain ⟨A1, c1, rfl, _⟩ := own_slice ho
    have H3 := Lib.hid h3
    clear ho h3
    go_wp2
    go_ret
    unfold RS.bool
    rw [HT.out.2, HT.out.1]
    exact ⟨rfl, H3.out, h4⟩

theorem varint_300 : varint 300 = [172, 2] := by rw [varint_great (by omega), varint_small (by omega)]; rfl

set_option maxRecDepth 100000 in
theorem packSure_any (w : World) : Calls Tryd.prog 27 #[] w fun e w' => e = .returned (.bool true) ∧ Below w.heap.size w w' := by
  go_enter Tryd.func27, Tryd.ntmps27
  go_wp2_with fail
  refine (new_any w).mono ?_
  rintro e w1 ⟨rfl, hw1, hb1⟩
  go_wp2_with fail
  refine (uint_any 300 _ _ _ w.heap.size w1 (by omega) hw1 (by simp)).mono ?_
  rintro e w2 ⟨rfl, v2, hw2, hx2⟩
  rw [varint_300] at hw2
  go_wp2_with fail
  refine (bool_any true _ _ _ w.heap.size w2 hw2 (by simp)).mono ?_
  rintro e w3 ⟨rfl, v3, hw3, hx3⟩
  have hb3 : Below w.heap.size w w3 := (hb1.trans (hx2.below (Nat.le_refl _) hb1.size (fun k e => by cases e))).trans (hx3.below (Nat.le_refl _) (Nat.le_trans hb1.size hx2.size) (fun k e => (hw2.own.lt k e).1))
  have HB3 := Lib.hid hb3
  have HW3 := Lib.hid hw3
  clear hb3 hw3 hx3 hx2 hw2 hw1 hb1
  go_wp2_with fail
  have hrd := Rd_alloc w3 #[B 172, B 2, B 1] 5
  refine (read_any _ 3 [172, 2, 1] _ hrd (by simp) (by simp)).mono ?_
  rintro e w4 ⟨rfl, hr4, hb4⟩
  have hb34 : Below w3.heap.size w3 w4 := below_trans ((Below.refl _ _).alloc (Nat.le_refl _) _) hb4
  have HR4 := Lib.hid hr4
  have HB34 := Lib.hid hb34
  clear hr4 hb34 hb4 hrd
  go_wp2_with fail
  refine (done_any _ v3 _ w.heap.size w4 (HW3.out.below HB34.out) (by simp)).mono ?_
  rintro e w5 ⟨v5, rfl, ho5, hb5⟩
  obtain ⟨A5, c5, rfl, hc5, hr5, _⟩ := own_slice ho5
  have hcs : (convert 22 9 (.slice A5 3 c5)).run Tryd.prog w5 = .ok (.string ⟨#[172, 2, 1]⟩) w5 := run_str Tryd.underlying22 Tryd.underlying5 Tryd.underlying9 A5 _ c5 [172, 2, 1] w5 rfl hr5
  have hr4' := HR4.out.below hb5
  rw [World.size_alloc] at hr4'
  have HR5 := Lib.hid hr4'
  have HB5 := Lib.hid hb5
  clear ho5 hb5 hr5 hc5 hr4'
  go_wp2_with fail
  have e1 : RS.uint ⟨[172, 2, 1], none⟩ 1000 = (300, ⟨[1], none⟩) := by rfl
  refine (ruint_any _ _ 1000 w5 HR5.out).mono ?_
  rintro e w6 ⟨rfl, hr6, hg6⟩
  rw [e1] at hr6
  rw [e1]
  have HR6 := Lib.hid hr6
  have HG6 := Lib.hid hg6
  clear hr6 hg6 e1
  go_wp2_with fail
  have e2 : RS.bool ⟨[1], none⟩ = (true, ⟨[], none⟩) := by rfl
  refine (rbool_any _ _ w6 HR6.out).mono ?_
  rintro e w7 ⟨rfl, hr7, hg7⟩
  rw [e2] at hr7
  rw [e2]
  have HR7 := Lib.hid hr7
  have HG7 := Lib.hid hg7
  clear hr7 hg7 e2
  go_wp2_with fail
  refine (rdone_any _ _ w7 HR7.out).mono ?_
  rintro e w8 ⟨v, rfl, hb8, hv, _⟩
  obtain rfl := hv rfl
  go_wp2
  go_ret
  have hB4 : Below w.heap.size w w4 := HB3.out.trans (HB34.out.mono HB3.out.size)
  have hB5 : Below w.heap.size w w5 := hB4.trans (HB5.out.mono hB4.size)
  have h36 : w.heap.size ≤ w3.heap.size + 1 := Nat.le_succ_of_le HB3.out.size
  have hB7 : Below w.heap.size w w7 := hB5.grown (grown_one HG6.out HG7.out) hB5.size (fun k e => by cases e; exact h36)
  exact ⟨rfl, hB7.trans (hb8.mono hB7.size)⟩
#print axioms packSure_any
end Go.Proofs.YtdmopnmifdjcnaaDoor
