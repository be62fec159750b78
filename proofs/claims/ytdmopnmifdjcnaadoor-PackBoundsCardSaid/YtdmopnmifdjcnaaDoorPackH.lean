/- Layer 2's reader: Int, Bytes, Text, Hash, Left. -/
import Derived.Test.YtdmopnmifdjcnaaDoorPackD
import Derived.Deep.Cut
namespace Go.Proofs.YtdmopnmifdjcnaaDoor
open Go Go.RowKit Go.Isth

def unzig (n : Nat) : Int := if n % 2 = 0 then ((n / 2 : Nat) : Int) else -((n / 2 : Nat) : Int) - 1
theorem unzig_zig (n : Int) : unzig (zig n) = n := by
  unfold unzig zig
  by_cases h : 0 ≤ n
  · rw [if_pos h, if_pos (by omega)]; omega
  · rw [if_neg h, if_neg (by omega)]; omega

theorem and_one (n : Nat) (hn : n ≤ 18446744073709551615) : bits .and .u64 (n : Int) 1 = ((n % 2 : Nat) : Int) := by
  have e1 : (n : Int) = (((BitVec.ofNat 64 n).toNat : Nat) : Int) := by rw [BitVec.toNat_ofNat, Nat.mod_eq_of_lt (by omega)]
  have e2 : (1 : Int) = (((1#64).toNat : Nat) : Int) := rfl
  rw [e1, e2, and64, BitVec.toNat_and, BitVec.toNat_ofNat, Nat.mod_eq_of_lt (by omega), show (1#64).toNat = 1 from rfl, Nat.and_one_is_mod]
theorem xorI (a b : Int) (x y : BitVec 64) (ha : BitVec.ofInt 64 a = x) (hb : BitVec.ofInt 64 b = y) : bits .xor .i64 a b = wrap64 ((x ^^^ y).toNat : Int) := by
  subst ha; subst hb
  have h : bits .xor .i64 a b = IntKind.i64.wrap ((BitVec.ofInt 64 a ^^^ BitVec.ofInt 64 b).toNat : Int) := rfl
  rw [h, IntKind.wrap_i64, wrap64]
theorem unzig_run (n : Nat) (hn : n ≤ 18446744073709551615) : bits .xor .i64 ((n : Int) / 2) (wrap64 (-wrap64 (bits .and .u64 (n : Int) 1))) = unzig n := by
  rw [and_one n hn]
  have e0 : (n : Int) / 2 = ((n / 2 : Nat) : Int) := by omega
  have e1 : BitVec.ofInt 64 ((n / 2 : Nat) : Int) = BitVec.ofNat 64 (n / 2) := by
    apply BitVec.eq_of_toNat_eq
    simp
    omega
  have hlt : n / 2 < 9223372036854775808 := by omega
  unfold unzig
  by_cases h : n % 2 = 0
  · rw [if_pos h, h, e0]
    have e2 : wrap64 (-wrap64 ((0 : Nat) : Int)) = 0 := by unfold wrap64; omega
    rw [e2, xorI _ _ _ 0#64 e1 rfl, BitVec.xor_zero, BitVec.toNat_ofNat, Nat.mod_eq_of_lt (by omega)]
    exact IntWalk.wrap64_in _ ⟨by omega, by omega⟩
  · have h1 : n % 2 = 1 := by omega
    rw [if_neg h, h1, e0]
    have e2 : wrap64 (-wrap64 ((1 : Nat) : Int)) = -1 := by unfold wrap64; omega
    rw [e2, xorI _ _ _ (BitVec.allOnes 64) e1 rfl, BitVec.xor_allOnes, BitVec.toNat_not, BitVec.toNat_ofNat, Nat.mod_eq_of_lt (by omega)]
    unfold wrap64
    omega

theorem uint_lt (s : RS) (most : Nat) : (s.uint most).1 ≤ most := by
  unfold RS.uint
  split
  · exact Nat.zero_le _
  · split
    · exact Nat.zero_le _
    · split
      · exact Nat.zero_le _
      · simp only; omega

set_option maxRecDepth 100000 in
set_option maxHeartbeats 600000 in
theorem rint_any (r : Nat) (s : RS) (w : World) (h : RIs w r s) :
    Calls Tryd.prog 22 #[Ptr r] w fun e w' => e = .returned (.int .i64 (unzig (s.uint 18446744073709551615).1)) ∧ RIs w' r (s.uint 18446744073709551615).2 ∧ w.grownBy w' (some r) := by
  have HL := Lib.hid (uint_lt s 18446744073709551615)
  go_enter Tryd.func22, Tryd.ntmps22
  go_wp2_with fail
  refine (ruint_any r s 18446744073709551615 w h).mono ?_
  rintro e w1 ⟨rfl, h1, h2⟩
  have H1 := Lib.hid h1
  have hrun := unzig_run (s.uint 18446744073709551615).1 HL.out
  generalize hg : (s.uint 18446744073709551615).1 = n at *
  have HG := Lib.hid hg
  have HRN := Lib.hid hrun
  clear h h1 hrun hg
  have HN := HL.out
  go_wp2
  go_ret
  exact ⟨by rw [HG.out]; exact congrArg (fun z => Ending.returned (.int .i64 z)) HRN.out, H1.out, h2⟩

theorem left_any (r : Nat) (s : RS) (w : World) (h : RIs w r s) :
    Calls Tryd.prog 34 #[Ptr r] w fun e w' => e = .returned (.int .i64 (s.rest.length : Nat)) ∧ w' = w := by
  obtain ⟨A, c, ev, hc, hf, hr, hn, hs, h0, h1⟩ := h.of
  obtain ⟨hc0, hc1, hf0, hf1, hlt⟩ := two_cells hc
  clear hc hf hr hn hs h h0 h1
  go_enter Tryd.func34, Tryd.ntmps34
  go_wp2
  go_ret
  exact ⟨rfl, rfl⟩

/-- Bytes off a reader. -/
def bytesS (s : RS) (most : Int) : List UInt8 × RS :=
  let s1 := if most < 0 then s.fail 1 else s
  if s1.err ≠ none then ([], s1) else
  let u := s1.uint 18446744073709551615
  if u.2.err ≠ none then ([], u.2)
  else if most < (u.1 : Int) then ([], { rest := s1.rest, err := some 2 })
  else if u.2.rest.length < u.1 then ([], { rest := s1.rest, err := some 12 })
  else u.2.take u.1

theorem back_any {w1 w4 : World} {r : Nat} {s4 s' : RS} {A : Option Addr} {c : Nat} (h4 : RIs w4 r s4) (hr : Rd w1 A (s'.rest.map B)) (hf : s'.rest.length ≤ c) (hn : 0 < s'.rest.length → ∀ ad, A = some ad → ¬ ad.block = r) (hs : s'.rest.length ≤ 140737488351232) (he : s'.err = s4.err) (hg : w1.grownBy w4 (some r)) :
    RIs (w4.setCell ⟨r, 0, none⟩ (.slice A s'.rest.length c)) r s' ∧ w1.grownBy (w4.setCell ⟨r, 0, none⟩ (.slice A s'.rest.length c)) (some r) := by
  obtain ⟨Af, cf, evf, hcf, _, _, hnf, _, h0, h1⟩ := h4.of
  refine ⟨RdrIs.cut (G := fun k => k = r) (s := s4) (tF := 92) (by decide) rfl hcf hf (rd_grown hr hg (fun hp ad e e' => hn (by simpa using hp) ad e (by injection e' with e'; exact e'.symm))) ⟨hn, hnf.2⟩ hs (by rw [he]; exact h0) (by rw [he]; exact h1), grown_one hg (grown_set _ _ _ _)⟩

set_option maxRecDepth 100000 in
set_option maxHeartbeats 600000 in
theorem rbytes_tail (r : Nat) (s : RS) (most : Int) (w : World) (h : RIs w r s) (hs : s.err = none) (h0 : 0 ≤ most) (h1 : most < 9223372036854775808) :
    Calls Tryd.prog 47 #[Ptr r, .int .i64 most] w fun e w' => ∃ v, e = .returned v ∧ w'.ownsRow w.heap.size 5 1 v (bytesS s most).1.length ((bytesS s most).1.map B) ∧ RIs w' r (bytesS s most).2 ∧ w.grownBy w' (some r) := by
  obtain ⟨A, c, ev, hc, hf, hr, hn, hsm, e0, _⟩ := h.of
  obtain rfl := e0 hs
  obtain ⟨hc0, hc1, hf0, hf1, hlt⟩ := two_cells hc
  have hm64 : IntKind.u64.wrap most = most := by
    simp only [IntKind.wrap, IntKind.bits, IntKind.signed, Bool.false_and, Bool.false_eq_true, if_false]
    omega
  have HM := Lib.hid (And.intro h0 h1)
  have HMW := Lib.hid hm64
  have H := Lib.hid h
  have HE := Lib.hid hs
  have HC := Lib.hid (And.intro hc (And.intro hf (And.intro hr (And.intro hn hsm))))
  clear hm64 h hs hc hf hr hn hsm e0 h1
  go_enter Tryd.func47, Tryd.ntmps47
  go_wp2_with fail
  refine (live_any r s w H.out).mono ?_
  rintro e w1 ⟨rfl, rfl⟩
  rw [HE.out]
  go_wp2_with fail
  refine (ruint_any r s 18446744073709551615 w1 H.out).mono ?_
  rintro e w2 ⟨rfl, h2, g2⟩
  have HU := Lib.hid (uint_lt s 18446744073709551615)
  have H2 := Lib.hid h2
  have G2 := Lib.hid g2
  clear h2 g2 hc0 hc1 hf0 hf1
  generalize hu : s.uint 18446744073709551615 = u at *
  have HUE := Lib.hid hu
  clear hu
  obtain ⟨n, s2⟩ := u
  simp only at H2 HU
  obtain ⟨A2, c2, ev2, hc2, hf2, hr2, hn2, hsm2, e20, _⟩ := H2.out.of
  obtain ⟨hc0, hc1, hf0, hf1, hlt2⟩ := two_cells hc2
  have HC2 := Lib.hid hc2
  clear hc2 hf2 hr2 hn2 hsm2 e20
  rcases he2 : s2.err with _ | k
  · have HE2 := Lib.hid he2
    clear he2
    go_wp2_with fail
    refine (live_any r s2 w2 H2.out).mono ?_
    rintro e w3 ⟨rfl, rfl⟩
    rw [HE2.out]
    obtain ⟨hml0, hml1⟩ := HM.out
    by_cases hlong : most < (n : Int)
    · have hli : IntKind.u64.wrap most < (n : Int) := by rw [HMW.out]; exact hlong
      have hcond : most < (n : Int) := by exact hlong
      have HCD := Lib.hid hcond
      clear hcond
      go_wp2_with fail
      refine (fail_any r s2 _ 2 w3 H2.out).mono ?_
      rintro e w4 ⟨rfl, h4, g4⟩
      rw [fail_none HE2.out] at h4
      have HB := back_any (s' := ⟨s.rest, some 2⟩) h4 (HC.out.2.2.1) HC.out.2.1 HC.out.2.2.2.1.1 HC.out.2.2.2.2 rfl (grown_one G2.out g4)
      obtain ⟨Af, cf, evf, hcf, _, _, _, _, _, _⟩ := h4.of
      obtain ⟨z0, _, z1, _, _⟩ := two_cells hcf
      have HH := Lib.hid HB
      clear HB h4 hcf hc0 hc1 hf0 hf1
      go_wp2
      go_ret
      refine ⟨_, rfl, ?_, ?_, HH.out.2⟩
      all_goals
        unfold bytesS
        simp only [if_neg (show ¬ most < 0 by omega), HE.out, ne_eq, not_true_eq_false, if_false, HUE.out, HE2.out, if_pos HCD.out]
      · exact World.ownsRow_nil _ _ _ _
      · exact HH.out.1
    · have hli : (n : Int) ≤ most := by omega
      have hwl : IntKind.u64.wrap ((s2.rest.length : Nat) : Int) = ((s2.rest.length : Nat) : Int) := by
        obtain ⟨_, _, _, _, _, _, _, hsm2, _⟩ := H2.out.of
        exact u64_nat (by omega)
      by_cases hend : s2.rest.length < n
      · have hei : ((s2.rest.length : Nat) : Int) < (n : Int) := by omega
        have HCD := Lib.hid (And.intro hlong hend)
        clear hlong hend
        go_wp2_with fail
        refine (fail_any r s2 _ 12 w3 H2.out).mono ?_
        rintro e w4 ⟨rfl, h4, g4⟩
        rw [fail_none HE2.out] at h4
        have HB := back_any (s' := ⟨s.rest, some 12⟩) h4 (HC.out.2.2.1) HC.out.2.1 HC.out.2.2.2.1.1 HC.out.2.2.2.2 rfl (grown_one G2.out g4)
        obtain ⟨Af, cf, evf, hcf, _, _, _, _, _, _⟩ := h4.of
        obtain ⟨z0, _, z1, _, _⟩ := two_cells hcf
        have HH := Lib.hid HB
        clear HB h4 hcf hc0 hc1 hf0 hf1
        go_wp2
        go_ret
        refine ⟨_, rfl, ?_, ?_, HH.out.2⟩
        all_goals
          unfold bytesS
          simp only [if_neg (show ¬ most < 0 by omega), HE.out, ne_eq, not_true_eq_false, if_false, HUE.out, HE2.out, if_neg (show ¬ most < (n : Int) by have := HCD.out.1; omega), if_pos HCD.out.2]
        · exact World.ownsRow_nil _ _ _ _
        · exact HH.out.1
      · have hei : (n : Int) ≤ ((s2.rest.length : Nat) : Int) := by omega
        have hbig : (n : Int) ≤ 140737488351232 := by
          obtain ⟨_, _, _, _, _, _, _, hsm2, _⟩ := H2.out.of
          omega
        have HCD := Lib.hid (And.intro hlong hend)
        have HBG := Lib.hid hbig
        clear hlong hend
        go_wp2_with fail
        refine (take_any r s2 _ n w3 H2.out (by have := HBG.out; omega)).mono ?_
        rintro e w4 ⟨v4, rfl, ho4, h4, g4⟩
        have HH := Lib.hid (And.intro h4 (And.intro ho4 g4))
        clear ho4 h4 g4
        go_wp2
        go_ret
        refine ⟨v4, rfl, ?_, ?_, grown_one G2.out HH.out.2.2⟩
        all_goals
          unfold bytesS
          simp only [if_neg (show ¬ most < 0 by omega), HE.out, ne_eq, not_true_eq_false, if_false, HUE.out, HE2.out, if_neg (show ¬ most < (n : Int) by have := HCD.out.1; omega), if_neg (show ¬ s2.rest.length < n by have := HCD.out.2; omega)]
        · exact own_mono HH.out.2.1 G2.out.size
        · exact HH.out.1
  · have HE2 := Lib.hid he2
    clear he2
    go_wp2_with fail
    refine (live_any r s2 w2 H2.out).mono ?_
    rintro e w3 ⟨rfl, rfl⟩
    rw [HE2.out]
    go_wp2
    go_ret
    obtain ⟨hml0, hml1⟩ := HM.out
    refine ⟨_, rfl, ?_, ?_, G2.out⟩
    all_goals
      unfold bytesS
      simp only [if_neg (show ¬ most < 0 by omega), HE.out, ne_eq, not_true_eq_false, if_false, HUE.out, HE2.out, reduceCtorEq, not_false_eq_true, if_true]
    · exact World.ownsRow_nil _ _ _ _
    · exact H2.out

set_option maxRecDepth 100000 in
set_option maxHeartbeats 600000 in
theorem rbytes_any (r : Nat) (s : RS) (most : Int) (w : World) (h : RIs w r s) (h1 : most < 9223372036854775808) :
    Calls Tryd.prog 47 #[Ptr r, .int .i64 most] w fun e w' => ∃ v, e = .returned v ∧ w'.ownsRow w.heap.size 5 1 v (bytesS s most).1.length ((bytesS s most).1.map B) ∧ RIs w' r (bytesS s most).2 ∧ w.grownBy w' (some r) := by
  by_cases h0 : most < 0
  · have H := Lib.hid h
    obtain ⟨k, hk⟩ : ∃ k, (s.fail 1).err = some k := by
      rcases he : s.err with _ | k
      · exact ⟨1, by rw [fail_none he]⟩
      · exact ⟨k, by rw [fail_some he]; exact he⟩
    have HK := Lib.hid hk
    have H1 := Lib.hid h1
    clear h hk h1
    go_enter Tryd.func47, Tryd.ntmps47
    go_wp2_with fail
    refine (fail_any r s _ 1 w H.out).mono ?_
    rintro e w1 ⟨rfl, h2, g2⟩
    go_wp2_with fail
    refine (live_any r _ w1 h2).mono ?_
    rintro e w2 ⟨rfl, rfl⟩
    rw [HK.out]
    go_wp2
    go_ret
    refine ⟨_, rfl, ?_, ?_, g2⟩
    all_goals
      unfold bytesS
      simp only [if_pos h0, HK.out, ne_eq, reduceCtorEq, not_false_eq_true, if_true]
    · exact World.ownsRow_nil _ _ _ _
    · exact h2
  · rcases he : s.err with _ | k
    · exact rbytes_tail r s most w h he (by omega) h1
    · have H := Lib.hid h
      have HE := Lib.hid he
      clear h he h1
      go_enter Tryd.func47, Tryd.ntmps47
      go_wp2_with fail
      refine (live_any r _ w H.out).mono ?_
      rintro e w2 ⟨rfl, rfl⟩
      rw [HE.out]
      go_wp2
      go_ret
      refine ⟨_, rfl, ?_, ?_, World.grownBy.refl _ _⟩
      all_goals
        unfold bytesS
        simp only [if_neg (show ¬ most < 0 by omega), HE.out, ne_eq, reduceCtorEq, not_false_eq_true, if_true]
      · exact World.ownsRow_nil _ _ _ _
      · exact H.out

theorem rtext_any (r : Nat) (s : RS) (most : Int) (w : World) (h : RIs w r s) (h1 : most < 9223372036854775808) :
    Calls Tryd.prog 24 #[Ptr r, .int .i64 most] w fun e w' => e = .returned (.string ⟨(bytesS s most).1.toArray⟩) ∧ RIs w' r (bytesS s most).2 ∧ w.grownBy w' (some r) := by
  go_enter Tryd.func24, Tryd.ntmps24
  go_wp2_with fail
  refine (rbytes_any r s most w h h1).mono ?_
  rintro e w1 ⟨v, rfl, ho, h2, g2⟩
  obtain ⟨A1, c1, rfl, _, hr1, _⟩ := own_slice ho
  have hcv : (convert 22 9 (.slice A1 (bytesS s most).1.length c1)).run Tryd.prog w1 = .ok (.string ⟨(bytesS s most).1.toArray⟩) w1 := run_str Tryd.underlying22 Tryd.underlying5 Tryd.underlying9 A1 _ c1 _ w1 rfl hr1
  have HH := Lib.hid (And.intro h2 g2)
  clear ho hr1 h2 g2 h h1
  go_wp2
  go_ret
  exact ⟨rfl, HH.out.1, HH.out.2⟩
#print axioms rbytes_any

end Go.Proofs.YtdmopnmifdjcnaaDoor
