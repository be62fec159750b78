/- WotsChecks: the walk. -/
import Derived.Test.YtcgdojdiihdkeaaDoorWots7
import Derived.Deep.RegionHeld3
namespace Go.Proofs.YtcgdojdiihdkeaaDoor
open Go Go.RowKit Go.Isth

theorem len_to (n N : Nat) (w : World) (h1 : 1 ≤ n) (h2 : n ≤ 32) (hN : N = 2 * n + 3) : Calls Tryd.prog 24 #[.int .i64 n] w fun e w' => e = .returned (.int .i64 (N : Int)) ∧ w = w' := by
  have h := len_yes (n : Int) w (by omega) (by omega)
  rw [show 2 * (n : Int) + 3 = (N : Int) by omega] at h
  exact h
theorem checks_none (A : Option Addr) (c : Nat) (d : List UInt8) (w : World) (hm : d.length ≤ 140737488355328) (h : d.length < 1 ∨ 32 < d.length) (hr : Rd w A (d.map B)) (ht : TabLaid w) :
    Calls Tryd.prog 6 #[.slice A d.length c] w fun e w' => e = .returned (.bool true) ∧ Below w.heap.size w w' := by
  have HT := Lib.hid (And.intro hm (And.intro hr ht))
  have h' : (d.length : Int) < 1 ∨ 32 < (d.length : Int) := by omega
  have hd : ((d.length : Int) == 0) = true ∨ (((d.length : Int) == 0) = false ∧ 32 < (d.length : Int)) := by
    rcases h with h | h
    · exact .inl (beq_iff_eq.2 (by omega))
    · exact .inr ⟨beq_eq_false_iff_ne.2 (by omega), by omega⟩
  have HH := Lib.hid (And.intro h h')
  clear hm hr ht h h'
  rcases hd with hd | ⟨hd, hd2⟩
  all_goals
    go_enter Tryd.func6, Tryd.ntmps6
    go_wp2_with fail
    refine (twin05_any A c d w HT.out.1 HT.out.2.1).mono ?_
    rintro e w1 ⟨v1, rfl, ho1, hb1⟩
    obtain ⟨A1, c1, rfl, _, hrd1, _⟩ := own_slice ho1
    have H1 := Lib.hid (And.intro hb1 hrd1)
    clear ho1 hb1 hrd1
    go_wp2_with (first
      | (go_at_call 25; refine (digits_none A1 c1 d.length _ HH.out.1).mono ?_; rintro e w2 ⟨rfl, rfl⟩)
      | (go_at_call 24; refine (len_no _ _ HH.out.2).mono ?_; rintro e w2 ⟨rfl, rfl⟩)
      | (go_at_call 22; refine (sure05_any _ (HT.out.2.2.below H1.out.1 HT.out.2.2.lt)).mono ?_; rintro e w3 ⟨rfl, hb3⟩; have H3 := Lib.hid (below_then H1.out.1 H1.out.1.size hb3); clear hb3))
    go_ret
    exact ⟨rfl, H3.out⟩
#print axioms checks_none
def CheckInv (d : List UInt8) (m : Nat) (v5 v6 : Value) : Prop := ∃ k : Nat, k ≤ m ∧ v6 = I k ∧ v5 = I (lackL ((dgs d).take k))
set_option maxRecDepth 100000 in
set_option maxHeartbeats 2000000 in
theorem checks_some (A : Option Addr) (c : Nat) (d : List UInt8) (w : World) (h1 : 1 ≤ d.length) (h2 : d.length ≤ 32) (hr : Rd w A (d.map B)) (ht : TabLaid w) :
    Calls Tryd.prog 6 #[.slice A d.length c] w fun e w' => e = .returned (.bool true) ∧ Below w.heap.size w w' := by
  have HT := Lib.hid (And.intro h1 (And.intro h2 (And.intro hr ht)))
  obtain ⟨N, hN⟩ : ∃ N, N = 2 * d.length + 3 := ⟨_, rfl⟩
  have hn0 : ((N : Int) == 0) = false := beq_eq_false_iff_ne.2 (by omega)
  have hne : ((N : Int) != 2 * (d.length : Int) + 3) = false := by simp; omega
  have HN := Lib.hid hN
  have hN67 : N ≤ 67 := by omega
  have hN3 : 3 ≤ N := by omega
  have hl32 : d.length ≤ 32 := h2
  clear hr ht h1 h2 hN
  go_enter Tryd.func6, Tryd.ntmps6
  go_wp2_with fail
  refine (twin05_any A c d w (by omega) HT.out.2.2.1).mono ?_
  rintro e w1 ⟨v1, rfl, ho1, hb1⟩
  obtain ⟨A1, c1, rfl, _, hrd1, _⟩ := own_slice ho1
  have H1 := Lib.hid (And.intro hb1 hrd1)
  clear ho1 hb1 hrd1
  go_wp2_with fail
  refine (digits_any A1 c1 d w1 HT.out.1 HT.out.2.1 H1.out.2).mono ?_
  rintro e w2 ⟨v2, rfl, ho2, hb2⟩
  rw [show (digitsW d).length = N by rw [digitsW_length, HN.out]] at ho2
  obtain ⟨A2, c2, rfl, _, hrd2, _⟩ := own_slice ho2
  obtain ⟨b, o, rfl, hb, hcell⟩ := hrd2.at_ (by rw [List.length_map, digitsW_length]; omega)
  have H2 := Lib.hid (And.intro (below_then H1.out.1 H1.out.1.size hb2) (And.intro hrd2 (And.intro hb hcell)))
  clear ho2 hb2 hrd2 hb hcell
  go_wp2_with (go_at_call 24; refine (len_to d.length N _ HT.out.1 HT.out.2.1 HN.out).mono ?_; rintro e w' ⟨rfl, rfl⟩)
  go_loop [5, 6] (fun v5 v6 => CheckInv d (N - 3) v5 v6) (fun _ v6 => N - (intOf v6).toNat)
  case atStart => exact ⟨0, Nat.zero_le _, rfl, rfl⟩
  case round =>
    obtain ⟨k, hk, rfl, rfl⟩ := hrel
    have hln := dgs_length d
    have hle := lackL_le ((dgs d).take k)
    have htk : ((dgs d).take k).length ≤ k := by simp; omega
    have hlk : lackL ((dgs d).take k) ≤ 1000 := by omega
    by_cases hlt : k < N - 3
    · obtain ⟨x, hx⟩ : ∃ x, (dgs d)[k]? = some x := ⟨_, List.getElem?_eq_getElem (by have := HN.out; omega)⟩
      have hx15 := dgs_le d x (List.mem_of_getElem? hx)
      have hcl : w2.cell? ⟨b, o + k, none⟩ = some (I x) := by
        have h := H2.out.2.2.2 k (by rw [List.length_map, digitsW_length]; have := HN.out; omega)
        rw [h, List.getElem_map]
        have h3 : (digitsW d)[k]? = some x := by unfold digitsW; rw [List.getElem?_append_left (by have := HN.out; omega)]; exact hx
        rw [(List.getElem?_eq_some_iff.1 h3).2]
      have hnext : lackL ((dgs d).take (k + 1)) = lackL ((dgs d).take k) + (15 - x) := by
        rw [List.take_add_one, hx, lackL_append]; simp [lackL]
      have HX := Lib.hid hnext
      have hd0 : decide ((x : Int) < 0) = false := by simp
      clear hnext hx hln hle htk
      generalize lackL ((dgs d).take k) = s at *
      go_wp2_with fail
      go_round
      case rel => exact ⟨k + 1, hlt, by go_num, by rw [HX.out]; show Value.int _ _ = Value.int _ _; congr 1; omega⟩
      case measure => simp [intOf]; omega
    · obtain rfl : k = N - 3 := by omega
      have htake : (dgs d).take (N - 3) = dgs d := List.take_of_length_le (by have := HN.out; omega)
      rw [htake] at hle hlk htk
      simp only [htake]
      have hchk := digits_checks d hl32
      have hcs : ∀ j x, digitsW d = dgs d ++ [lackL (dgs d) / 256 % 16, lackL (dgs d) / 16 % 16, lackL (dgs d) % 16] → [lackL (dgs d) / 256 % 16, lackL (dgs d) / 16 % 16, lackL (dgs d) % 16][j]? = some x → ∀ q, q = N - 3 + j → w2.cell? ⟨b, o + q, none⟩ = some (I x) := by
        intro j x hD hj q hq
        have hj3 : j < 3 := (List.getElem?_eq_some_iff.1 hj).1
        have h := H2.out.2.2.2 q (by rw [List.length_map, digitsW_length]; have := HN.out; omega)
        rw [h, List.getElem_map]
        have h3 : (digitsW d)[q]? = some x := by rw [hD, List.getElem?_append_right (by have := HN.out; omega), show q - (dgs d).length = j by have := HN.out; omega]; exact hj
        rw [(List.getElem?_eq_some_iff.1 h3).2]
      have e1 := hcs 0 _ rfl rfl (N - 3) rfl
      have e2 := hcs 1 _ rfl rfl (N - 2) (by omega)
      have e3 := hcs 2 _ rfl rfl (N - 1) (by omega)
      clear hcs htake hle htk hln hlt hk
      generalize lackL (dgs d) = s at *
      have hb1 : s / 256 % 16 ≤ 15 ∧ s / 16 % 16 ≤ 15 ∧ s % 16 ≤ 15 := by omega
      generalize s / 256 % 16 = x at *
      generalize s / 16 % 16 = y at *
      generalize s % 16 = z at *
      obtain ⟨hx, hy, hz⟩ := hb1
      have n3 : IntKind.i64.wrap ((N : Int) - 3) = (N : Int) - 3 := by rw [IntKind.wrap_i64]; omega
      have n2 : IntKind.i64.wrap ((N : Int) - 2) = (N : Int) - 2 := by rw [IntKind.wrap_i64]; omega
      have n1 : IntKind.i64.wrap ((N : Int) - 1) = (N : Int) - 1 := by rw [IntKind.wrap_i64]; omega
      have t3 : ((N : Int) - 3).toNat = N - 3 := by omega
      have t2 : ((N : Int) - 2).toNat = N - 2 := by omega
      have t1 : ((N : Int) - 1).toNat = N - 1 := by omega
      have p3 : 0 ≤ (N : Int) - 3 := by omega
      have p2 : 0 ≤ (N : Int) - 2 := by omega
      have p1 : 0 ≤ (N : Int) - 1 := by omega
      have q3 : (3 : Int) ≤ (N : Int) := by omega
      have q2 : (2 : Int) ≤ (N : Int) := by omega
      have q1 : (1 : Int) ≤ (N : Int) := by omega
      have l3 : (N : Int) - 3 < (N : Int) := by omega
      have l2 : (N : Int) - 2 < (N : Int) := by omega
      have l1 : (N : Int) - 1 < (N : Int) := by omega
      have m1 : IntKind.i64.wrap ((x : Int) * 256) = (x : Int) * 256 := by rw [IntKind.wrap_i64]; omega
      have m2 : IntKind.i64.wrap ((y : Int) * 16) = (y : Int) * 16 := by rw [IntKind.wrap_i64]; omega
      have m3 : IntKind.i64.wrap ((x : Int) * 256 + (y : Int) * 16) = (x : Int) * 256 + (y : Int) * 16 := by rw [IntKind.wrap_i64]; omega
      have m4 : IntKind.i64.wrap ((x : Int) * 256 + (y : Int) * 16 + (z : Int)) = (x : Int) * 256 + (y : Int) * 16 + (z : Int) := by rw [IntKind.wrap_i64]; omega
      have m5 : ((x : Int) * 256 + (y : Int) * 16 + (z : Int) == (s : Int)) = true := beq_iff_eq.2 (by omega)
      have HE := Lib.hid (And.intro e1 (And.intro e2 e3))
      have hnn : ¬ ((N - 3 : Nat) : Int) < (N : Int) - 3 := by omega
      clear hchk hx hy hz
      go_wp2_with fail
      go_region_held3 (fun w' => w'.cell? ⟨b, o + (N - 3), none⟩ = some (I x) ∧ w'.cell? ⟨b, o + (N - 2), none⟩ = some (I y) ∧ w'.cell? ⟨b, o + (N - 1), none⟩ = some (I z))
        (first | exact ⟨HE.out.1, HE.out.2.1, HE.out.2.2⟩ | exact ⟨(H4.out.2.cell (p := ⟨b, o + (N - 3), none⟩) H2.out.2.2.1).trans HE.out.1, (H4.out.2.cell (p := ⟨b, o + (N - 2), none⟩) H2.out.2.2.1).trans HE.out.2.1, (H4.out.2.cell (p := ⟨b, o + (N - 1), none⟩) H2.out.2.2.1).trans HE.out.2.2⟩)
        (first
          | (go_at_call 22; refine (sure05_any _ (HT.out.2.2.2.below (below_drewN H2.out.1 1) HT.out.2.2.2.lt)).mono ?_
             rintro e w4 ⟨rfl, hb4⟩
             have H4 := Lib.hid (And.intro (below_then (below_drewN H2.out.1 1) (below_drewN H2.out.1 1).size hb4) (show Below w2.heap.size w2 w4 from ⟨hb4.os, hb4.tape, hb4.output, hb4.size, hb4.block⟩))
             clear hb4))
      clear n3 n2 n1 t3 t2 t1 p3 p2 p1 q3 q2 q1 l3 l2 l1 m1 m2 m3 m4 m5 e1 e2 e3
      go_wp2
      go_ret
      exact ⟨rfl, H4.out.1⟩
#print axioms checks_some
theorem checks_any (A : Option Addr) (c : Nat) (d : List UInt8) (w : World) (hm : d.length ≤ 140737488355328) (hr : Rd w A (d.map B)) (ht : TabLaid w) :
    Calls Tryd.prog 6 #[.slice A d.length c] w fun e w' => e = .returned (.bool true) ∧ Below w.heap.size w w' := by
  by_cases h : 1 ≤ d.length ∧ d.length ≤ 32
  · exact checks_some A c d w h.1 h.2 hr ht
  · exact checks_none A c d w hm (by omega) hr ht
end Go.Proofs.YtcgdojdiihdkeaaDoor
