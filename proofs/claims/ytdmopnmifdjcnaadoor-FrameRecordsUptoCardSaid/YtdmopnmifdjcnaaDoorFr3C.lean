/- The reference of layer 3: One by its contract. -/
import Derived.Test.YtdmopnmifdjcnaaDoorFr3B
namespace Go.Isth
open Go Go.RowKit
theorem rd_mid3 {A : Option Addr} {bs : List UInt8} {w : World} (c i m : Nat) (hr : Rd w A (bs.map B)) (hi : i + m ≤ bs.length) (hc : bs.length ≤ c) : Rd w (cutA A c i 1) (((bs.drop i).take m).map B) := by
  have h := hr.cut c i 1 m (by simp; omega) (by simp; omega)
  rwa [Nat.mul_one, ← List.map_drop, ← List.map_take] at h
theorem _root_.Go.Isth.Rd.front4 {A : Option Addr} {bs : List UInt8} {w w' : World} (hr : Rd w A (bs.map B)) (hb : Below w.heap.size w w') : Rd w' A ((bs.take 4).map B) := by
  rw [List.map_take]; exact (hr.below hb).front 4
theorem str_same {a b : List UInt8} {s1 s2 : ByteArray} (h1 : s1 = ⟨a.toArray⟩) (h2 : s2 = ⟨b.toArray⟩) : (s1.toList == s2.toList) = (a == b) := by
  rw [h1, h2]; simp
end Go.Isth
namespace Go.Proofs.YtdmopnmifdjcnaaDoor
open Go Go.RowKit Go.Isth

def ROnePost (A : Option Addr) (b : List UInt8) (w : World) (e : Ending) (w' : World) : Prop :=
  Below w.heap.size w w' ∧
    ((∃ p k A' c', oneF b = .inl (p, k) ∧ e = .returned (.tuple #[.slice A' p.length c', .int .i64 (k : Nat), .int .i64 0]) ∧ p.length ≤ c' ∧ ∀ wx, Rd wx A (b.map B) → Rd wx A' (p.map B)) ∨
     (∃ k : Int, oneF b = .inr k ∧ e = .returned (.tuple #[.slice none 0 0, .int .i64 0, .int .i64 k])))
theorem one_bad {b : List UInt8} (h8 : 8 ≤ b.length) (h : un32l (b.drop 4) ≠ crc (b.take 4) ∨ (un32l b).toNat = 0 ∨ 1048576 < (un32l b).toNat) : oneF b = .inr 11 := by
  unfold oneF
  rw [if_neg (by omega), if_neg (by omega)]
  simp only
  rw [if_pos h]
set_option maxRecDepth 100000 in
set_option maxHeartbeats 4000000 in
theorem rone_any (A : Option Addr) (n c : Nat) (b : List UInt8) (w : World) (hn : b.length = n) (hc : n ≤ c) (hbig : n ≤ 2000000) (hr : Rd w A (b.map B)) :
    Calls Tryd.prog 11 #[.slice A n c] w (ROnePost A b w) := by
  have HT := Lib.hid (And.intro hn (And.intro hc (And.intro hbig (And.intro trivial hr))))
  have hnI : (n : Int) ≤ 2000000 := by omega
  clear hn hc hbig hr
  by_cases h0 : n = 0
  · subst h0
    go_enter Tryd.func11, Tryd.ntmps11
    go_wp2
    go_ret3
    refine ⟨Below.refl _ _, .inr ⟨8, ?_, rfl⟩⟩
    unfold oneF; rw [if_pos HT.out.1]
  have e0 : ((n : Int) == 0) = false := by simp; omega
  by_cases h8 : n < 8
  · have e8 : (n : Int) < 8 := by omega
    have HN := Lib.hid (And.intro h0 h8)
    clear h0 h8
    go_enter Tryd.func11, Tryd.ntmps11
    go_wp2
    go_ret3
    refine ⟨Below.refl _ _, .inr ⟨12, ?_, rfl⟩⟩
    unfold oneF; rw [if_neg (by have := HT.out.1; have := HN.out; omega), if_pos (by have := HT.out.1; have := HN.out; omega)]
  have e8 : ¬ (n : Int) < 8 := by omega
  have hn8 : 8 ≤ n := by omega
  obtain ⟨b0, b1, b2, b3, r, hbe⟩ : ∃ b0 b1 b2 b3 r, b = b0 :: b1 :: b2 :: b3 :: r := by
    match b, (show 4 ≤ b.length by have := HT.out.1; omega) with
    | b0 :: b1 :: b2 :: b3 :: r, _ => exact ⟨b0, b1, b2, b3, r, rfl⟩
  obtain ⟨n0, hn0⟩ : ∃ n0, (un32l b).toNat = n0 := ⟨_, rfl⟩
  have hsum : (b0.toNat : Int) * 16777216 + (b1.toNat : Int) * 65536 + (b2.toNat : Int) * 256 + (b3.toNat : Int) = (n0 : Int) := by
    have h := un32_sum b0 b1 b2 b3
    have h2 : un32l b = un32 b0 b1 b2 b3 := by rw [hbe]; rfl
    rw [h2, h] at hn0
    omega
  obtain ⟨bk, o, rfl, hbk, hcell⟩ := HT.out.2.2.2.2.at_ (by rw [List.length_map, HT.out.1]; omega)
  have c0 : w.cell? ⟨bk, o, none⟩ = some (B b0) := by have h := hcell 0 (by rw [List.length_map, HT.out.1]; omega); simpa [hbe] using h
  have c1 : w.cell? ⟨bk, o + 1, none⟩ = some (B b1) := by have h := hcell 1 (by rw [List.length_map, HT.out.1]; omega); simpa [hbe] using h
  have c2 : w.cell? ⟨bk, o + 2, none⟩ = some (B b2) := by have h := hcell 2 (by rw [List.length_map, HT.out.1]; omega); simpa [hbe] using h
  have c3 : w.cell? ⟨bk, o + 3, none⟩ = some (B b3) := by have h := hcell 3 (by rw [List.length_map, HT.out.1]; omega); simpa [hbe] using h
  have l0 := b0.toNat_lt
  have l1 := b1.toNat_lt
  have l2 := b2.toNat_lt
  have l3 := b3.toNat_lt
  have HB := Lib.hid (And.intro hn0 (And.intro hn8 h0))
  clear hcell hbk hbe hn0 h0 h8 hn8
  have i0 : (0 : Int) < (n : Int) := by have := HB.out; omega
  have i1 : (1 : Int) < (n : Int) := by have := HB.out; omega
  have i2 : (2 : Int) < (n : Int) := by have := HB.out; omega
  have i3 : (3 : Int) < (n : Int) := by have := HB.out; omega
  go_enter Tryd.func11, Tryd.ntmps11
  go_wp2_with fail
  go_quiet (fail)
  clear c0 c1 c2 c3 l0 l1 l2 l3 i0 i1 i2 i3 e0 hsum
  generalize (some (⟨bk, o, none⟩ : Addr)) = A at *
  have hq0 := refl_drewN w nq
  generalize w.drewN nq = w1 at *
  have HQ := Lib.hid hq0.drew
  clear hq0
  have cA : ∀ wx, _ := fun wx => run_cut_to tB A n c 4 (by omega) (by have := HT.out; have := HB.out; omega) wx
  have cB : ∀ wx, _ := fun wx => run_cut_mid tB A n c 4 8 (by omega) (by omega) (by have := HT.out; have := HB.out; omega) wx
  simp only [show (4 : Int).toNat = 4 from rfl, show (8 : Int).toNat - 4 = 4 from rfl] at cA cB
  obtain ⟨xs, hxs⟩ : ∃ x, x = crc (b.take 4) := ⟨_, rfl⟩
  obtain ⟨s1, hs1⟩ : ∃ s : ByteArray, s = ⟨(be32 xs).toArray⟩ := ⟨_, rfl⟩
  obtain ⟨s2, hs2⟩ : ∃ s : ByteArray, s = ⟨((b.drop 4).take 4).toArray⟩ := ⟨_, rfl⟩
  have HX := Lib.hid (And.intro hxs (And.intro hs1 hs2))
  have HL4 := Lib.hid (show (b.take 4).length = 4 by have := HT.out.1; have := HB.out; simp; omega)
  have hstr := str_same hs1 hs2
  have hfour := four_at b 4 xs (by have := HT.out.1; have := HB.out; omega)
  have HTS : Hid (∀ w', Below w.heap.size w w' → (convert 22 9 (.slice (cutA A c 4 1) 4 (c - 4))).run Tryd.prog w' = .ok (.string s2) w') := Lib.hid (fun w' hw' => by
    rw [HX.out.2.2]
    exact run_str Tryd.underlying22 Tryd.underlying5 Tryd.underlying9 _ 4 _ ((b.drop 4).take 4) w' (by have := HT.out.1; have := HB.out; simp; omega) (rd_mid3 c 4 4 (HT.out.2.2.2.2.below hw') (by have := HT.out.1; have := HB.out; omega) (by have := HT.out; omega)))
  clear hxs hs1 hs2
  by_cases hs : un32l (b.drop 4) = xs
  · have hst : (s1.toList == s2.toList) = true := by rw [hstr, beq_iff_eq]; exact (hfour.2 hs).symm
    have HS := Lib.hid hs
    clear hstr hfour hs
    by_cases hz : n0 = 0
    · have ez : ((n0 : Int) == 0) = true := by rw [hz]; rfl
      have HZ := Lib.hid hz
      clear hz
      go_wp2_with fail
      refine wp_region_held_drew (S := (fun w' => (convert 22 9 (.slice (cutA A c 4 1) 4 (c - 4))).run Tryd.prog w' = .ok (.string s2) w')) (by kernel_rfl) ?rs0 (fun hHeld => ?_)
      case rs0 => exact HTS.out _ HQ.out
      refine held_take (i := 0) (v := ?rv0) rfl (by kernel_rfl) (by kernel_rfl) (by kernel_rfl) (fun _ _ _ h => h) (by rfl) ?ry0 hHeld ?_
      case ry0 => ((intro w _hSw; (try dsimp only at _hSw); go_simp); try (with_reducible rfl))
      try simp only [Act.put, List.setIfInBounds_toArray, List.set_cons_zero, List.set_cons_succ]
      refine held_take (i := 1) (v := ?rv1) rfl (by kernel_rfl) (by kernel_rfl) (by kernel_rfl) (fun _ _ _ h => h) (by rfl) ?ry1 hHeld ?_
      case ry1 => ((intro w _hSw; (try dsimp only at _hSw); go_simp); try (with_reducible rfl))
      try simp only [Act.put, List.setIfInBounds_toArray, List.set_cons_zero, List.set_cons_succ]
      refine held_take (i := 5) (v := ?rv5) rfl (by kernel_rfl) (by kernel_rfl) (by kernel_rfl) (fun _ _ _ h => h) (by rfl) ?ry5 hHeld ?_
      case ry5 => ((intro w _hSw; (try dsimp only at _hSw); go_simp); try (with_reducible rfl))
      try simp only [Act.put, List.setIfInBounds_toArray, List.set_cons_zero, List.set_cons_succ]
      refine held_take (i := 6) (v := ?rv6) rfl (by kernel_rfl) (by kernel_rfl) (by kernel_rfl) (fun _ _ _ h => h) (by rfl) ?ry6 hHeld ?_
      case ry6 => ((intro w _hSw; (try dsimp only at _hSw); go_simp); try (with_reducible rfl))
      try simp only [Act.put, List.setIfInBounds_toArray, List.set_cons_zero, List.set_cons_succ]
      refine held_take (i := 7) (v := ?rv7) rfl (by kernel_rfl) (by kernel_rfl) (by kernel_rfl) (fun _ _ _ h => h) (by rfl) ?ry7 hHeld ?_
      case ry7 => ((intro w _hSw; (try dsimp only at _hSw); go_simp); try (with_reducible rfl))
      try simp only [Act.put, List.setIfInBounds_toArray, List.set_cons_zero, List.set_cons_succ]
      refine held_step (i := 2) rfl (by kernel_rfl) (by rfl) (fun K hK => ?_)
      go_simp
      refine (rsum03_to A 4 c (b.take 4) _ xs HL4.out (by decide) HX.out.1 (HT.out.2.2.2.2.front4 HQ.out)).mono ?_
      rintro e wa ⟨rfl, rfl⟩
      go_wp2_with fail
      have hHeld := HTS.out _ HQ.out
      refine hK.out _ _ (HTS.out _ HQ.out) ?_
      clear hK K
      try simp only [Act.put, List.setIfInBounds_toArray, List.set_cons_zero, List.set_cons_succ]
      refine held_step (i := 3) rfl (by kernel_rfl) (by rfl) (fun K hK => ?_)
      go_simp
      refine (four_to (xs.toNat : Nat) xs _ rfl).mono ?_
      rintro e wb ⟨A2, c2, rfl, _, hr2, hb2⟩
      have J2 := Lib.hid (below_then HQ.out HQ.out.size hb2)
      have q2 : (convert 22 9 (.slice A2 4 c2)).run Tryd.prog wb = .ok (.string s1) wb := by rw [HX.out.2.1]; exact run_str Tryd.underlying22 Tryd.underlying5 Tryd.underlying9 A2 4 c2 (be32 xs) wb rfl hr2
      clear hr2 hb2
      go_wp2_with fail
      have hHeld := HTS.out _ J2.out
      refine hK.out _ _ (HTS.out _ J2.out) ?_
      clear hK K
      try simp only [Act.put, List.setIfInBounds_toArray, List.set_cons_zero, List.set_cons_succ]
      refine held_step (i := 4) rfl (by kernel_rfl) (by rfl) (fun K hK => ?_)
      go_simp
      have hHeld := HTS.out _ J2.out
      refine hK.out _ _ (HTS.out _ J2.out) ?_
      clear hK K
      try simp only [Act.put, List.setIfInBounds_toArray, List.set_cons_zero, List.set_cons_succ]
      refine held_take (i := 8) (v := ?rv8) rfl (by kernel_rfl) (by kernel_rfl) (by kernel_rfl) (fun _ _ _ h => h) (by rfl) ?ry8 hHeld ?_
      case ry8 => ((intro w _hSw; (try dsimp only at _hSw); go_simp); try (with_reducible rfl))
      try simp only [Act.put, List.setIfInBounds_toArray, List.set_cons_zero, List.set_cons_succ]
      refine held_take (i := 9) (v := ?rv9) rfl (by kernel_rfl) (by kernel_rfl) (by kernel_rfl) (fun _ _ _ h => h) (by rfl) ?ry9 hHeld ?_
      case ry9 => ((intro w _hSw; (try dsimp only at _hSw); go_simp); try (with_reducible rfl))
      try simp only [Act.put, List.setIfInBounds_toArray, List.set_cons_zero, List.set_cons_succ]
      refine held_take (i := 10) (v := ?rv10) rfl (by kernel_rfl) (by kernel_rfl) (by kernel_rfl) (fun _ _ _ h => h) (by rfl) ?ry10 hHeld ?_
      case ry10 => ((intro w _hSw; (try dsimp only at _hSw); go_simp); try (with_reducible rfl))
      try simp only [Act.put, List.setIfInBounds_toArray, List.set_cons_zero, List.set_cons_succ]
      refine held_take (i := 11) (v := ?rv11) rfl (by kernel_rfl) (by kernel_rfl) (by kernel_rfl) (fun _ _ _ h => h) (by rfl) ?ry11 hHeld ?_
      case ry11 => ((intro w _hSw; (try dsimp only at _hSw); go_simp); try (with_reducible rfl))
      try simp only [Act.put, List.setIfInBounds_toArray, List.set_cons_zero, List.set_cons_succ]
      refine held_take (i := 12) (v := ?rv12) rfl (by kernel_rfl) (by kernel_rfl) (by kernel_rfl) (fun _ _ _ h => h) (by rfl) ?ry12 hHeld ?_
      case ry12 => ((intro w _hSw; (try dsimp only at _hSw); go_simp); try (with_reducible rfl))
      try simp only [Act.put, List.setIfInBounds_toArray, List.set_cons_zero, List.set_cons_succ]
      refine held_take (i := 13) (v := ?rv13) rfl (by kernel_rfl) (by kernel_rfl) (by kernel_rfl) (fun _ _ _ h => h) (by rfl) ?ry13 hHeld ?_
      case ry13 => ((intro w _hSw; (try dsimp only at _hSw); go_simp); try (with_reducible rfl))
      try simp only [Act.put, List.setIfInBounds_toArray, List.set_cons_zero, List.set_cons_succ]
      refine wpAnyH_take (i := 14) (v := undef) rfl (by kernel_rfl) (by kernel_rfl) (by kernel_rfl) (fun _ _ _ h => h) (.inr ⟨by rfl, rfl⟩) hHeld ?_
      (try simp only [Act.put]); (try simp only [List.setIfInBounds_toArray]); (try simp only [List.set_cons_succ]); (try simp only [List.set_cons_zero])
      refine wpAnyH_take (i := 15) (v := undef) rfl (by kernel_rfl) (by kernel_rfl) (by kernel_rfl) (fun _ _ _ h => h) (.inr ⟨by rfl, rfl⟩) hHeld ?_
      (try simp only [Act.put]); (try simp only [List.setIfInBounds_toArray]); (try simp only [List.set_cons_succ]); (try simp only [List.set_cons_zero])
      refine held_take (i := 16) (v := ?rv16) rfl (by kernel_rfl) (by kernel_rfl) (by kernel_rfl) (fun _ _ _ h => h) (by rfl) ?ry16 hHeld ?_
      case ry16 => ((intro w _hSw; (try dsimp only at _hSw); go_simp); try (with_reducible rfl))
      (try simp only [Act.put]); (try simp only [List.setIfInBounds_toArray]); (try simp only [List.set_cons_succ]); (try simp only [List.set_cons_zero])
      refine wpAnyH_done (by kernel_rfl) ?_ _
      go_wp2_with fail
      go_ret3
      exact ⟨J2.out, .inr ⟨11, one_bad (by have := HT.out.1; have := HB.out; omega) (.inr (.inl (by rw [HB.out.1]; exact HZ.out))), rfl⟩⟩
    · have ez : ((n0 : Int) == 0) = false := by rw [beq_eq_false_iff_ne]; omega
      have HZ := Lib.hid hz
      clear hz
      by_cases hbg : 1048576 < n0
      · have eb : (1048576 : Int) < (n0 : Int) := by omega
        have HG := Lib.hid hbg
        clear hbg
        go_wp2_with fail
        refine wp_region_held_drew (S := (fun w' => (convert 22 9 (.slice (cutA A c 4 1) 4 (c - 4))).run Tryd.prog w' = .ok (.string s2) w')) (by kernel_rfl) ?ss0 (fun hHeld => ?_)
        case ss0 => exact HTS.out _ HQ.out
        refine held_take (i := 0) (v := ?sv0) rfl (by kernel_rfl) (by kernel_rfl) (by kernel_rfl) (fun _ _ _ h => h) (by rfl) ?sy0 hHeld ?_
        case sy0 => ((intro w _hSw; (try dsimp only at _hSw); go_simp); try (with_reducible rfl))
        try simp only [Act.put, List.setIfInBounds_toArray, List.set_cons_zero, List.set_cons_succ]
        refine held_take (i := 1) (v := ?sv1) rfl (by kernel_rfl) (by kernel_rfl) (by kernel_rfl) (fun _ _ _ h => h) (by rfl) ?sy1 hHeld ?_
        case sy1 => ((intro w _hSw; (try dsimp only at _hSw); go_simp); try (with_reducible rfl))
        try simp only [Act.put, List.setIfInBounds_toArray, List.set_cons_zero, List.set_cons_succ]
        refine held_take (i := 5) (v := ?sv5) rfl (by kernel_rfl) (by kernel_rfl) (by kernel_rfl) (fun _ _ _ h => h) (by rfl) ?sy5 hHeld ?_
        case sy5 => ((intro w _hSw; (try dsimp only at _hSw); go_simp); try (with_reducible rfl))
        try simp only [Act.put, List.setIfInBounds_toArray, List.set_cons_zero, List.set_cons_succ]
        refine held_take (i := 6) (v := ?sv6) rfl (by kernel_rfl) (by kernel_rfl) (by kernel_rfl) (fun _ _ _ h => h) (by rfl) ?sy6 hHeld ?_
        case sy6 => ((intro w _hSw; (try dsimp only at _hSw); go_simp); try (with_reducible rfl))
        try simp only [Act.put, List.setIfInBounds_toArray, List.set_cons_zero, List.set_cons_succ]
        refine held_take (i := 7) (v := ?sv7) rfl (by kernel_rfl) (by kernel_rfl) (by kernel_rfl) (fun _ _ _ h => h) (by rfl) ?sy7 hHeld ?_
        case sy7 => ((intro w _hSw; (try dsimp only at _hSw); go_simp); try (with_reducible rfl))
        try simp only [Act.put, List.setIfInBounds_toArray, List.set_cons_zero, List.set_cons_succ]
        refine held_step (i := 2) rfl (by kernel_rfl) (by rfl) (fun K hK => ?_)
        go_simp
        refine (rsum03_to A 4 c (b.take 4) _ xs HL4.out (by decide) HX.out.1 (HT.out.2.2.2.2.front4 HQ.out)).mono ?_
        rintro e wa ⟨rfl, rfl⟩
        go_wp2_with fail
        have hHeld := HTS.out _ HQ.out
        refine hK.out _ _ (HTS.out _ HQ.out) ?_
        clear hK K
        try simp only [Act.put, List.setIfInBounds_toArray, List.set_cons_zero, List.set_cons_succ]
        refine held_step (i := 3) rfl (by kernel_rfl) (by rfl) (fun K hK => ?_)
        go_simp
        refine (four_to (xs.toNat : Nat) xs _ rfl).mono ?_
        rintro e wb ⟨A2, c2, rfl, _, hr2, hb2⟩
        have J2 := Lib.hid (below_then HQ.out HQ.out.size hb2)
        have q2 : (convert 22 9 (.slice A2 4 c2)).run Tryd.prog wb = .ok (.string s1) wb := by rw [HX.out.2.1]; exact run_str Tryd.underlying22 Tryd.underlying5 Tryd.underlying9 A2 4 c2 (be32 xs) wb rfl hr2
        clear hr2 hb2
        go_wp2_with fail
        have hHeld := HTS.out _ J2.out
        refine hK.out _ _ (HTS.out _ J2.out) ?_
        clear hK K
        try simp only [Act.put, List.setIfInBounds_toArray, List.set_cons_zero, List.set_cons_succ]
        refine held_step (i := 4) rfl (by kernel_rfl) (by rfl) (fun K hK => ?_)
        go_simp
        have hHeld := HTS.out _ J2.out
        refine hK.out _ _ (HTS.out _ J2.out) ?_
        clear hK K
        try simp only [Act.put, List.setIfInBounds_toArray, List.set_cons_zero, List.set_cons_succ]
        refine held_take (i := 8) (v := ?sv8) rfl (by kernel_rfl) (by kernel_rfl) (by kernel_rfl) (fun _ _ _ h => h) (by rfl) ?sy8 hHeld ?_
        case sy8 => ((intro w _hSw; (try dsimp only at _hSw); go_simp); try (with_reducible rfl))
        try simp only [Act.put, List.setIfInBounds_toArray, List.set_cons_zero, List.set_cons_succ]
        refine held_take (i := 9) (v := ?sv9) rfl (by kernel_rfl) (by kernel_rfl) (by kernel_rfl) (fun _ _ _ h => h) (by rfl) ?sy9 hHeld ?_
        case sy9 => ((intro w _hSw; (try dsimp only at _hSw); go_simp); try (with_reducible rfl))
        try simp only [Act.put, List.setIfInBounds_toArray, List.set_cons_zero, List.set_cons_succ]
        refine held_take (i := 10) (v := ?sv10) rfl (by kernel_rfl) (by kernel_rfl) (by kernel_rfl) (fun _ _ _ h => h) (by rfl) ?sy10 hHeld ?_
        case sy10 => ((intro w _hSw; (try dsimp only at _hSw); go_simp); try (with_reducible rfl))
        try simp only [Act.put, List.setIfInBounds_toArray, List.set_cons_zero, List.set_cons_succ]
        refine held_take (i := 11) (v := ?sv11) rfl (by kernel_rfl) (by kernel_rfl) (by kernel_rfl) (fun _ _ _ h => h) (by rfl) ?sy11 hHeld ?_
        case sy11 => ((intro w _hSw; (try dsimp only at _hSw); go_simp); try (with_reducible rfl))
        try simp only [Act.put, List.setIfInBounds_toArray, List.set_cons_zero, List.set_cons_succ]
        refine held_take (i := 12) (v := ?sv12) rfl (by kernel_rfl) (by kernel_rfl) (by kernel_rfl) (fun _ _ _ h => h) (by rfl) ?sy12 hHeld ?_
        case sy12 => ((intro w _hSw; (try dsimp only at _hSw); go_simp); try (with_reducible rfl))
        try simp only [Act.put, List.setIfInBounds_toArray, List.set_cons_zero, List.set_cons_succ]
        refine held_take (i := 13) (v := ?sv13) rfl (by kernel_rfl) (by kernel_rfl) (by kernel_rfl) (fun _ _ _ h => h) (by rfl) ?sy13 hHeld ?_
        case sy13 => ((intro w _hSw; (try dsimp only at _hSw); go_simp); try (with_reducible rfl))
        try simp only [Act.put, List.setIfInBounds_toArray, List.set_cons_zero, List.set_cons_succ]
        refine held_take (i := 14) (v := ?sv14) rfl (by kernel_rfl) (by kernel_rfl) (by kernel_rfl) (fun _ _ _ h => h) (by rfl) ?sy14 hHeld ?_
        case sy14 => ((intro w _hSw; (try dsimp only at _hSw); go_simp); try (with_reducible rfl))
        try simp only [Act.put, List.setIfInBounds_toArray, List.set_cons_zero, List.set_cons_succ]
        refine held_take (i := 15) (v := ?sv15) rfl (by kernel_rfl) (by kernel_rfl) (by kernel_rfl) (fun _ _ _ h => h) (by rfl) ?sy15 hHeld ?_
        case sy15 => ((intro w _hSw; (try dsimp only at _hSw); go_simp); try (with_reducible rfl))
        try simp only [Act.put, List.setIfInBounds_toArray, List.set_cons_zero, List.set_cons_succ]
        refine held_take (i := 16) (v := ?sv16) rfl (by kernel_rfl) (by kernel_rfl) (by kernel_rfl) (fun _ _ _ h => h) (by rfl) ?sy16 hHeld ?_
        case sy16 => ((intro w _hSw; (try dsimp only at _hSw); go_simp); try (with_reducible rfl))
        try simp only [Act.put, List.setIfInBounds_toArray, List.set_cons_zero, List.set_cons_succ]
        refine wpAnyH_done (by kernel_rfl) ?_ _
        go_wp2_with fail
        go_ret3
        exact ⟨J2.out, .inr ⟨11, one_bad (by have := HT.out.1; have := HB.out; omega) (.inr (.inr (by rw [HB.out.1]; exact HG.out))), rfl⟩⟩
      · have eb : ¬ (1048576 : Int) < (n0 : Int) := by omega
        have HN0 := Lib.hid hbg
        have hn0I : (n0 : Int) ≤ 1048576 := by omega
        clear hbg
        go_wp2_with fail
        refine wp_region_held_drew (S := (fun w' => (convert 22 9 (.slice (cutA A c 4 1) 4 (c - 4))).run Tryd.prog w' = .ok (.string s2) w')) (by kernel_rfl) ?ts0 (fun hHeld => ?_)
        case ts0 => exact HTS.out _ HQ.out
        refine held_take (i := 0) (v := ?tv0) rfl (by kernel_rfl) (by kernel_rfl) (by kernel_rfl) (fun _ _ _ h => h) (by rfl) ?ty0 hHeld ?_
        case ty0 => ((intro w _hSw; (try dsimp only at _hSw); go_simp); try (with_reducible rfl))
        try simp only [Act.put, List.setIfInBounds_toArray, List.set_cons_zero, List.set_cons_succ]
        refine held_take (i := 1) (v := ?tv1) rfl (by kernel_rfl) (by kernel_rfl) (by kernel_rfl) (fun _ _ _ h => h) (by rfl) ?ty1 hHeld ?_
        case ty1 => ((intro w _hSw; (try dsimp only at _hSw); go_simp); try (with_reducible rfl))
        try simp only [Act.put, List.setIfInBounds_toArray, List.set_cons_zero, List.set_cons_succ]
        refine held_take (i := 5) (v := ?tv5) rfl (by kernel_rfl) (by kernel_rfl) (by kernel_rfl) (fun _ _ _ h => h) (by rfl) ?ty5 hHeld ?_
        case ty5 => ((intro w _hSw; (try dsimp only at _hSw); go_simp); try (with_reducible rfl))
        try simp only [Act.put, List.setIfInBounds_toArray, List.set_cons_zero, List.set_cons_succ]
        refine held_take (i := 6) (v := ?tv6) rfl (by kernel_rfl) (by kernel_rfl) (by kernel_rfl) (fun _ _ _ h => h) (by rfl) ?ty6 hHeld ?_
        case ty6 => ((intro w _hSw; (try dsimp only at _hSw); go_simp); try (with_reducible rfl))
        try simp only [Act.put, List.setIfInBounds_toArray, List.set_cons_zero, List.set_cons_succ]
        refine held_take (i := 7) (v := ?tv7) rfl (by kernel_rfl) (by kernel_rfl) (by kernel_rfl) (fun _ _ _ h => h) (by rfl) ?ty7 hHeld ?_
        case ty7 => ((intro w _hSw; (try dsimp only at _hSw); go_simp); try (with_reducible rfl))
        try simp only [Act.put, List.setIfInBounds_toArray, List.set_cons_zero, List.set_cons_succ]
        refine held_step (i := 2) rfl (by kernel_rfl) (by rfl) (fun K hK => ?_)
        go_simp
        refine (rsum03_to A 4 c (b.take 4) _ xs HL4.out (by decide) HX.out.1 (HT.out.2.2.2.2.front4 HQ.out)).mono ?_
        rintro e wa ⟨rfl, rfl⟩
        go_wp2_with fail
        have hHeld := HTS.out _ HQ.out
        refine hK.out _ _ (HTS.out _ HQ.out) ?_
        clear hK K
        try simp only [Act.put, List.setIfInBounds_toArray, List.set_cons_zero, List.set_cons_succ]
        refine held_step (i := 3) rfl (by kernel_rfl) (by rfl) (fun K hK => ?_)
        go_simp
        refine (four_to (xs.toNat : Nat) xs _ rfl).mono ?_
        rintro e wb ⟨A2, c2, rfl, _, hr2, hb2⟩
        have J2 := Lib.hid (below_then HQ.out HQ.out.size hb2)
        have q2 : (convert 22 9 (.slice A2 4 c2)).run Tryd.prog wb = .ok (.string s1) wb := by rw [HX.out.2.1]; exact run_str Tryd.underlying22 Tryd.underlying5 Tryd.underlying9 A2 4 c2 (be32 xs) wb rfl hr2
        clear hr2 hb2
        go_wp2_with fail
        have hHeld := HTS.out _ J2.out
        refine hK.out _ _ (HTS.out _ J2.out) ?_
        clear hK K
        try simp only [Act.put, List.setIfInBounds_toArray, List.set_cons_zero, List.set_cons_succ]
        refine held_step (i := 4) rfl (by kernel_rfl) (by rfl) (fun K hK => ?_)
        go_simp
        have hHeld := HTS.out _ J2.out
        refine hK.out _ _ (HTS.out _ J2.out) ?_
        clear hK K
        try simp only [Act.put, List.setIfInBounds_toArray, List.set_cons_zero, List.set_cons_succ]
        refine held_take (i := 8) (v := ?tv8) rfl (by kernel_rfl) (by kernel_rfl) (by kernel_rfl) (fun _ _ _ h => h) (by rfl) ?ty8 hHeld ?_
        case ty8 => ((intro w _hSw; (try dsimp only at _hSw); go_simp); try (with_reducible rfl))
        try simp only [Act.put, List.setIfInBounds_toArray, List.set_cons_zero, List.set_cons_succ]
        refine held_take (i := 9) (v := ?tv9) rfl (by kernel_rfl) (by kernel_rfl) (by kernel_rfl) (fun _ _ _ h => h) (by rfl) ?ty9 hHeld ?_
        case ty9 => ((intro w _hSw; (try dsimp only at _hSw); go_simp); try (with_reducible rfl))
        try simp only [Act.put, List.setIfInBounds_toArray, List.set_cons_zero, List.set_cons_succ]
        refine held_take (i := 10) (v := ?tv10) rfl (by kernel_rfl) (by kernel_rfl) (by kernel_rfl) (fun _ _ _ h => h) (by rfl) ?ty10 hHeld ?_
        case ty10 => ((intro w _hSw; (try dsimp only at _hSw); go_simp); try (with_reducible rfl))
        try simp only [Act.put, List.setIfInBounds_toArray, List.set_cons_zero, List.set_cons_succ]
        refine held_take (i := 11) (v := ?tv11) rfl (by kernel_rfl) (by kernel_rfl) (by kernel_rfl) (fun _ _ _ h => h) (by rfl) ?ty11 hHeld ?_
        case ty11 => ((intro w _hSw; (try dsimp only at _hSw); go_simp); try (with_reducible rfl))
        try simp only [Act.put, List.setIfInBounds_toArray, List.set_cons_zero, List.set_cons_succ]
        refine held_take (i := 12) (v := ?tv12) rfl (by kernel_rfl) (by kernel_rfl) (by kernel_rfl) (fun _ _ _ h => h) (by rfl) ?ty12 hHeld ?_
        case ty12 => ((intro w _hSw; (try dsimp only at _hSw); go_simp); try (with_reducible rfl))
        try simp only [Act.put, List.setIfInBounds_toArray, List.set_cons_zero, List.set_cons_succ]
        refine held_take (i := 13) (v := ?tv13) rfl (by kernel_rfl) (by kernel_rfl) (by kernel_rfl) (fun _ _ _ h => h) (by rfl) ?ty13 hHeld ?_
        case ty13 => ((intro w _hSw; (try dsimp only at _hSw); go_simp); try (with_reducible rfl))
        try simp only [Act.put, List.setIfInBounds_toArray, List.set_cons_zero, List.set_cons_succ]
        refine held_take (i := 14) (v := ?tv14) rfl (by kernel_rfl) (by kernel_rfl) (by kernel_rfl) (fun _ _ _ h => h) (by rfl) ?ty14 hHeld ?_
        case ty14 => ((intro w _hSw; (try dsimp only at _hSw); go_simp); try (with_reducible rfl))
        try simp only [Act.put, List.setIfInBounds_toArray, List.set_cons_zero, List.set_cons_succ]
        refine held_take (i := 15) (v := ?tv15) rfl (by kernel_rfl) (by kernel_rfl) (by kernel_rfl) (fun _ _ _ h => h) (by rfl) ?ty15 hHeld ?_
        case ty15 => ((intro w _hSw; (try dsimp only at _hSw); go_simp); try (with_reducible rfl))
        try simp only [Act.put, List.setIfInBounds_toArray, List.set_cons_zero, List.set_cons_succ]
        refine held_take (i := 16) (v := ?tv16) rfl (by kernel_rfl) (by kernel_rfl) (by kernel_rfl) (fun _ _ _ h => h) (by rfl) ?ty16 hHeld ?_
        case ty16 => ((intro w _hSw; (try dsimp only at _hSw); go_simp); try (with_reducible rfl))
        try simp only [Act.put, List.setIfInBounds_toArray, List.set_cons_zero, List.set_cons_succ]
        refine wpAnyH_done (by kernel_rfl) ?_ _
        have hone : oneF b = (if b.length < n0 + 12 then .inr 12 else if un32l ((b.drop 8).drop n0) ≠ crc ((b.drop 8).take n0) then .inr 11 else .inl ((b.drop 8).take n0, n0 + 12)) := by
          unfold oneF
          rw [if_neg (by have := HT.out.1; have := HB.out; omega), if_neg (by have := HT.out.1; have := HB.out; omega)]
          simp only
          rw [HB.out.1, if_neg (by rintro (h | h | h); exact h (by rw [HS.out, HX.out.1]); exact HZ.out h; exact HN0.out h)]
        have J3 := J2
        by_cases hsh : n < n0 + 12
        · have esh : (n : Int) < (n0 : Int) + 12 := by omega
          have HO : Hid (oneF b = .inr 12) := Lib.hid (by rw [hone, if_pos (by rw [HT.out.1]; exact hsh)])
          clear hone hsh
          go_wp2_with fail
          go_ret3
          exact ⟨J3.out, .inr ⟨12, HO.out, rfl⟩⟩
        · have esh : ¬ (n : Int) < (n0 : Int) + 12 := by omega
          rw [if_neg (by rw [HT.out.1]; exact hsh)] at hone
          have HO := Lib.hid hone
          have HSH := Lib.hid hsh
          clear hone hsh
          obtain ⟨en, hen⟩ : ∃ e, 8 + n0 = e := ⟨_, rfl⟩
          obtain ⟨fn, hfn⟩ : ∃ f, 12 + n0 = f := ⟨_, rfl⟩
          have cC : ∀ wx, _ := fun wx => run_cut_mid tB A n c 8 (en : Int) (by omega) (by omega) (by have := HT.out; have := HSH.out; omega) wx
          have cD : ∀ wx, _ := fun wx => run_cut_mid tB A n c (en : Int) (fn : Int) (by omega) (by omega) (by have := HT.out; have := HSH.out; omega) wx
          simp only [Int.toNat_natCast, show (8 : Int).toNat = 8 from rfl, show en - 8 = n0 by omega, show fn - en = 4 by omega] at cC cD
          have a1 : (8 : Int) + (n0 : Int) = (en : Int) := by omega
          have a2 : (12 : Int) + (n0 : Int) = (fn : Int) := by omega
          have a3 : (n0 : Int) + 12 = (fn : Int) := by omega
          have w1' := IntWalk.i64_in (en : Int) (by omega)
          have w2' := IntWalk.i64_in (fn : Int) (by omega)
          have w3' := IntWalk.wrap64_in (en : Int) (by omega)
          have w4' := IntWalk.wrap64_in (fn : Int) (by omega)
          have hefI : (8 : Int) ≤ (en : Int) := by omega
          have hefJ : (en : Int) ≤ (fn : Int) := by omega
          have hefK : (fn : Int) ≤ (n : Int) := by have := HSH.out; omega
          have HEN := Lib.hid (And.intro hen hfn)
          obtain ⟨xp, hxp⟩ : ∃ x, x = crc ((b.drop 8).take n0) := ⟨_, rfl⟩
          obtain ⟨s3, hs3⟩ : ∃ s : ByteArray, s = ⟨(be32 xp).toArray⟩ := ⟨_, rfl⟩
          obtain ⟨s4, hs4⟩ : ∃ s : ByteArray, s = ⟨((b.drop en).take 4).toArray⟩ := ⟨_, rfl⟩
          have HX3 := Lib.hid (And.intro hxp hs3)
          have HPL := Lib.hid (show ((b.drop 8).take n0).length = n0 by have := HT.out.1; have := HSH.out; simp; omega)
          have HRP : Hid (∀ wx, Rd wx A (b.map B) → Rd wx (cutA A c 8 1) (((b.drop 8).take n0).map B)) := Lib.hid (fun wx hx => rd_mid3 c 8 n0 hx (by have := HT.out.1; have := HSH.out; omega) (by have := HT.out; omega))
          have HNN := Lib.hid (show n0 ≤ 140737488351232 by have := HN0.out; omega)
          have hstr := str_same hs3 hs4
          have hfour := four_at b en xp (by have := HT.out.1; have := HSH.out; omega)
          have HTS4 : Hid (∀ w', Below w.heap.size w w' → (convert 22 9 (.slice (cutA A c en 1) 4 (c - en))).run Tryd.prog w' = .ok (.string s4) w') := Lib.hid (fun w' hw' => by
            rw [hs4]
            exact run_str Tryd.underlying22 Tryd.underlying5 Tryd.underlying9 _ 4 _ ((b.drop en).take 4) w' (by have := HT.out.1; have := HSH.out; simp; omega) (rd_mid3 c en 4 (HT.out.2.2.2.2.below hw') (by have := HT.out.1; have := HSH.out; omega) (by have := HT.out; omega)))
          rw [← hen, ← List.drop_drop] at hfour hstr
          by_cases hp : un32l ((b.drop 8).drop n0) = xp
          · have hst2 : (s3.toList == s4.toList) = true := by rw [hstr, beq_iff_eq]; exact (hfour.2 hp).symm
            have HE : Hid (oneF b = .inl ((b.drop 8).take n0, n0 + 12)) := Lib.hid (by rw [HO.out, if_neg (fun h => h (by rw [hp, hxp]))])
            clear hstr hfour hp hxp hs3 hs4 hst cA cB hen hfn
            go_wp2_with fail
            refine wp_region_held_drew (S := (fun w' => (convert 22 9 (.slice (cutA A c en 1) 4 (c - en))).run Tryd.prog w' = .ok (.string s4) w')) (by kernel_rfl) ?us0 (fun hHeld => ?_)
            case us0 => exact HTS4.out _ J3.out.drew
            refine held_take (i := 0) (v := ?uv0) rfl (by kernel_rfl) (by kernel_rfl) (by kernel_rfl) (fun _ _ _ h => h) (by rfl) ?uy0 hHeld ?_
            case uy0 => ((intro w _hSw; (try dsimp only at _hSw); go_simp); try (with_reducible rfl))
            try simp only [Act.put, List.setIfInBounds_toArray, List.set_cons_zero, List.set_cons_succ]
            refine held_take (i := 1) (v := ?uv1) rfl (by kernel_rfl) (by kernel_rfl) (by kernel_rfl) (fun _ _ _ h => h) (by rfl) ?uy1 hHeld ?_
            case uy1 => ((intro w _hSw; (try dsimp only at _hSw); go_simp); try (with_reducible rfl))
            try simp only [Act.put, List.setIfInBounds_toArray, List.set_cons_zero, List.set_cons_succ]
            refine held_take (i := 2) (v := ?uv2) rfl (by kernel_rfl) (by kernel_rfl) (by kernel_rfl) (fun _ _ _ h => h) (by rfl) ?uy2 hHeld ?_
            case uy2 => ((intro w _hSw; (try dsimp only at _hSw); go_simp); try (with_reducible rfl))
            try simp only [Act.put, List.setIfInBounds_toArray, List.set_cons_zero, List.set_cons_succ]
            refine held_take (i := 3) (v := ?uv3) rfl (by kernel_rfl) (by kernel_rfl) (by kernel_rfl) (fun _ _ _ h => h) (by rfl) ?uy3 hHeld ?_
            case uy3 => ((intro w _hSw; (try dsimp only at _hSw); go_simp); try (with_reducible rfl))
            try simp only [Act.put, List.setIfInBounds_toArray, List.set_cons_zero, List.set_cons_succ]
            refine held_take (i := 7) (v := ?uv7) rfl (by kernel_rfl) (by kernel_rfl) (by kernel_rfl) (fun _ _ _ h => h) (by rfl) ?uy7 hHeld ?_
            case uy7 => ((intro w _hSw; (try dsimp only at _hSw); go_simp); try (with_reducible rfl))
            try simp only [Act.put, List.setIfInBounds_toArray, List.set_cons_zero, List.set_cons_succ]
            refine held_take (i := 8) (v := ?uv8) rfl (by kernel_rfl) (by kernel_rfl) (by kernel_rfl) (fun _ _ _ h => h) (by rfl) ?uy8 hHeld ?_
            case uy8 => ((intro w _hSw; (try dsimp only at _hSw); go_simp); try (with_reducible rfl))
            try simp only [Act.put, List.setIfInBounds_toArray, List.set_cons_zero, List.set_cons_succ]
            refine held_take (i := 9) (v := ?uv9) rfl (by kernel_rfl) (by kernel_rfl) (by kernel_rfl) (fun _ _ _ h => h) (by rfl) ?uy9 hHeld ?_
            case uy9 => ((intro w _hSw; (try dsimp only at _hSw); go_simp); try (with_reducible rfl))
            try simp only [Act.put, List.setIfInBounds_toArray, List.set_cons_zero, List.set_cons_succ]
            refine held_take (i := 10) (v := ?uv10) rfl (by kernel_rfl) (by kernel_rfl) (by kernel_rfl) (fun _ _ _ h => h) (by rfl) ?uy10 hHeld ?_
            case uy10 => ((intro w _hSw; (try dsimp only at _hSw); go_simp); try (with_reducible rfl))
            try simp only [Act.put, List.setIfInBounds_toArray, List.set_cons_zero, List.set_cons_succ]
            refine held_take (i := 11) (v := ?uv11) rfl (by kernel_rfl) (by kernel_rfl) (by kernel_rfl) (fun _ _ _ h => h) (by rfl) ?uy11 hHeld ?_
            case uy11 => ((intro w _hSw; (try dsimp only at _hSw); go_simp); try (with_reducible rfl))
            try simp only [Act.put, List.setIfInBounds_toArray, List.set_cons_zero, List.set_cons_succ]
            refine held_take (i := 12) (v := ?uv12) rfl (by kernel_rfl) (by kernel_rfl) (by kernel_rfl) (fun _ _ _ h => h) (by rfl) ?uy12 hHeld ?_
            case uy12 => ((intro w _hSw; (try dsimp only at _hSw); go_simp); try (with_reducible rfl))
            try simp only [Act.put, List.setIfInBounds_toArray, List.set_cons_zero, List.set_cons_succ]
            refine held_take (i := 13) (v := ?uv13) rfl (by kernel_rfl) (by kernel_rfl) (by kernel_rfl) (fun _ _ _ h => h) (by rfl) ?uy13 hHeld ?_
            case uy13 => ((intro w _hSw; (try dsimp only at _hSw); go_simp); try (with_reducible rfl))
            try simp only [Act.put, List.setIfInBounds_toArray, List.set_cons_zero, List.set_cons_succ]
            refine held_step (i := 4) rfl (by kernel_rfl) (by rfl) (fun K hK => ?_)
            go_simp
            refine (rsum03_to (cutA A c 8 1) n0 (c - 8) ((b.drop 8).take n0) _ xp HPL.out HNN.out HX3.out.1 (HRP.out _ (HT.out.2.2.2.2.below J3.out.drew))).mono ?_
            rintro e wa ⟨rfl, rfl⟩
            go_wp2_with fail
            have hHeld := HTS4.out _ J3.out.drew
            refine hK.out _ _ (HTS4.out _ J3.out.drew) ?_
            clear hK K
            try simp only [Act.put, List.setIfInBounds_toArray, List.set_cons_zero, List.set_cons_succ]
            refine held_step (i := 5) rfl (by kernel_rfl) (by rfl) (fun K hK => ?_)
            go_simp
            refine (four_to (xp.toNat : Nat) xp _ rfl).mono ?_
            rintro e wb ⟨A4, c4, rfl, _, hr4, hb4⟩
            have J4 := Lib.hid (below_then J3.out.drew J3.out.drew.size hb4)
            have q4 : (convert 22 9 (.slice A4 4 c4)).run Tryd.prog wb = .ok (.string s3) wb := by rw [HX3.out.2]; exact run_str Tryd.underlying22 Tryd.underlying5 Tryd.underlying9 A4 4 c4 (be32 xp) wb rfl hr4
            clear hr4 hb4
            go_wp2_with fail
            have hHeld := HTS4.out _ J4.out
            refine hK.out _ _ (HTS4.out _ J4.out) ?_
            clear hK K
            try simp only [Act.put, List.setIfInBounds_toArray, List.set_cons_zero, List.set_cons_succ]
            refine held_step (i := 6) rfl (by kernel_rfl) (by rfl) (fun K hK => ?_)
            go_simp
            have hHeld := HTS4.out _ J4.out
            refine hK.out _ _ (HTS4.out _ J4.out) ?_
            clear hK K
            try simp only [Act.put, List.setIfInBounds_toArray, List.set_cons_zero, List.set_cons_succ]
            refine held_take (i := 14) (v := ?uv14) rfl (by kernel_rfl) (by kernel_rfl) (by kernel_rfl) (fun _ _ _ h => h) (by rfl) ?uy14 hHeld ?_
            case uy14 => ((intro w _hSw; (try dsimp only at _hSw); go_simp); try (with_reducible rfl))
            try simp only [Act.put, List.setIfInBounds_toArray, List.set_cons_zero, List.set_cons_succ]
            refine wpAnyH_done (by kernel_rfl) ?_ _
            go_wp2_with fail
            go_ret3
            refine ⟨J4.out, .inl ⟨(b.drop 8).take n0, n0 + 12, cutA A c 8 1, c - 8, HE.out, ?_, ?_, HRP.out⟩⟩
            · rw [HPL.out, show n0 + 12 = fn by have := HEN.out; omega]; rfl
            · rw [HPL.out]; have := HT.out; have := HSH.out; omega
          · have hst2 : (s3.toList == s4.toList) = false := by rw [hstr, beq_eq_false_iff_ne]; exact fun e => hp (hfour.1 e.symm)
            have HE : Hid (oneF b = .inr 11) := Lib.hid (by rw [HO.out, if_pos (fun h => hp (by rw [h, hxp]))])
            clear hstr hfour hp hxp hs3 hs4 hst cA cB hen hfn
            go_wp2_with fail
            refine wp_region_held_drew (S := (fun w' => (convert 22 9 (.slice (cutA A c en 1) 4 (c - en))).run Tryd.prog w' = .ok (.string s4) w')) (by kernel_rfl) ?vs0 (fun hHeld => ?_)
            case vs0 => exact HTS4.out _ J3.out.drew
            refine held_take (i := 0) (v := ?vv0) rfl (by kernel_rfl) (by kernel_rfl) (by kernel_rfl) (fun _ _ _ h => h) (by rfl) ?vy0 hHeld ?_
            case vy0 => ((intro w _hSw; (try dsimp only at _hSw); go_simp); try (with_reducible rfl))
            try simp only [Act.put, List.setIfInBounds_toArray, List.set_cons_zero, List.set_cons_succ]
            refine held_take (i := 1) (v := ?vv1) rfl (by kernel_rfl) (by kernel_rfl) (by kernel_rfl) (fun _ _ _ h => h) (by rfl) ?vy1 hHeld ?_
            case vy1 => ((intro w _hSw; (try dsimp only at _hSw); go_simp); try (with_reducible rfl))
            try simp only [Act.put, List.setIfInBounds_toArray, List.set_cons_zero, List.set_cons_succ]
            refine held_take (i := 2) (v := ?vv2) rfl (by kernel_rfl) (by kernel_rfl) (by kernel_rfl) (fun _ _ _ h => h) (by rfl) ?vy2 hHeld ?_
            case vy2 => ((intro w _hSw; (try dsimp only at _hSw); go_simp); try (with_reducible rfl))
            try simp only [Act.put, List.setIfInBounds_toArray, List.set_cons_zero, List.set_cons_succ]
            refine held_take (i := 3) (v := ?vv3) rfl (by kernel_rfl) (by kernel_rfl) (by kernel_rfl) (fun _ _ _ h => h) (by rfl) ?vy3 hHeld ?_
            case vy3 => ((intro w _hSw; (try dsimp only at _hSw); go_simp); try (with_reducible rfl))
            try simp only [Act.put, List.setIfInBounds_toArray, List.set_cons_zero, List.set_cons_succ]
            refine held_take (i := 7) (v := ?vv7) rfl (by kernel_rfl) (by kernel_rfl) (by kernel_rfl) (fun _ _ _ h => h) (by rfl) ?vy7 hHeld ?_
            case vy7 => ((intro w _hSw; (try dsimp only at _hSw); go_simp); try (with_reducible rfl))
            try simp only [Act.put, List.setIfInBounds_toArray, List.set_cons_zero, List.set_cons_succ]
            refine held_take (i := 8) (v := ?vv8) rfl (by kernel_rfl) (by kernel_rfl) (by kernel_rfl) (fun _ _ _ h => h) (by rfl) ?vy8 hHeld ?_
            case vy8 => ((intro w _hSw; (try dsimp only at _hSw); go_simp); try (with_reducible rfl))
            try simp only [Act.put, List.setIfInBounds_toArray, List.set_cons_zero, List.set_cons_succ]
            refine held_take (i := 9) (v := ?vv9) rfl (by kernel_rfl) (by kernel_rfl) (by kernel_rfl) (fun _ _ _ h => h) (by rfl) ?vy9 hHeld ?_
            case vy9 => ((intro w _hSw; (try dsimp only at _hSw); go_simp); try (with_reducible rfl))
            try simp only [Act.put, List.setIfInBounds_toArray, List.set_cons_zero, List.set_cons_succ]
            refine held_take (i := 10) (v := ?vv10) rfl (by kernel_rfl) (by kernel_rfl) (by kernel_rfl) (fun _ _ _ h => h) (by rfl) ?vy10 hHeld ?_
            case vy10 => ((intro w _hSw; (try dsimp only at _hSw); go_simp); try (with_reducible rfl))
            try simp only [Act.put, List.setIfInBounds_toArray, List.set_cons_zero, List.set_cons_succ]
            refine held_take (i := 11) (v := ?vv11) rfl (by kernel_rfl) (by kernel_rfl) (by kernel_rfl) (fun _ _ _ h => h) (by rfl) ?vy11 hHeld ?_
            case vy11 => ((intro w _hSw; (try dsimp only at _hSw); go_simp); try (with_reducible rfl))
            try simp only [Act.put, List.setIfInBounds_toArray, List.set_cons_zero, List.set_cons_succ]
            refine held_take (i := 12) (v := ?vv12) rfl (by kernel_rfl) (by kernel_rfl) (by kernel_rfl) (fun _ _ _ h => h) (by rfl) ?vy12 hHeld ?_
            case vy12 => ((intro w _hSw; (try dsimp only at _hSw); go_simp); try (with_reducible rfl))
            try simp only [Act.put, List.setIfInBounds_toArray, List.set_cons_zero, List.set_cons_succ]
            refine held_take (i := 13) (v := ?vv13) rfl (by kernel_rfl) (by kernel_rfl) (by kernel_rfl) (fun _ _ _ h => h) (by rfl) ?vy13 hHeld ?_
            case vy13 => ((intro w _hSw; (try dsimp only at _hSw); go_simp); try (with_reducible rfl))
            try simp only [Act.put, List.setIfInBounds_toArray, List.set_cons_zero, List.set_cons_succ]
            refine held_step (i := 4) rfl (by kernel_rfl) (by rfl) (fun K hK => ?_)
            go_simp
            refine (rsum03_to (cutA A c 8 1) n0 (c - 8) ((b.drop 8).take n0) _ xp HPL.out HNN.out HX3.out.1 (HRP.out _ (HT.out.2.2.2.2.below J3.out.drew))).mono ?_
            rintro e wa ⟨rfl, rfl⟩
            go_wp2_with fail
            have hHeld := HTS4.out _ J3.out.drew
            refine hK.out _ _ (HTS4.out _ J3.out.drew) ?_
            clear hK K
            try simp only [Act.put, List.setIfInBounds_toArray, List.set_cons_zero, List.set_cons_succ]
            refine held_step (i := 5) rfl (by kernel_rfl) (by rfl) (fun K hK => ?_)
            go_simp
            refine (four_to (xp.toNat : Nat) xp _ rfl).mono ?_
            rintro e wb ⟨A4, c4, rfl, _, hr4, hb4⟩
            have J4 := Lib.hid (below_then J3.out.drew J3.out.drew.size hb4)
            have q4 : (convert 22 9 (.slice A4 4 c4)).run Tryd.prog wb = .ok (.string s3) wb := by rw [HX3.out.2]; exact run_str Tryd.underlying22 Tryd.underlying5 Tryd.underlying9 A4 4 c4 (be32 xp) wb rfl hr4
            clear hr4 hb4
            go_wp2_with fail
            have hHeld := HTS4.out _ J4.out
            refine hK.out _ _ (HTS4.out _ J4.out) ?_
            clear hK K
            try simp only [Act.put, List.setIfInBounds_toArray, List.set_cons_zero, List.set_cons_succ]
            refine held_step (i := 6) rfl (by kernel_rfl) (by rfl) (fun K hK => ?_)
            go_simp
            have hHeld := HTS4.out _ J4.out
            refine hK.out _ _ (HTS4.out _ J4.out) ?_
            clear hK K
            try simp only [Act.put, List.setIfInBounds_toArray, List.set_cons_zero, List.set_cons_succ]
            refine held_take (i := 14) (v := ?vv14) rfl (by kernel_rfl) (by kernel_rfl) (by kernel_rfl) (fun _ _ _ h => h) (by rfl) ?vy14 hHeld ?_
            case vy14 => ((intro w _hSw; (try dsimp only at _hSw); go_simp); try (with_reducible rfl))
            try simp only [Act.put, List.setIfInBounds_toArray, List.set_cons_zero, List.set_cons_succ]
            refine wpAnyH_done (by kernel_rfl) ?_ _
            go_wp2_with fail
            go_ret3
            exact ⟨J4.out, .inr ⟨11, HE.out, rfl⟩⟩
  · have hst : (s1.toList == s2.toList) = false := by rw [hstr, beq_eq_false_iff_ne]; exact fun e => hs (hfour.1 e.symm)
    have HS := Lib.hid hs
    clear hstr hfour hs
    go_wp2_with fail
    refine wp_region_held_drew (S := (fun w' => (convert 22 9 (.slice (cutA A c 4 1) 4 (c - 4))).run Tryd.prog w' = .ok (.string s2) w')) (by kernel_rfl) ?qs0 (fun hHeld => ?_)
    case qs0 => exact HTS.out _ HQ.out
    refine held_take (i := 0) (v := ?qv0) rfl (by kernel_rfl) (by kernel_rfl) (by kernel_rfl) (fun _ _ _ h => h) (by rfl) ?qy0 hHeld ?_
    case qy0 => ((intro w _hSw; (try dsimp only at _hSw); go_simp); try (with_reducible rfl))
    try simp only [Act.put, List.setIfInBounds_toArray, List.set_cons_zero, List.set_cons_succ]
    refine held_take (i := 1) (v := ?qv1) rfl (by kernel_rfl) (by kernel_rfl) (by kernel_rfl) (fun _ _ _ h => h) (by rfl) ?qy1 hHeld ?_
    case qy1 => ((intro w _hSw; (try dsimp only at _hSw); go_simp); try (with_reducible rfl))
    try simp only [Act.put, List.setIfInBounds_toArray, List.set_cons_zero, List.set_cons_succ]
    refine held_take (i := 5) (v := ?qv5) rfl (by kernel_rfl) (by kernel_rfl) (by kernel_rfl) (fun _ _ _ h => h) (by rfl) ?qy5 hHeld ?_
    case qy5 => ((intro w _hSw; (try dsimp only at _hSw); go_simp); try (with_reducible rfl))
    try simp only [Act.put, List.setIfInBounds_toArray, List.set_cons_zero, List.set_cons_succ]
    refine held_take (i := 6) (v := ?qv6) rfl (by kernel_rfl) (by kernel_rfl) (by kernel_rfl) (fun _ _ _ h => h) (by rfl) ?qy6 hHeld ?_
    case qy6 => ((intro w _hSw; (try dsimp only at _hSw); go_simp); try (with_reducible rfl))
    try simp only [Act.put, List.setIfInBounds_toArray, List.set_cons_zero, List.set_cons_succ]
    refine held_take (i := 7) (v := ?qv7) rfl (by kernel_rfl) (by kernel_rfl) (by kernel_rfl) (fun _ _ _ h => h) (by rfl) ?qy7 hHeld ?_
    case qy7 => ((intro w _hSw; (try dsimp only at _hSw); go_simp); try (with_reducible rfl))
    try simp only [Act.put, List.setIfInBounds_toArray, List.set_cons_zero, List.set_cons_succ]
    refine held_step (i := 2) rfl (by kernel_rfl) (by rfl) (fun K hK => ?_)
    go_simp
    refine (rsum03_to A 4 c (b.take 4) _ xs HL4.out (by decide) HX.out.1 (HT.out.2.2.2.2.front4 HQ.out)).mono ?_
    rintro e wa ⟨rfl, rfl⟩
    go_wp2_with fail
    have hHeld := HTS.out _ HQ.out
    refine hK.out _ _ (HTS.out _ HQ.out) ?_
    clear hK K
    try simp only [Act.put, List.setIfInBounds_toArray, List.set_cons_zero, List.set_cons_succ]
    refine held_step (i := 3) rfl (by kernel_rfl) (by rfl) (fun K hK => ?_)
    go_simp
    refine (four_to (xs.toNat : Nat) xs _ rfl).mono ?_
    rintro e wb ⟨A2, c2, rfl, _, hr2, hb2⟩
    have J2 := Lib.hid (below_then HQ.out HQ.out.size hb2)
    have q2 : (convert 22 9 (.slice A2 4 c2)).run Tryd.prog wb = .ok (.string s1) wb := by rw [HX.out.2.1]; exact run_str Tryd.underlying22 Tryd.underlying5 Tryd.underlying9 A2 4 c2 (be32 xs) wb rfl hr2
    clear hr2 hb2
    go_wp2_with fail
    have hHeld := HTS.out _ J2.out
    refine hK.out _ _ (HTS.out _ J2.out) ?_
    clear hK K
    try simp only [Act.put, List.setIfInBounds_toArray, List.set_cons_zero, List.set_cons_succ]
    refine held_step (i := 4) rfl (by kernel_rfl) (by rfl) (fun K hK => ?_)
    go_simp
    have hHeld := HTS.out _ J2.out
    refine hK.out _ _ (HTS.out _ J2.out) ?_
    clear hK K
    try simp only [Act.put, List.setIfInBounds_toArray, List.set_cons_zero, List.set_cons_succ]
    refine held_take (i := 8) (v := ?qv8) rfl (by kernel_rfl) (by kernel_rfl) (by kernel_rfl) (fun _ _ _ h => h) (by rfl) ?qy8 hHeld ?_
    case qy8 => ((intro w _hSw; (try dsimp only at _hSw); go_simp); try (with_reducible rfl))
    try simp only [Act.put, List.setIfInBounds_toArray, List.set_cons_zero, List.set_cons_succ]
    refine held_take (i := 9) (v := ?qv9) rfl (by kernel_rfl) (by kernel_rfl) (by kernel_rfl) (fun _ _ _ h => h) (by rfl) ?qy9 hHeld ?_
    case qy9 => ((intro w _hSw; (try dsimp only at _hSw); go_simp); try (with_reducible rfl))
    try simp only [Act.put, List.setIfInBounds_toArray, List.set_cons_zero, List.set_cons_succ]
    refine wpAnyH_take (i := 10) (v := undef) rfl (by kernel_rfl) (by kernel_rfl) (by kernel_rfl) (fun _ _ _ h => h) (.inr ⟨by rfl, rfl⟩) hHeld ?_
    (try simp only [Act.put]); (try simp only [List.setIfInBounds_toArray]); (try simp only [List.set_cons_succ]); (try simp only [List.set_cons_zero])
    refine wpAnyH_take (i := 11) (v := undef) rfl (by kernel_rfl) (by kernel_rfl) (by kernel_rfl) (fun _ _ _ h => h) (.inr ⟨by rfl, rfl⟩) hHeld ?_
    (try simp only [Act.put]); (try simp only [List.setIfInBounds_toArray]); (try simp only [List.set_cons_succ]); (try simp only [List.set_cons_zero])
    refine held_take (i := 12) (v := ?qv12) rfl (by kernel_rfl) (by kernel_rfl) (by kernel_rfl) (fun _ _ _ h => h) (by rfl) ?qy12 hHeld ?_
    case qy12 => ((intro w _hSw; (try dsimp only at _hSw); go_simp); try (with_reducible rfl))
    (try simp only [Act.put]); (try simp only [List.setIfInBounds_toArray]); (try simp only [List.set_cons_succ]); (try simp only [List.set_cons_zero])
    refine held_take (i := 13) (v := ?qv13) rfl (by kernel_rfl) (by kernel_rfl) (by kernel_rfl) (fun _ _ _ h => h) (by rfl) ?qy13 hHeld ?_
    case qy13 => ((intro w _hSw; (try dsimp only at _hSw); go_simp); try (with_reducible rfl))
    (try simp only [Act.put]); (try simp only [List.setIfInBounds_toArray]); (try simp only [List.set_cons_succ]); (try simp only [List.set_cons_zero])
    refine wpAnyH_take (i := 14) (v := undef) rfl (by kernel_rfl) (by kernel_rfl) (by kernel_rfl) (fun _ _ _ h => h) (.inr ⟨by rfl, rfl⟩) hHeld ?_
    (try simp only [Act.put]); (try simp only [List.setIfInBounds_toArray]); (try simp only [List.set_cons_succ]); (try simp only [List.set_cons_zero])
    refine wpAnyH_take (i := 15) (v := undef) rfl (by kernel_rfl) (by kernel_rfl) (by kernel_rfl) (fun _ _ _ h => h) (.inr ⟨by rfl, rfl⟩) hHeld ?_
    (try simp only [Act.put]); (try simp only [List.setIfInBounds_toArray]); (try simp only [List.set_cons_succ]); (try simp only [List.set_cons_zero])
    refine held_take (i := 16) (v := ?qv16) rfl (by kernel_rfl) (by kernel_rfl) (by kernel_rfl) (fun _ _ _ h => h) (by rfl) ?qy16 hHeld ?_
    case qy16 => ((intro w _hSw; (try dsimp only at _hSw); go_simp); try (with_reducible rfl))
    (try simp only [Act.put]); (try simp only [List.setIfInBounds_toArray]); (try simp only [List.set_cons_succ]); (try simp only [List.set_cons_zero])
    refine wpAnyH_done (by kernel_rfl) ?_ _
    go_wp2_with fail
    go_ret3
    exact ⟨J2.out, .inr ⟨11, one_bad (by have := HT.out.1; have := HB.out; omega) (.inl (by rw [← HX.out.1]; exact HS.out)), rfl⟩⟩
end Go.Proofs.YtdmopnmifdjcnaaDoor
