/- Layer 5: Digits by its contract. -/
import Derived.Test.YtcgdojdiihdkeaaDoorWots2
namespace Go.Proofs.YtcgdojdiihdkeaaDoor
open Go Go.RowKit Go.Isth

abbrev I (n : Nat) : Value := .int .i64 (n : Int)
theorem one_nats {l : List Nat} : ∀ u ∈ l.map I, u.oneCell' = true := by
  intro u hu; obtain ⟨x, _, rfl⟩ := List.mem_map.1 hu; rfl
theorem tIn : SlT Tryd.prog 44 3 (.int .i64 0) 1 8 := ⟨Tryd.underlying44, by kernel_rfl, rfl, by decide⟩
theorem and15_64 (n : Nat) (h : n < 4611686018427387904) : bits .and .i64 (n : Int) 15 = ((n % 16 : Nat) : Int) := by
  have e1 : (n : Int) = ((BitVec.ofNat 64 n).toNat : Int) := by simp; omega
  have e2 : (15 : Int) = ((15#64).toNat : Int) := rfl
  have e3 : bits .and .i64 ((BitVec.ofNat 64 n).toNat : Int) ((15#64).toNat : Int) = IntKind.i64.wrap (((BitVec.ofNat 64 n &&& 15#64 : BitVec 64).toNat : Nat) : Int) := by
    simp only [bits, IntKind.bits, ofInt_toNat]; rfl
  rw [e1, e2, e3, BitVec.toNat_and, show (15#64).toNat = 2 ^ 4 - 1 from rfl, Nat.and_two_pow_sub_one_eq_mod, IntKind.wrap_i64, BitVec.toNat_ofNat]
  omega
theorem and15_8 (c : UInt8) : bits .and .u8 (c.toNat : Int) 15 = ((c.toNat % 16 : Nat) : Int) := by
  have h := and8 c 15
  rw [show (((15 : UInt8).toNat : Nat) : Int) = 15 from rfl] at h
  rw [h, UInt8.toNat_and, show (15 : UInt8).toNat = 2 ^ 4 - 1 from rfl, Nat.and_two_pow_sub_one_eq_mod]
#print axioms and15_64
theorem digits_none (A : Option Addr) (c n : Nat) (w : World) (h : n < 1 ∨ 32 < n) : Calls Tryd.prog 25 #[.slice A n c] w fun e w' => e = .returned (.slice none 0 0) ∧ w = w' := by
  have h' : (n : Int) < 1 ∨ 32 < (n : Int) := by omega
  clear h
  go_enter Tryd.func25, Tryd.ntmps25
  go_wp2_with (go_at_call 60; refine (digest_no _ _ h').mono ?_; rintro e w' ⟨rfl, rfl⟩)
  go_ret
  exact ⟨rfl, rfl⟩
/-- 'make([]int, 0, n)' -/
theorem run_mk0 (n : Nat) (hb : n ≤ 1000) (w : World) :
    (Instr.makeSlice 44 (.int .i64 0) (.int .i64 (n : Int))).run Tryd.prog w = .ok (.slice (some ⟨w.heap.size, 0, none⟩) 0 n) (w.alloc (.cells (madeCells #[.int .i64 0] n) 3)) := by
  obtain ⟨i, hi, hz, hsz, hby⟩ := info_parts tIn.info
  have h := run_make (P := Tryd.prog) w 44 3 i (.int .i64 0) tIn.under hi hz .i64 .i64 0 (n : Int) (Int.le_refl _) (by omega) (by rw [hby]; omega) (by omega)
  simpa [hsz, show (Value.int IntKind.i64 0).cells = #[Value.int IntKind.i64 0] from rfl] using h
theorem own_mk0 (n : Nat) (hb : n ≤ 1000) (w : World) : (w.alloc (.cells (madeCells #[.int .i64 0] n) 3)).ownsRow w.heap.size 3 1 (.slice (some ⟨w.heap.size, 0, none⟩) 0 n) 0 [] :=
  ⟨rfl, .inr ⟨w.heap.size, n, _, rfl, Nat.le_refl _, heap_alloc_new w _, Nat.zero_le _, by unfold maxLen; omega, by rw [size_madeCells, Nat.mul_one], by simp⟩⟩
theorem idx2_0 (x y : Nat) (w : World) : (Instr.index 47 (.agg #[.int .i64 (x : Int), .int .i64 (y : Int)]) (.int .i64 0)).run Tryd.prog w = .ok (I x) w := by kernel_rfl
theorem idx2_1 (x y : Nat) (w : World) : (Instr.index 47 (.agg #[.int .i64 (x : Int), .int .i64 (y : Int)]) (.int .i64 1)).run Tryd.prog w = .ok (I y) w := by kernel_rfl
def DigInv (w : World) (d : List UInt8) (v3 v4 v20 : Value) (wr : World) : Prop :=
  ∃ k : Nat, k ≤ d.length ∧ v20 = I k ∧ v4 = I (lackL (dgs (d.take k))) ∧ wr.ownsRow w.heap.size 3 1 v3 (dgs (d.take k)).length ((dgs (d.take k)).map I) ∧ Below w.heap.size w wr
set_option maxRecDepth 100000 in
set_option maxHeartbeats 2000000 in
theorem digits_any (A : Option Addr) (c : Nat) (d : List UInt8) (w : World) (h1 : 1 ≤ d.length) (h2 : d.length ≤ 32) (hr : Rd w A (d.map B)) :
    Calls Tryd.prog 25 #[.slice A d.length c] w fun e w' => ∃ v, e = .returned v ∧ w'.ownsRow w.heap.size 3 1 v (digitsW d).length ((digitsW d).map I) ∧ Below w.heap.size w w' := by
  obtain ⟨b, o, rfl, hb, hcell⟩ := hr.at_ (by simp; omega)
  have HT := Lib.hid (And.intro h1 (And.intro h2 (And.intro hb hcell)))
  have h1' : (1 : Int) ≤ d.length := by omega
  have h2' : (d.length : Int) ≤ 32 := by omega
  have hmk := run_mk0 (2 * d.length + 3) (by omega) w
  rw [show ((2 * d.length + 3 : Nat) : Int) = 2 * (d.length : Int) + 3 by omega] at hmk
  clear h1 h2 hr hb hcell
  go_enter Tryd.func25, Tryd.ntmps25
  go_wp2_with (first
    | (go_at_call 60; refine (digest_yes _ _ h1' h2').mono ?_; rintro e w' ⟨rfl, rfl⟩)
    | (go_at_call 24; refine (len_yes _ _ h1' h2').mono ?_; rintro e w' ⟨rfl, rfl⟩))
  clear hmk
  have ho0 := own_mk0 (2 * d.length + 3) (by omega) w
  have hb0 : Below w.heap.size w (w.alloc (.cells (madeCells #[.int .i64 0] (2 * d.length + 3)) 3)) := (Below.refl _ _).alloc (Nat.le_refl _) _
  generalize w.alloc (.cells (madeCells #[.int .i64 0] (2 * d.length + 3)) 3) = w0 at *
  go_loopw [3, 4, 20] (fun v3 v4 v20 wr => DigInv w d v3 v4 v20 wr) (fun _ _ v20 _ => d.length - (intOf v20).toNat)
  case atStart => exact ⟨0, Nat.zero_le _, rfl, rfl, ho0, hb0⟩
  case round =>
    obtain ⟨k, hk, rfl, rfl, ho, hB⟩ := hrel
    obtain ⟨A3, c3, rfl, _⟩ := own_slice ho
    by_cases hlt : k < d.length
    · obtain ⟨cc, hcc⟩ : ∃ cc, d[k]? = some cc := ⟨_, List.getElem?_eq_getElem hlt⟩
      have hcl : wr.cell? ⟨b, o + k, none⟩ = some (B cc) := by
        have h := HT.out.2.2.2 k (by simpa using hlt)
        rw [(hB.cell (p := ⟨b, o + k, none⟩) HT.out.2.2.1), h]
        have := (List.getElem?_eq_some_iff.1 hcc).2
        simp [this]
      have hdk : dgs (d.take (k + 1)) = dgs (d.take k) ++ dg2 cc := by rw [List.take_add_one, hcc, dgs_append]; simp [dgs]
      have hle := lackL_le (dgs (d.take k))
      have hln := dgs_length (d.take k)
      have htk : (d.take k).length ≤ k := by simp; omega
      have hx1 : (cc.toNat : Int) / 16 = ((cc.toNat / 16 : Nat) : Int) := by omega
      have hx2 := and15_8 cc
      have hx : cc.toNat / 16 ≤ 15 ∧ cc.toNat % 16 ≤ 15 := by have := cc.toNat_lt; omega
      rw [show dg2 cc = [cc.toNat / 16, cc.toNat % 16] from rfl] at hdk
      generalize cc.toNat / 16 = x at *
      generalize cc.toNat % 16 = y at *
      generalize dgs (d.take k) = L at *
      obtain ⟨hxl, hyl⟩ := hx
      have HD := Lib.hid (And.intro hdk (And.intro ho hB))
      have HL := Lib.hid (show L.length + 2 ≤ maxLen ∧ (L.length + 2) * 8 ≤ 140737488355328 by unfold maxLen; omega)
      have HLK := Lib.hid (show lackL L ≤ 960 by omega)
      have hlk := HLK.out
      have HX := Lib.hid (And.intro hxl hyl)
      have HC := Lib.hid hcc
      clear hdk ho hB hle hln htk hcc
      go_wp2_with fail
      clear hx1 hx2 hcl
      have hi0 := idx2_0 x y wr
      refine wp_loop_rounds 3 ?_
      rw [rounds_succ]
      go_wp2_with (at_builtin; refine wpList_app tIn rfl _ _ rfl w.heap.size _ _ (L.map I) rfl (HD.out.2.1.alloc _) (some ⟨wr.heap.size, 0, none⟩) 1 1 [I x] rfl (Rd_alloc _ _ _) rfl (one_cell1 rfl) (by have := HL.out; omega) (by have := HL.out; omega) (by have := HD.out.2.2.size; rw [World.size_alloc]; omega) ?_)
      intro v4 w4 ho4 hx4
      obtain ⟨A4, c4, rfl, _⟩ := own_slice ho4
      have hb4 := (HD.out.2.2.alloc HD.out.2.2.size (.cells #[I x] 3)).grown hx4.grown (by have := HD.out.2.2.size; rw [World.size_alloc]; omega) (fun q e => (HD.out.2.1.lt q e).1)
      have H4 := Lib.hid (And.intro ho4 hb4)
      have hi1 := idx2_1 x y w4
      clear ho4 hx4 hb4 hi0
      go_wp2_with fail
      rw [rounds_succ]
      go_wp2_with (at_builtin; refine wpList_app tIn rfl _ _ rfl w.heap.size _ _ (L.map I ++ [I x]) rfl (H4.out.1.alloc _) (some ⟨w4.heap.size, 0, none⟩) 1 1 [I y] rfl (Rd_alloc _ _ _) rfl (one_cell1 rfl) (by have := HL.out; omega) (by have := HL.out; omega) (by have := H4.out.2.size; rw [World.size_alloc]; omega) ?_)
      intro v5 w5 ho5 hx5
      obtain ⟨A5, c5, rfl, _⟩ := own_slice ho5
      have hb5 := (H4.out.2.alloc H4.out.2.size (.cells #[I y] 3)).grown hx5.grown (by have := H4.out.2.size; rw [World.size_alloc]; omega) (fun q e => (H4.out.1.lt q e).1)
      have H5 := Lib.hid (And.intro ho5 hb5)
      clear ho5 hx5 hb5 hi1
      go_wp2_with fail
      rw [rounds_succ]
      go_wp2_with fail
      go_roundw
      case rel =>
        refine ⟨k + 1, hlt, by go_num, ?_, ?_, H5.out.2⟩
        · rw [HD.out.1, lackL_append]; show Value.int _ _ = Value.int _ _; simp only [lackL]; congr 1; omega
        · rw [HD.out.1]; simpa using H5.out.1
      case measure => simp [intOf]; omega
    · obtain rfl : k = d.length := by omega
      rw [List.take_length] at ho
      simp only [List.take_length]
      have hle := lackL_le (dgs d)
      have hln := dgs_length d
      have hdg : digitsW d = dgs d ++ [lackL (dgs d) / 256 % 16, lackL (dgs d) / 16 % 16, lackL (dgs d) % 16] := rfl
      generalize dgs d = L at *
      have hs : lackL L ≤ 960 := by omega
      have HL := Lib.hid (show L.length + 3 ≤ maxLen ∧ (L.length + 3) * 8 ≤ 140737488355328 by unfold maxLen; omega)
      generalize lackL L = s at *
      have h8 : bits .and .i64 ((s : Int) / 256) 15 = ((s / 256 % 16 : Nat) : Int) := by have h := and15_64 (s / 256) (by omega); rwa [Int.natCast_ediv] at h
      have h4 : bits .and .i64 ((s : Int) / 16) 15 = ((s / 16 % 16 : Nat) : Int) := by have h := and15_64 (s / 16) (by omega); rwa [Int.natCast_ediv] at h
      have h0 := and15_64 s (by omega)
      have HD := Lib.hid (And.intro hdg (And.intro ho hB))
      clear hdg ho hB hle hln hk hlt
      generalize s / 256 % 16 = x at *
      generalize s / 16 % 16 = y at *
      generalize s % 16 = z at *
      go_wp2_with fail
      refine wp_loop_rounds 4 ?_
      rw [rounds_succ]
      go_wp2_with (at_builtin; refine wpList_app tIn rfl _ _ rfl w.heap.size _ _ (L.map I) rfl (HD.out.2.1.alloc _) (some ⟨wr.heap.size, 0, none⟩) 1 1 [I x] rfl (Rd_alloc _ _ _) rfl (one_cell1 rfl) (by have := HL.out; omega) (by have := HL.out; omega) (by have := HD.out.2.2.size; rw [World.size_alloc]; omega) ?_)
      intro v4 w4 ho4 hx4
      obtain ⟨A4, c4, rfl, _⟩ := own_slice ho4
      have hb4 := (HD.out.2.2.alloc HD.out.2.2.size (.cells #[I x] 3)).grown hx4.grown (by have := HD.out.2.2.size; rw [World.size_alloc]; omega) (fun q e => (HD.out.2.1.lt q e).1)
      have H4 := Lib.hid (And.intro ho4 hb4)
      clear ho4 hx4 hb4
      go_wp2_with fail
      rw [rounds_succ]
      go_wp2_with (at_builtin; refine wpList_app tIn rfl _ _ rfl w.heap.size _ _ (L.map I ++ [I x]) rfl (H4.out.1.alloc _) (some ⟨w4.heap.size, 0, none⟩) 1 1 [I y] rfl (Rd_alloc _ _ _) rfl (one_cell1 rfl) (by have := HL.out; omega) (by have := HL.out; omega) (by have := H4.out.2.size; rw [World.size_alloc]; omega) ?_)
      intro v5 w5 ho5 hx5
      obtain ⟨A5, c5, rfl, _⟩ := own_slice ho5
      have hb5 := (H4.out.2.alloc H4.out.2.size (.cells #[I y] 3)).grown hx5.grown (by have := H4.out.2.size; rw [World.size_alloc]; omega) (fun q e => (H4.out.1.lt q e).1)
      have H5 := Lib.hid (And.intro ho5 hb5)
      clear ho5 hx5 hb5
      go_wp2_with fail
      rw [rounds_succ]
      go_wp2_with (at_builtin; refine wpList_app tIn rfl _ _ rfl w.heap.size _ _ (L.map I ++ [I x, I y]) rfl (H5.out.1.alloc _) (some ⟨w5.heap.size, 0, none⟩) 1 1 [I z] rfl (Rd_alloc _ _ _) rfl (one_cell1 rfl) (by have := HL.out; omega) (by have := HL.out; omega) (by have := H5.out.2.size; rw [World.size_alloc]; omega) ?_)
      intro v6 w6 ho6 hx6
      obtain ⟨A6, c6, rfl, _⟩ := own_slice ho6
      have hb6 := (H5.out.2.alloc H5.out.2.size (.cells #[I z] 3)).grown hx6.grown (by have := H5.out.2.size; rw [World.size_alloc]; omega) (fun q e => (H5.out.1.lt q e).1)
      have H6 := Lib.hid (And.intro ho6 hb6)
      clear ho6 hx6 hb6
      go_wp2_with fail
      rw [rounds_succ]
      go_wp2_with fail
      go_ret
      refine ⟨_, rfl, ?_, H6.out.2⟩
      rw [HD.out.1]; simpa using H6.out.1
#print axioms digits_any
end Go.Proofs.YtcgdojdiihdkeaaDoor
