/- Layer 5: Public, Sign by their contracts. -/
import Derived.Test.YtcgdojdiihdkeaaDoorWots4
import Derived.Test.YtcgdojdiihdkeaaDoorPackT
namespace Go.Isth
open Go Go.RowKit
/-- A result that lies in a block, and one in a slot. -/
theorem results_two {P : Program} {fn : Func} {p u : Tmp} {ty : TypeId} (h : fn.results = #[.cell p ty, .tmp u]) (tmps : Array Value) (w : World) (g : Nat) (t : TypeId) (cs : List Value) (d : TypeDesc)
    (hp : tmps.getD p undef = .pointer (some ⟨g, 0, none⟩)) (hg : Blk w g t cs)
    (hu : P.underlying ty = some d) (hd : (match d with | .struct _ => true | .array _ _ => true | _ => false) = true) (hi : (P.info? ty).map (·.size) = some cs.length) :
    (results fn tmps).run P w = .ok (.tuple #[.agg cs.toArray, tmps.getD u undef]) w := by
  rw [results_cell_tmp h, hp]
  have hl := run_load_agg (P := P) hu hd hi w ⟨g, 0, none⟩ cs rfl (fun j u hj => by rw [add_plain, Nat.zero_add]; exact hg.cellD j u hj)
  simp [asAddr, hl, Result.andThen]
end Go.Isth
namespace Go.Proofs.YtcgdojdiihdkeaaDoor
open Go Go.RowKit Go.Isth

def publicF (seed : List UInt8) (leaf n : Nat) : List UInt8 := leafF (chainsN seed leaf (List.replicate (2 * n + 3) 15) (2 * n + 3))
def signF (seed : List UInt8) (leaf : Nat) (d : List UInt8) : List UInt8 := chainsN seed leaf (digitsW d) (2 * d.length + 3)
def fromF (sign : List UInt8) (leaf : Nat) (d : List UInt8) : List UInt8 := leafF (fromN sign leaf (digitsW d) (2 * d.length + 3))
theorem publicF_length (seed : List UInt8) (leaf n : Nat) : (publicF seed leaf n).length = 32 := leafF_length _
theorem fromF_length (sign : List UInt8) (leaf : Nat) (d : List UInt8) : (fromF sign leaf d).length = 32 := leafF_length _
theorem signF_length (seed : List UInt8) (leaf : Nat) (d : List UInt8) : (signF seed leaf d).length = 32 * (2 * d.length + 3) := chainsN_length _ _ _ _
theorem from_sign (seed : List UInt8) (leaf : Nat) (d : List UInt8) : fromF (signF seed leaf d) leaf d = publicF seed leaf d.length := by
  unfold fromF signF publicF
  rw [from_chains seed leaf (digitsW d) _ (digitsW_le d) _ (Nat.le_refl _)]
theorem FaultIs.grown {w w' : World} {v : Value} {k : Int} {g : Nat} {t : TypeId} {cs : List Value} (h : FaultIs w v k) (hB : Blk w g t cs) (ht : t ≠ 97) (hg : w.grownBy w' (some g)) : FaultIs w' v k := by
  obtain ⟨b, s, e, hc⟩ := h
  refine ⟨b, s, e, ?_⟩
  rw [hg.block b (Array.getElem?_eq_some_iff.1 hc).1 (fun e => ?_)]
  · exact hc
  · injection e with e
    subst e
    have h2 := hB
    unfold Blk at h2
    rw [hc] at h2
    injection h2 with h2
    injection h2 with _ h3 _
    exact ht h3.symm
abbrev Z32 : List UInt8 := List.replicate 32 0
theorem zero_agg : (Value.agg (List.replicate 32 (B 0)).toArray) = HV Z32 := rfl

set_option maxRecDepth 100000 in
set_option maxHeartbeats 1000000 in
theorem public_no (seed : List UInt8) (leaf n : Int) (w : World) (hs : seed.length = 32) (h : Bad05 leaf n) :
    Calls Tryd.prog 21 #[HV seed, .int .i64 leaf, .int .i64 n] w fun e w' => ∃ v, e = .returned (.tuple #[HV Z32, v]) ∧ FaultIs w' v 1 ∧ Below w.heap.size w w' := by
  have HT := Lib.hid (And.intro hs h)
  clear hs h
  go_enter Tryd.func21, Tryd.ntmps21
  go_wp2_with fail
  have hz2 := Blk_new (w.alloc (.cells (seed.map B).toArray 28)) (List.replicate 32 (B 0)) 28
  have hb0 := ((Below.refl w.heap.size w).alloc (Nat.le_refl _) (.cells (seed.map B).toArray 28)).alloc (by simp) (.cells (List.replicate 32 (B 0)).toArray 28)
  simp only [World.size_alloc] at hz2
  refine (check_no leaf n _ HT.out.2).mono ?_
  rintro e w1 ⟨v, rfl, hv, hb1⟩
  have hz1 := hz2.below hb1
  have H1 := Lib.hid (And.intro hv (below_then hb0 hb0.size hb1))
  clear hz2 hb0 hb1
  obtain ⟨b, rfl⟩ := hv.shape
  clear hv
  go_wp2_with (refine wpList_store_blk rfl 28 (.tmp 6) (.tmp 16) rfl (w.heap.size + 1) (List.replicate 32 (B 0)) rfl rfl 28 _ hz1 (by kernel_rfl) rfl (by decide) ?_; intro w2 hw2 hg2)
  refine bodyPost_ret (results_two rfl _ _ (w.heap.size + 1) 28 (Z32.map B) _ rfl hw2 Tryd.underlying28 rfl (by kernel_rfl)) rfl ⟨_, rfl, ?_, ?_⟩
  · exact H1.out.1.grown hz1 (by decide) hg2
  · exact H1.out.2.grown hg2 H1.out.2.size (fun k e => by injection e with e; omega)
/-- 'make([]int, n)' -/
theorem run_mkI (n : Nat) (hb : n ≤ 1000) (w : World) :
    (Instr.makeSlice 44 (.int .i64 (n : Int)) (.int .i64 (n : Int))).run Tryd.prog w = .ok (.slice (some ⟨w.heap.size, 0, none⟩) n n) (w.alloc (.cells (List.replicate n (I 0)).toArray 3)) := by
  have h := run_mk tIn rfl n (by omega) (by omega) w
  have e : madeCells #[Value.int .i64 0] n = (List.replicate n (I 0)).toArray := by
    apply Array.ext'
    rw [toList_madeCells_one]; rfl
  rw [e] at h
  exact h
def EndsInv (wa : World) (N g : Nat) (v23 : Value) (wr : World) : Prop :=
  ∃ (k : Nat) (cs : List Value), v23 = I k ∧ k ≤ N ∧ cs.length = N ∧ (∀ j, j < k → cs[j]? = some (I 15)) ∧ Blk wr g 3 cs ∧ wa.grownBy wr (some g)
set_option maxRecDepth 100000 in
set_option maxHeartbeats 1000000 in
theorem public_yes (seed : List UInt8) (leaf n : Nat) (w : World) (hs : seed.length = 32) (hl : leaf < 1024) (h1 : 1 ≤ n) (h2 : n ≤ 32) (ht : TabLaid w) :
    Calls Tryd.prog 21 #[HV seed, .int .i64 leaf, .int .i64 n] w fun e w' => e = .returned (.tuple #[HV (publicF seed leaf n), .nilIface]) ∧ Below w.heap.size w w' := by
  have HT := Lib.hid (And.intro hs (And.intro hl (And.intro h1 (And.intro h2 ht))))
  have h1' : (1 : Int) ≤ n := by omega
  have h2' : (n : Int) ≤ 32 := by omega
  have hl' : (leaf : Int) < 1024 := by omega
  clear hs h1 h2 hl ht
  go_enter Tryd.func21, Tryd.ntmps21
  go_wp2_with fail
  have hz1 := (Blk_new w (seed.map B) 28).alloc (.cells (List.replicate 32 (B 0)).toArray 28)
  have hz2 := Blk_new (w.alloc (.cells (seed.map B).toArray 28)) (List.replicate 32 (B 0)) 28
  have hb0 := ((Below.refl w.heap.size w).alloc (Nat.le_refl _) (.cells (seed.map B).toArray 28)).alloc (by simp) (.cells (List.replicate 32 (B 0)).toArray 28)
  change Calls _ _ _ ((w.alloc (.cells (seed.map B).toArray 28)).alloc (.cells (List.replicate 32 (B 0)).toArray 28)) _
  simp only [World.size_alloc] at hz2
  generalize (w.alloc (.cells (seed.map B).toArray 28)).alloc (.cells (List.replicate 32 (B 0)).toArray 28) = w0 at *
  have H0 := Lib.hid (And.intro hz1 (And.intro hz2 (And.intro hb0 hz2.lt)))
  clear hz1 hz2 hb0
  refine (check_yes leaf n _ (by omega) hl' h1' h2').mono ?_
  rintro e w1 ⟨rfl, rfl⟩
  have hmk := run_mkI (2 * n + 3) (by omega) w0
  rw [show ((2 * n + 3 : Nat) : Int) = 2 * (n : Int) + 3 by omega] at hmk
  go_wp2_with (go_at_call 24; refine (len_yes _ _ h1' h2').mono ?_; rintro e w' ⟨rfl, rfl⟩)
  have hy := Blk_new w0 (List.replicate (2 * n + 3) (I 0)) 3
  have hby := (Below.refl w0.heap.size w0).alloc (Nat.le_refl _) (.cells (List.replicate (2 * n + 3) (I 0)).toArray 3)
  clear hmk
  have HMK := Lib.hid hby
  clear hby
  go_loopw [23] (fun v23 wr => EndsInv (w0.alloc (.cells (List.replicate (2 * n + 3) (I 0)).toArray 3)) (2 * n + 3) w0.heap.size v23 wr) (fun v23 _ => 2 * n + 3 - (intOf v23).toNat)
  case atStart => exact ⟨0, _, rfl, Nat.zero_le _, by simp, fun j hj => by omega, hy, World.grownBy.refl _ _⟩
  case round =>
    obtain ⟨k, cs, rfl, hk, hcl, hall, hz, hg⟩ := hrel
    by_cases hlt : k < 2 * n + 3
    · obtain ⟨old, hold⟩ : ∃ old, cs[k]? = some old := ⟨_, List.getElem?_eq_getElem (by omega)⟩
      have hck := hz.cellD k old hold
      have hfr := hz.frozen k
      have hset := hz.set k (I 15)
      have hgs := grown_setC wr w0.heap.size k (I 15)
      have HS := Lib.hid (And.intro hcl (And.intro hall (And.intro hset (And.intro hgs hg))))
      clear hcl hall hset hgs hg hz hy hold
      go_wp2_with fail
      go_roundw
      case rel =>
        refine ⟨k + 1, cs.set k (I 15), by go_num, by omega, by simpa using HS.out.1, fun j hj => ?_, HS.out.2.2.1, grown_trans HS.out.2.2.2.2 HS.out.2.2.2.1 (.inl rfl)⟩
        by_cases hjk : j = k
        · subst hjk; rw [List.getElem?_set_self (by have := HS.out.1; omega)]
        · rw [List.getElem?_set_ne (fun e => hjk e.symm)]; exact HS.out.2.1 j (by omega)
      case measure => simp [intOf]; omega
    · obtain rfl : k = 2 * n + 3 := by omega
      have hcs : cs = (List.replicate (2 * n + 3) 15).map I := by
        rw [List.map_replicate]
        exact List.eq_replicate_iff.2 ⟨hcl, fun b hb => by
          obtain ⟨j, hj, e⟩ := List.getElem_of_mem hb
          have := hall j (by omega)
          rw [List.getElem?_eq_getElem hj] at this
          injection this with this
          rw [← e, this]⟩
      subst hcs
      have hlt0 := H0.out.2.2.2
      have hg' : w0.grownBy wr (some w0.heap.size) := grown_trans (grown_of_below HMK.out _) hg (.inl rfl)
      have hB : Below w.heap.size w wr := H0.out.2.2.1.grown hg' H0.out.2.2.1.size (fun q e => by injection e with e; have := H0.out.2.2.1.size; omega)
      have hz1 := H0.out.1.grown hg' (by simp; omega)
      have hz2 := H0.out.2.1.grown hg' (by simp; omega)
      have HS := Lib.hid (And.intro hz (And.intro hB (And.intro hz1 hz2)))
      clear hz hB hz2 hg hg' hcl hall hy hlt hk
      have HI := Lib.hid (show (some 32 : Option Nat) = some (seed.map B).length by rw [List.length_map, HT.out.1])
      go_wp2_with (refine wpList_load_blk rfl 28 (.tmp 3) rfl w.heap.size rfl 28 (seed.map B) _ hz1 Tryd.underlying28 rfl (Eq.trans (by kernel_rfl) HI.out) ?_)
      refine (chains_any (some ⟨w0.heap.size, 0, none⟩) (2 * n + 3) (2 * n + 3) seed leaf (List.replicate (2 * n + 3) 15) wr (by simp) HT.out.1 HT.out.2.1 (by have := HT.out; omega) HS.out.1.rd0 (HT.out.2.2.2.2.below HS.out.2.1 HT.out.2.2.2.2.lt)).mono ?_
      rintro e w4 ⟨v4, rfl, ho4, hb4⟩
      obtain ⟨A4, c4, rfl, hfit4, hrd4, _⟩ := own_slice ho4
      have hcln := chainsN_length seed leaf (List.replicate (2 * n + 3) 15) (2 * n + 3)
      have hpf : publicF seed leaf n = leafF (chainsN seed leaf (List.replicate (2 * n + 3) 15) (2 * n + 3)) := rfl
      generalize chainsN seed leaf (List.replicate (2 * n + 3) 15) (2 * n + 3) = bs at *
      have H4 := Lib.hid (And.intro (below_then HS.out.2.1 HS.out.2.1.size hb4) (And.intro (HS.out.2.2.2.below hb4) (And.intro hrd4 hpf)))
      have HCL := Lib.hid hcln
      clear ho4 hb4 hfit4 hrd4 hpf hz1 hcln
      go_wp2_with fail
      refine (leaf_any A4 c4 bs w4 (by have := HCL.out; have := HT.out; omega) H4.out.2.2.1 (HT.out.2.2.2.2.below H4.out.1 HT.out.2.2.2.2.lt)).mono ?_
      rintro e w5 ⟨rfl, hb5⟩
      have hz5 := H4.out.2.1.below hb5
      have H5 := Lib.hid (below_then H4.out.1 H4.out.1.size hb5)
      clear hb5
      have HLL := Lib.hid (show (some 32 : Option Nat) = some ((leafF bs).map B).length by rw [List.length_map, leafF_length])
      go_wp2_with (refine wpList_store_blk rfl 28 (.tmp 6) (.tmp 34) rfl (w.heap.size + 1) ((leafF bs).map B) rfl rfl 28 _ hz5 (Eq.trans (by kernel_rfl) HLL.out) (by rw [List.length_map, leafF_length, List.length_replicate]) one_bytes ?_; intro w6 hw6 hg6)
      refine bodyPost_ret (results_two rfl _ _ (w.heap.size + 1) 28 ((leafF bs).map B) _ rfl hw6 Tryd.underlying28 rfl (Eq.trans (by kernel_rfl) HLL.out)) rfl ⟨by rw [H4.out.2.2.2]; rfl, ?_⟩
      exact H5.out.grown hg6 H5.out.size (fun k e => by injection e with e; omega)
#print axioms public_yes
end Go.Proofs.YtcgdojdiihdkeaaDoor
