/- ShaTrees: Fold of both sides, the contracts' cases, hashes. -/
import Derived.Test.YtcgdojdiihdkeaaDoorRFold
import Derived.Test.YtcgdojdiihdkeaaDoorSums
namespace Go.Proofs.YtcgdojdiihdkeaaDoor
open Go Go.RowKit Go.Isth

def FoldBad (i : Int) (n : Nat) : Prop := i < 0 ∨ (n : Int) ≤ i
set_option maxRecDepth 100000 in
set_option maxHeartbeats 1000000 in
theorem rFold_no (csx : List Value) (i : Int) (n m c : Nat) (A : Option Addr) (w : World) (h : FoldBad i n) :
    Calls Tryd.prog 42 #[.agg csx.toArray, .int .i64 i, .int .i64 n, .slice A m c] w fun e w' => e = .returned (.tuple #[HV Y32, .int .i64 1]) ∧ Below w.heap.size w w' := by
  have hc : i < 0 ∨ (¬ i < 0 ∧ (n : Int) ≤ i) := by unfold FoldBad at h; omega
  clear h
  have hb0 : Below w.heap.size w ((w.alloc (.cells csx.toArray 28)).alloc (.cells (List.replicate 32 (B 0)).toArray 28)) := ((Below.refl _ _).alloc (Nat.le_refl _) _).alloc (by simp) _
  have hz2 : Blk ((w.alloc (.cells csx.toArray 28)).alloc (.cells (List.replicate 32 (B 0)).toArray 28)) (w.heap.size + 1) 28 (List.replicate 32 (B 0)) := by
    have h := Blk_new (w.alloc (.cells csx.toArray 28)) (List.replicate 32 (B 0)) 28
    rwa [World.size_alloc] at h
  rcases hc with h | ⟨h, h'⟩
  all_goals
    go_enter Tryd.func42, Tryd.ntmps42
    go_upto_region 1 with fail
    change Code.wp _ _ _ _ ((w.alloc (.cells csx.toArray 28)).alloc (.cells (List.replicate 32 (B 0)).toArray 28))
    generalize ((w.alloc (.cells csx.toArray 28)).alloc (.cells (List.replicate 32 (B 0)).toArray 28)) = w0 at *
    go_wp2_with (refine wpList_store_blk rfl 28 (.tmp 8) (.tmp 17) rfl (w.heap.size + 1) (List.replicate 32 (B 0)) rfl rfl 28 _ hz2 (by kernel_rfl) rfl (by decide) ?_; intro w2 hw2 hg2)
    refine bodyPost_ret (results_pair rfl _ _ (w.heap.size + 1) 28 (Y32.map B) _ rfl hw2 Tryd.underlying28 rfl (by kernel_rfl)) rfl ⟨rfl, ?_⟩
    exact hb0.grown hg2 hb0.size (fun k e => by injection e with e; omega)
set_option maxRecDepth 100000 in
set_option maxHeartbeats 1000000 in
theorem wFold_no (csx : List Value) (i : Int) (n m c : Nat) (A : Option Addr) (w : World) (h : FoldBad i n) :
    Calls Tryd.prog 29 #[.agg csx.toArray, .int .i64 i, .int .i64 n, .slice A m c] w fun e w' => ∃ v, e = .returned (.tuple #[HV Y32, v]) ∧ FaultIs w' v 1 ∧ Below w.heap.size w w' := by
  have hc : i < 0 ∨ (¬ i < 0 ∧ (n : Int) ≤ i) := by unfold FoldBad at h; omega
  clear h
  have hb0 : Below w.heap.size w ((w.alloc (.cells csx.toArray 28)).alloc (.cells (List.replicate 32 (B 0)).toArray 28)) := ((Below.refl _ _).alloc (Nat.le_refl _) _).alloc (by simp) _
  have hz2 : Blk ((w.alloc (.cells csx.toArray 28)).alloc (.cells (List.replicate 32 (B 0)).toArray 28)) (w.heap.size + 1) 28 (List.replicate 32 (B 0)) := by
    have h := Blk_new (w.alloc (.cells csx.toArray 28)) (List.replicate 32 (B 0)) 28
    rwa [World.size_alloc] at h
  rcases hc with h | ⟨h, h'⟩
  all_goals
    go_enter Tryd.func29, Tryd.ntmps29
    go_upto_region 1 with fail
    change Code.wp _ _ _ _ ((w.alloc (.cells csx.toArray 28)).alloc (.cells (List.replicate 32 (B 0)).toArray 28))
    generalize ((w.alloc (.cells csx.toArray 28)).alloc (.cells (List.replicate 32 (B 0)).toArray 28)) = w0 at *
    have hf := FaultIs.new w0 { data := #[112, 108, 97, 99, 101] } 1
    have hz7 := hz2.alloc (.cells #[.string { data := #[112, 108, 97, 99, 101] }, .iface 91 (.int .i64 1)] 97)
    have hb7 := hb0.alloc hb0.size (.cells #[.string { data := #[112, 108, 97, 99, 101] }, .iface 91 (.int .i64 1)] 97)
    have H7 := Lib.hid (And.intro hf (And.intro hz7 hb7))
    clear hf hz7 hb7 hb0 hz2
    go_wp2_with (refine wpList_store_blk rfl 28 (.tmp 8) (.tmp 20) rfl (w.heap.size + 1) (List.replicate 32 (B 0)) rfl rfl 28 _ H7.out.2.1 (by kernel_rfl) rfl (by decide) ?_; intro w2 hw2 hg2)
    refine bodyPost_ret (results_pair rfl _ _ (w.heap.size + 1) 28 (Y32.map B) _ rfl hw2 Tryd.underlying28 rfl (by kernel_rfl)) rfl ⟨_, rfl, ?_, ?_⟩
    · exact H7.out.1.grown1 H7.out.2.1 (by decide) hg2
    exact H7.out.2.2.grown hg2 H7.out.2.2.size (fun k e => by injection e with e; omega)
set_option maxRecDepth 100000 in
set_option maxHeartbeats 1000000 in
theorem rFold_long (csx : List Value) (i n m c : Nat) (A : Option Addr) (w : World) (hi : i < n) (hn : n ≤ 1000) (hm : m ≠ (turnsG i n).length) :
    Calls Tryd.prog 42 #[.agg csx.toArray, .int .i64 i, .int .i64 n, .slice A m c] w fun e w' => e = .returned (.tuple #[HV Y32, .int .i64 2]) ∧ Below w.heap.size w w' := by
  have HT := Lib.hid (And.intro hi hn)
  have h1 : ¬ (i : Int) < 0 := by omega
  have h2 : ¬ (n : Int) ≤ (i : Int) := by omega
  have hne : ((m : Int) != ((turnsG i n).length : Int)) = true := by rw [bne_iff_ne]; omega
  clear hi hn hm
  have hb0 : Below w.heap.size w ((w.alloc (.cells csx.toArray 28)).alloc (.cells (List.replicate 32 (B 0)).toArray 28)) := ((Below.refl _ _).alloc (Nat.le_refl _) _).alloc (by simp) _
  have hz2 : Blk ((w.alloc (.cells csx.toArray 28)).alloc (.cells (List.replicate 32 (B 0)).toArray 28)) (w.heap.size + 1) 28 (List.replicate 32 (B 0)) := by
    have h := Blk_new (w.alloc (.cells csx.toArray 28)) (List.replicate 32 (B 0)) 28
    rwa [World.size_alloc] at h
  go_enter Tryd.func42, Tryd.ntmps42
  go_upto_region 1 with fail
  change Code.wp _ _ _ _ ((w.alloc (.cells csx.toArray 28)).alloc (.cells (List.replicate 32 (B 0)).toArray 28))
  generalize ((w.alloc (.cells csx.toArray 28)).alloc (.cells (List.replicate 32 (B 0)).toArray 28)) = w0 at *
  go_wp2_with (first
    | (go_at_call 74; refine (rsteps_any i n HT.out.1 (by have := HT.out; omega) _).mono ?_; rintro e w1 ⟨rfl, rfl⟩)
    | (refine wpList_store_blk rfl 28 (.tmp 8) (.tmp 24) rfl (w.heap.size + 1) (List.replicate 32 (B 0)) rfl rfl 28 _ hz2 (by kernel_rfl) rfl (by decide) ?_; intro w2 hw2 hg2))
  refine bodyPost_ret (results_pair rfl _ _ (w.heap.size + 1) 28 (Y32.map B) _ rfl hw2 Tryd.underlying28 rfl (by kernel_rfl)) rfl ⟨rfl, ?_⟩
  exact hb0.grown hg2 hb0.size (fun k e => by injection e with e; omega)
set_option maxRecDepth 100000 in
set_option maxHeartbeats 1000000 in
theorem wFold_long (csx : List Value) (i n m c : Nat) (A : Option Addr) (w : World) (hi : i < n) (hn : n ≤ 1000) (hm : m ≠ (turnsG i n).length) :
    Calls Tryd.prog 29 #[.agg csx.toArray, .int .i64 i, .int .i64 n, .slice A m c] w fun e w' => ∃ v, e = .returned (.tuple #[HV Y32, v]) ∧ FaultIs w' v 2 ∧ Below w.heap.size w w' := by
  have HT := Lib.hid (And.intro hi hn)
  have h1 : ¬ (i : Int) < 0 := by omega
  have h2 : ¬ (n : Int) ≤ (i : Int) := by omega
  obtain ⟨L, hL⟩ : ∃ L, (turnsG i n).length = L := ⟨_, rfl⟩
  have hne : ((L : Int) != (m : Int)) = true := by rw [bne_iff_ne]; omega
  have HL := Lib.hid hL
  clear hi hn hm hL
  have hb0 : Below w.heap.size w ((w.alloc (.cells csx.toArray 28)).alloc (.cells (List.replicate 32 (B 0)).toArray 28)) := ((Below.refl _ _).alloc (Nat.le_refl _) _).alloc (by simp) _
  have hz2 : Blk ((w.alloc (.cells csx.toArray 28)).alloc (.cells (List.replicate 32 (B 0)).toArray 28)) (w.heap.size + 1) 28 (List.replicate 32 (B 0)) := by
    have h := Blk_new (w.alloc (.cells csx.toArray 28)) (List.replicate 32 (B 0)) 28
    rwa [World.size_alloc] at h
  go_enter Tryd.func29, Tryd.ntmps29
  go_upto_region 1 with fail
  change Code.wp _ _ _ _ ((w.alloc (.cells csx.toArray 28)).alloc (.cells (List.replicate 32 (B 0)).toArray 28))
  generalize ((w.alloc (.cells csx.toArray 28)).alloc (.cells (List.replicate 32 (B 0)).toArray 28)) = w0 at *
  go_wp2_with fail
  refine (turns_any i n HT.out.1 (by have := HT.out; omega) w0).mono ?_
  rintro e w1 ⟨v1, rfl, ho1, hb1⟩
  rw [HL.out] at ho1
  obtain ⟨A1, c1, rfl, _⟩ := own_slice ho1
  have hz3 := hz2.below hb1
  have hb3 := below_then hb0 hb0.size hb1
  have hf := FaultIs.new w1 { data := #[112, 97, 116, 104] } 2
  have hz7 := hz3.alloc (.cells #[.string { data := #[112, 97, 116, 104] }, .iface 91 (.int .i64 2)] 97)
  have hb7 := hb3.alloc hb3.size (.cells #[.string { data := #[112, 97, 116, 104] }, .iface 91 (.int .i64 2)] 97)
  have H7 := Lib.hid (And.intro hf (And.intro hz7 hb7))
  clear hf hz7 hb7 hb0 hz2 hz3 hb3 hb1 ho1
  go_wp2_with (refine wpList_store_blk rfl 28 (.tmp 8) (.tmp 33) rfl (w.heap.size + 1) (List.replicate 32 (B 0)) rfl rfl 28 _ H7.out.2.1 (by kernel_rfl) rfl (by decide) ?_; intro w2 hw2 hg2)
  refine bodyPost_ret (results_pair rfl _ _ (w.heap.size + 1) 28 (Y32.map B) _ rfl hw2 Tryd.underlying28 rfl (by kernel_rfl)) rfl ⟨_, rfl, ?_, ?_⟩
  · exact H7.out.1.grown1 H7.out.2.1 (by decide) hg2
  exact H7.out.2.2.grown hg2 H7.out.2.2.size (fun k e => by injection e with e; omega)
set_option maxRecDepth 100000 in
set_option maxHeartbeats 1000000 in
theorem rFold_yes (csx cso : List Value) (x : List UInt8) (i n m c : Nat) (A : Option Addr) (ps : List (List UInt8)) (w : World) (hx : x.length = 32) (hi : i < n) (hn : n ≤ 1000) (hm : m = (turnsG i n).length) (hps : ps.length = m) (hc : m ≤ c) (h32 : All32 ps) (hr : Rd w A (cellsH ps)) (hcx : csx = x.map B) (hco : cso = (foldH x (turnsG i n).reverse ps).map B) :
    Calls Tryd.prog 42 #[.agg csx.toArray, .int .i64 i, .int .i64 n, .slice A m c] w fun e w' => e = .returned (.tuple #[.agg cso.toArray, .int .i64 0]) ∧ Below w.heap.size w w' := by
  have hxl : csx.length = 32 := by rw [hcx, List.length_map]; exact hx
  have hol : cso.length = 32 := by rw [hco, List.length_map]; exact foldH_length _ _ _ hx
  have ho1 : ∀ u ∈ cso, u.oneCell' = true := by rw [hco]; exact one_bytes
  have HLX := Lib.hid (show (some 32 : Option Nat) = some csx.length by rw [hxl])
  have HLO := Lib.hid (show (some 32 : Option Nat) = some cso.length by rw [hol])
  have HT := Lib.hid (And.intro hx (And.intro hi (And.intro hn (And.intro hm (And.intro hps (And.intro hc (And.intro h32 (And.intro hr (And.intro hcx hco)))))))))
  have h1 : ¬ (i : Int) < 0 := by omega
  have h2 : ¬ (n : Int) ≤ (i : Int) := by omega
  have hne : ((m : Int) != ((turnsG i n).length : Int)) = false := by rw [hm]; exact bne_self_eq_false _
  clear hx hi hn hm hps hc h32 hr hcx hco
  have hb0 : Below w.heap.size w ((w.alloc (.cells csx.toArray 28)).alloc (.cells (List.replicate 32 (B 0)).toArray 28)) := ((Below.refl _ _).alloc (Nat.le_refl _) _).alloc (by simp) _
  have hz1 : Blk ((w.alloc (.cells csx.toArray 28)).alloc (.cells (List.replicate 32 (B 0)).toArray 28)) w.heap.size 28 csx := (Blk_new w _ _).alloc _
  have hz2 : Blk ((w.alloc (.cells csx.toArray 28)).alloc (.cells (List.replicate 32 (B 0)).toArray 28)) (w.heap.size + 1) 28 (List.replicate 32 (B 0)) := by
    have h := Blk_new (w.alloc (.cells csx.toArray 28)) (List.replicate 32 (B 0)) 28
    rwa [World.size_alloc] at h
  go_enter Tryd.func42, Tryd.ntmps42
  go_upto_region 1 with fail
  change Code.wp _ _ _ _ ((w.alloc (.cells csx.toArray 28)).alloc (.cells (List.replicate 32 (B 0)).toArray 28))
  generalize ((w.alloc (.cells csx.toArray 28)).alloc (.cells (List.replicate 32 (B 0)).toArray 28)) = w0 at *
  go_wp2_with (first
    | (go_at_call 74; refine (rsteps_any i n HT.out.2.1 (by have := HT.out.2.2.1; omega) _).mono ?_; rintro e w1 ⟨rfl, rfl⟩)
    | (refine wpList_load_blk rfl 28 (.tmp 4) rfl w.heap.size rfl 28 csx _ hz1 Tryd.underlying28 rfl (Eq.trans (by kernel_rfl) HLX.out) ?_)
    | (go_at_call 75; refine (rfold_any n x i A c m ps csx cso w0 HT.out.1 HT.out.2.1 HT.out.2.2.1 HT.out.2.2.2.1 HT.out.2.2.2.2.1 HT.out.2.2.2.2.2.1 HT.out.2.2.2.2.2.2.1 (HT.out.2.2.2.2.2.2.2.1.below hb0) HT.out.2.2.2.2.2.2.2.2.1 HT.out.2.2.2.2.2.2.2.2.2).mono ?_
       rintro e w4 ⟨rfl, hb4⟩
       have H4 := Lib.hid (And.intro (below_then hb0 hb0.size hb4) (hz2.below hb4))
       clear hb4)
    | (refine wpList_store_blk rfl 28 (.tmp 8) (.tmp 29) rfl (w.heap.size + 1) cso rfl rfl 28 _ H4.out.2 (Eq.trans (by kernel_rfl) HLO.out) (by rw [hol, List.length_replicate]) ho1 ?_; intro w2 hw2 hg2))
  refine bodyPost_ret (results_pair rfl _ _ (w.heap.size + 1) 28 cso _ rfl hw2 Tryd.underlying28 rfl (Eq.trans (by kernel_rfl) HLO.out)) rfl ⟨rfl, ?_⟩
  exact H4.out.1.grown hg2 H4.out.1.size (fun k e => by injection e with e; omega)
def PathIs (i : Int) (n : Nat) (l o : List (List UInt8)) (k : Nat) : Prop :=
  (FoldBad i n ∧ o = [] ∧ k = 1) ∨ ((0 ≤ i ∧ i < (n : Int)) ∧ o = pathH l i.toNat ∧ k = 0)
theorem PathIs.any (i : Int) (n : Nat) (l : List (List UInt8)) : ∃ o k, PathIs i n l o k := by
  by_cases h : 0 ≤ i ∧ i < (n : Int)
  · exact ⟨_, _, .inr ⟨h, rfl, rfl⟩⟩
  · exact ⟨_, _, .inl ⟨by unfold FoldBad; omega, rfl, rfl⟩⟩
theorem PathIs.row {i : Int} {n : Nat} {l o : List (List UInt8)} {k : Nat} (h : PathIs i n l o k) (hl : l.length = n) (h32 : All32 l) : All32 o ∧ o.length ≤ n := by
  rcases h with ⟨_, rfl, _⟩ | ⟨_, rfl, _⟩
  · exact ⟨by intro x hx; simp at hx, by simp⟩
  · exact ⟨pathH_32 n l _ hl h32, pathH_le n l _ hl⟩
def FoldIs (x : List UInt8) (i : Int) (n : Nat) (ps : List (List UInt8)) (o : List UInt8) (k : Nat) : Prop :=
  (FoldBad i n ∧ o = Y32 ∧ k = 1) ∨ ((0 ≤ i ∧ i < (n : Int)) ∧ ((ps.length ≠ (turnsG i.toNat n).length ∧ o = Y32 ∧ k = 2) ∨ (ps.length = (turnsG i.toNat n).length ∧ o = foldH x (turnsG i.toNat n).reverse ps ∧ k = 0)))
theorem FoldIs.any (x : List UInt8) (i : Int) (n : Nat) (ps : List (List UInt8)) : ∃ o k, FoldIs x i n ps o k := by
  by_cases h : 0 ≤ i ∧ i < (n : Int)
  · by_cases h2 : ps.length = (turnsG i.toNat n).length
    · exact ⟨_, _, .inr ⟨h, .inr ⟨h2, rfl, rfl⟩⟩⟩
    · exact ⟨_, _, .inr ⟨h, .inl ⟨h2, rfl, rfl⟩⟩⟩
  · exact ⟨_, _, .inl ⟨by unfold FoldBad; omega, rfl, rfl⟩⟩
theorem FoldIs.length {x : List UInt8} {i : Int} {n : Nat} {ps : List (List UInt8)} {o : List UInt8} {k : Nat} (h : FoldIs x i n ps o k) (hx : x.length = 32) : o.length = 32 := by
  rcases h with ⟨_, rfl, _⟩ | ⟨_, ⟨_, rfl, _⟩ | ⟨_, rfl, _⟩⟩
  · rfl
  · rfl
  · exact foldH_length _ _ _ hx
theorem wpath_all (A : Option Addr) (c n k M : Nat) (i : Int) (l o : List (List UInt8)) (w w0 : World) (hP : PathIs i n l o k) (hM : o.length = M) (hl : l.length = n) (hc : n ≤ c) (hn : n ≤ 1000) (h32 : All32 l) (hr : Rd w A (cellsH l)) (hw : Below w0.heap.size w0 w) (ht : TabLaid w0) :
    Calls Tryd.prog 28 #[.slice A n c, .int .i64 i] w fun e w' => ∃ A' c' v, e = .returned (.tuple #[.slice A' M c', v]) ∧ M ≤ c' ∧ Rd w' A' (cellsH o) ∧ N1Is w' v k ∧ Below w.heap.size w w' := by
  rcases hP with ⟨h, rfl, rfl⟩ | ⟨h, rfl, rfl⟩
  · subst hM
    exact (wpath_no A c n i w h).mono (by rintro e w' ⟨v, rfl, hf, hb⟩; exact ⟨none, 0, v, rfl, Nat.le_refl _, Rd.nil _ _, .inr hf, hb⟩)
  · obtain ⟨j, rfl⟩ := Int.eq_ofNat_of_zero_le h.1
    rw [Int.toNat_natCast] at *
    refine (path_any n A c l j w hl hc hn (by omega) h32 hr (ht.below hw ht.lt)).mono ?_
    rintro e w' ⟨v, rfl, ho, hb⟩
    rw [hM] at ho
    obtain ⟨A', c', rfl, hc', hr', _⟩ := own_slice ho
    exact ⟨A', c', _, rfl, hc', hr', .inl ⟨rfl, rfl⟩, hb⟩
theorem rpath_all (A : Option Addr) (c n k M : Nat) (i : Int) (l o : List (List UInt8)) (w : World) (hP : PathIs i n l o k) (hM : o.length = M) (hl : l.length = n) (hc : n ≤ c) (hn : n ≤ 1000) (h32 : All32 l) (hr : Rd w A (cellsH l)) :
    Calls Tryd.prog 40 #[.slice A n c, .int .i64 i] w fun e w' => ∃ A' c', e = .returned (.tuple #[.slice A' M c', .int .i64 (k : Nat)]) ∧ M ≤ c' ∧ Rd w' A' (cellsH o) ∧ Below w.heap.size w w' := by
  rcases hP with ⟨h, rfl, rfl⟩ | ⟨h, rfl, rfl⟩
  · subst hM
    exact (rpath_no A c n i w h).mono (by rintro e w' ⟨rfl, rfl⟩; exact ⟨none, 0, rfl, Nat.le_refl _, Rd.nil _ _, Below.refl _ _⟩)
  · obtain ⟨j, rfl⟩ := Int.eq_ofNat_of_zero_le h.1
    rw [Int.toNat_natCast] at *
    refine (rpath_any n A c l j w hl hc hn (by omega) h32 hr).mono ?_
    rintro e w' ⟨v, rfl, ho, hb⟩
    rw [hM] at ho
    obtain ⟨A', c', rfl, hc', hr', _⟩ := own_slice ho
    exact ⟨A', c', rfl, hc', hr', hb⟩
theorem wfold_all (csx cso : List Value) (x o : List UInt8) (i : Int) (n m c k : Nat) (A : Option Addr) (ps : List (List UInt8)) (w w0 : World) (hF : FoldIs x i n ps o k) (hcx : csx = x.map B) (hco : cso = o.map B) (hx : x.length = 32) (hn : n ≤ 1000) (hps : ps.length = m) (hc : m ≤ c) (h32 : All32 ps) (hr : Rd w A (cellsH ps)) (hw : Below w0.heap.size w0 w) (ht : TabLaid w0) :
    Calls Tryd.prog 29 #[.agg csx.toArray, .int .i64 i, .int .i64 n, .slice A m c] w fun e w' => ∃ v, e = .returned (.tuple #[.agg cso.toArray, v]) ∧ N1Is w' v k ∧ Below w.heap.size w w' := by
  subst hco
  rcases hF with ⟨h, rfl, rfl⟩ | ⟨h, ⟨h2, rfl, rfl⟩ | ⟨h2, rfl, rfl⟩⟩
  · exact (wFold_no csx i n m c A w h).mono (by rintro e w' ⟨v, rfl, hf, hb⟩; exact ⟨v, rfl, .inr hf, hb⟩)
  · obtain ⟨j, rfl⟩ := Int.eq_ofNat_of_zero_le h.1
    rw [Int.toNat_natCast] at *
    exact (wFold_long csx j n m c A w (by omega) hn (by omega)).mono (by rintro e w' ⟨v, rfl, hf, hb⟩; exact ⟨v, rfl, .inr hf, hb⟩)
  · obtain ⟨j, rfl⟩ := Int.eq_ofNat_of_zero_le h.1
    rw [Int.toNat_natCast] at *
    subst hcx
    subst hps
    exact (fold_any x j n A c ps w hx (by omega) (by omega) h2 hc h32 hr (ht.below hw ht.lt)).mono (by rintro e w' ⟨rfl, hb⟩; exact ⟨_, rfl, .inl ⟨rfl, rfl⟩, hb⟩)
theorem rfold_all (csx cso : List Value) (x o : List UInt8) (i : Int) (n m c k : Nat) (A : Option Addr) (ps : List (List UInt8)) (w : World) (hF : FoldIs x i n ps o k) (hcx : csx = x.map B) (hco : cso = o.map B) (hx : x.length = 32) (hn : n ≤ 1000) (hps : ps.length = m) (hc : m ≤ c) (h32 : All32 ps) (hr : Rd w A (cellsH ps)) :
    Calls Tryd.prog 42 #[.agg csx.toArray, .int .i64 i, .int .i64 n, .slice A m c] w fun e w' => e = .returned (.tuple #[.agg cso.toArray, .int .i64 (k : Nat)]) ∧ Below w.heap.size w w' := by
  rcases hF with ⟨h, rfl, rfl⟩ | ⟨h, ⟨h2, rfl, rfl⟩ | ⟨h2, rfl, rfl⟩⟩
  · subst hco
    exact rFold_no csx i n m c A w h
  · subst hco
    obtain ⟨j, rfl⟩ := Int.eq_ofNat_of_zero_le h.1
    rw [Int.toNat_natCast] at *
    exact rFold_long csx j n m c A w (by omega) hn (by omega)
  · obtain ⟨j, rfl⟩ := Int.eq_ofNat_of_zero_le h.1
    rw [Int.toNat_natCast] at *
    exact rFold_yes csx cso x j n m c A ps w hx (by omega) hn (by omega) hps hc h32 hr hcx hco
end Go.Proofs.YtcgdojdiihdkeaaDoor
