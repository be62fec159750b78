/- WotsSteps: the walk. -/
import Derived.Test.YtcgdojdiihdkeaaDoorWots7
import Derived.Deep.Cut
namespace Go.Proofs.YtcgdojdiihdkeaaDoor
open Go Go.RowKit Go.Isth

def u64N (z : Int) : Nat := (z % 18446744073709551616).toNat
theorem u64N_lt (z : Int) : u64N z < 18446744073709551616 := by unfold u64N; omega
theorem u64N_wrap (z : Int) : IntKind.u64.wrap z = (u64N z : Int) := by
  unfold u64N
  simp only [IntKind.wrap, IntKind.bits, IntKind.signed, Bool.false_and, Bool.false_eq_true, if_false]; omega
theorem mod16 (z : Int) : ∃ k : Nat, k ≤ 15 ∧ IntKind.i64.wrap ((IntKind.u64.wrap z).tmod 16) = (k : Int) := by
  obtain ⟨k, hk, e⟩ := umod z 16 (by omega) (by omega)
  exact ⟨k, by omega, by rw [IntKind.wrap_i64, ← e, wrap64]⟩
theorem step_to (cs cs' : List Value) (v : List UInt8) (leaf chain : Int) (f t : Nat) (w w0 : World) (hcs : cs = v.map B) (hv : v.length = 32) (hcs' : cs' = (stepF (u64N leaf) (u64N chain) f t v).map B) (hw : Below w0.heap.size w0 w) (ht : TabLaid w0) :
    Calls Tryd.prog 26 #[.agg cs.toArray, .int .i64 leaf, .int .i64 chain, .int .i64 f, .int .i64 t] w fun e w' => e = .returned (.agg cs'.toArray) ∧ Below w.heap.size w w' := by
  subst hcs
  subst hcs'
  exact step_any v leaf chain f t (u64N leaf) (u64N chain) w hv (u64N_wrap _) (u64N_lt _) (u64N_wrap _) (u64N_lt _) (ht.below hw ht.lt)
set_option maxRecDepth 100000 in
set_option maxHeartbeats 2000000 in
theorem steps_any (v : List UInt8) (x y p q r : Int) (w : World) (hv : v.length = 32) (ht : TabLaid w) :
    Calls Tryd.prog 5 #[HV v, .agg #[.int .i64 x, .int .i64 y], .agg #[.int .i64 p, .int .i64 q, .int .i64 r]] w fun e w' => e = .returned (.bool true) ∧ Below w.heap.size w w' := by
  have HT := Lib.hid (And.intro hv ht)
  clear hv ht
  obtain ⟨k0, hk0, e0⟩ := mod16 p
  obtain ⟨k1, hk1, e1⟩ := mod16 q
  obtain ⟨k2, hk2, e2⟩ := mod16 r
  go_enter Tryd.func5, Tryd.ntmps5
  go_wp2_with fail
  have hz1 := ((Blk_new w (v.map B) 28).alloc (.cells #[.int .i64 x, .int .i64 y] 47)).alloc (.cells #[.int .i64 p, .int .i64 q, .int .i64 r] 48)
  have hz2 := (Blk_new (w.alloc (.cells (v.map B).toArray 28)) [.int .i64 x, .int .i64 y] 47).alloc (.cells #[.int .i64 p, .int .i64 q, .int .i64 r] 48)
  have hz3 := Blk_new ((w.alloc (.cells (v.map B).toArray 28)).alloc (.cells #[.int .i64 x, .int .i64 y] 47)) [.int .i64 p, .int .i64 q, .int .i64 r] 48
  have hb0 := (((Below.refl w.heap.size w).alloc (Nat.le_refl _) (.cells (v.map B).toArray 28)).alloc (by simp) (.cells #[.int .i64 x, .int .i64 y] 47)).alloc (by simp; omega) (.cells #[.int .i64 p, .int .i64 q, .int .i64 r] 48)
  simp only [World.size_alloc] at hz2 hz3
  change Code.wp _ _ _ _ (((w.alloc (.cells (v.map B).toArray 28)).alloc (.cells #[.int .i64 x, .int .i64 y] 47)).alloc (.cells #[.int .i64 p, .int .i64 q, .int .i64 r] 48))
  generalize ((w.alloc (.cells (v.map B).toArray 28)).alloc (.cells #[.int .i64 x, .int .i64 y] 47)).alloc (.cells #[.int .i64 p, .int .i64 q, .int .i64 r] 48) = w3 at *
  have c0 := hz2.cellD 0 (.int .i64 x) rfl
  have c1 := hz2.cellD 1 (.int .i64 y) rfl
  have d0 := hz3.cellD 0 (.int .i64 p) rfl
  have d1 := hz3.cellD 1 (.int .i64 q) rfl
  have d2 := hz3.cellD 2 (.int .i64 r) rfl
  have H3 := Lib.hid (And.intro hz1 hb0)
  clear hz1 hz2 hz3 hb0
  go_quiet (fail)
  go_wp2_with fail
  go_quiet (fail)
  clear c0 c1 d0 d1 d2 e0 e1 e2
  go_upto_if 33 with (fail)
  go_cut [9, 10] from 31 (fun v9 v10 wr => (∃ a b : Nat, v9 = I a ∧ v10 = I b ∧ a ≤ b ∧ b ≤ 15) ∧ Blk wr w.heap.size 28 (v.map B) ∧ Below w.heap.size w wr)
  case first =>
    go_wp2_with fail
    all_goals
      go_meet
      case rel => first | exact ⟨⟨k1, k0, rfl, rfl, by omega, by omega⟩, H3.out.1, below_drewN H3.out.2 _⟩ | exact ⟨⟨k0, k1, rfl, rfl, by omega, by omega⟩, H3.out.1, below_drewN H3.out.2 _⟩
  case rest =>
    obtain ⟨⟨a, b, rfl, rfl, hab, hb⟩, hz, hB⟩ := hcut
    have HS := Lib.hid (And.intro hz hB)
    clear hz hB hk0 hk1 H3
    go_upto_if 38 with (fail)
    go_cut [10, 11] from 36 (fun v10 v11 wr => (∃ b' c : Nat, v10 = I b' ∧ v11 = I c ∧ a ≤ c ∧ b' ≤ c ∧ c ≤ 15) ∧ Blk wr w.heap.size 28 (v.map B) ∧ Below w.heap.size w wr)
    case first =>
      go_wp2_with fail
      all_goals
        go_meet
        case rel => first | exact ⟨⟨k2, b, rfl, rfl, by omega, by omega, by omega⟩, HS.out.1, HS.out.2⟩ | exact ⟨⟨b, k2, rfl, rfl, by omega, by omega, by omega⟩, HS.out.1, HS.out.2⟩
    case rest =>
      obtain ⟨⟨b', c, rfl, rfl, hac, hbc, hc⟩, hz, hB⟩ := hcut
      have HS := Lib.hid (And.intro hz hB)
      clear hz hB hk2 hb
      go_upto_if 43 with (fail)
      go_cut [9, 10] from 41 (fun v9 v10 wr => (∃ a' b'' : Nat, v9 = I a' ∧ v10 = I b'' ∧ a' ≤ b'' ∧ b'' ≤ c) ∧ Blk wr w.heap.size 28 (v.map B) ∧ Below w.heap.size w wr)
      case first =>
        go_wp2_with fail
        all_goals
          go_meet
          case rel => first | exact ⟨⟨b', a, rfl, rfl, by omega, by omega⟩, HS.out.1, HS.out.2⟩ | exact ⟨⟨a, b', rfl, rfl, by omega, by omega⟩, HS.out.1, HS.out.2⟩
      case rest =>
        clear hab hac hbc
        obtain ⟨⟨a', b'', rfl, rfl, hab, hbc⟩, hz, hB⟩ := hcut
        have HS := Lib.hid (And.intro hz hB)
        clear hz hB
        go_wp2_with fail
        obtain ⟨csv, hcsv⟩ : ∃ cs, cs = v.map B := ⟨_, rfl⟩
        obtain ⟨cs1, hcs1⟩ : ∃ cs, cs = (stepF (u64N x) (u64N y) a' b'' v).map B := ⟨_, rfl⟩
        obtain ⟨cs2, hcs2⟩ : ∃ cs, cs = (stepF (u64N x) (u64N y) a' c v).map B := ⟨_, rfl⟩
        have hcl : csv.length = 32 := by rw [hcsv, List.length_map]; exact HT.out.1
        have hi28 : (Tryd.prog.info? 28).map (·.size) = some csv.length := by rw [hcl]; kernel_rfl
        have hu28 := Tryd.underlying28
        have heqv : ∀ wx, (binOp .eql 28 (.agg csv.toArray) (.agg csv.toArray)).run Tryd.prog wx = .ok (.bool true) wx := by
          intro wx
          have h := run_eql_bytes aHash5 wx v v HT.out.1 HT.out.1
          rw [← hcsv] at h
          simpa using h
        have heq2 : ∀ wx, (binOp .eql 28 (.agg cs2.toArray) (.agg cs2.toArray)).run Tryd.prog wx = .ok (.bool true) wx := by
          intro wx
          have h := run_eql_bytes aHash5 wx _ _ (stepF_length (u64N x) (u64N y) a' c v HT.out.1) (stepF_length (u64N x) (u64N y) a' c v HT.out.1)
          rw [← hcs2] at h
          simpa using h
        have HCV := Lib.hid (And.intro hcsv (And.intro hcs1 (And.intro (show cs2 = (stepF (u64N x) (u64N y) b'' c (stepF (u64N x) (u64N y) a' b'' v)).map B by rw [stepF_add _ _ _ _ _ _ hab hbc (by omega), hcs2]) (And.intro hcs2 (show csv = (stepF (u64N x) (u64N y) b'' b'' v).map B by rw [stepF_same, hcsv])))))
        have HRG : Hid (∀ w', Blk w' w.heap.size 28 (v.map B) → w'.rangeAt w.heap.size 0 csv) := Lib.hid (fun w' hr => by rw [HCV.out.1]; intro j v hv; rw [Nat.zero_add]; exact hr.cellD j v hv)
        clear hcsv hcs1 hcs2
        refine wp_region_held_drew (S := (fun w' => w'.rangeAt w.heap.size 0 csv)) (by kernel_rfl) ?qs0 (fun hHeld => ?_)
        case qs0 => exact HRG.out _ HS.out.1.drew
        refine held_row (i := 0) rfl (by kernel_rfl) (by kernel_rfl) (by kernel_rfl) _ _ rfl _ _ rfl ?qC0 ?qD0 (fun _ _ _ h => h) (by rfl) ?qa0 ?qb0 ?qc0 ?qd0 hHeld ?_
        case qa0 => (intro w hSw; (try dsimp only at hSw); go_split_ands; assumption)
        case qb0 => assumption
        case qc0 => rfl
        case qd0 => first | assumption | (simp only [*]; done)
        try simp only [Act.put, List.setIfInBounds_toArray, List.set_cons_zero, List.set_cons_succ]
        refine held_take (i := 1) (v := ?qv1) rfl (by kernel_rfl) (by kernel_rfl) (by kernel_rfl) (fun _ _ _ h => h) (by rfl) ?qy1 hHeld ?_
        case qy1 => ((intro w _hSw; (try dsimp only at _hSw); go_simp); try (with_reducible rfl))
        try simp only [Act.put, List.setIfInBounds_toArray, List.set_cons_zero, List.set_cons_succ]
        refine held_take (i := 2) (v := ?qv2) rfl (by kernel_rfl) (by kernel_rfl) (by kernel_rfl) (fun _ _ _ h => h) (by rfl) ?qy2 hHeld ?_
        case qy2 => ((intro w _hSw; (try dsimp only at _hSw); go_simp); try (with_reducible rfl))
        try simp only [Act.put, List.setIfInBounds_toArray, List.set_cons_zero, List.set_cons_succ]
        refine held_take (i := 3) (v := ?qv3) rfl (by kernel_rfl) (by kernel_rfl) (by kernel_rfl) (fun _ _ _ h => h) (by rfl) ?qy3 hHeld ?_
        case qy3 => ((intro w _hSw; (try dsimp only at _hSw); go_simp); try (with_reducible rfl))
        try simp only [Act.put, List.setIfInBounds_toArray, List.set_cons_zero, List.set_cons_succ]
        refine held_take (i := 4) (v := ?qv4) rfl (by kernel_rfl) (by kernel_rfl) (by kernel_rfl) (fun _ _ _ h => h) (by rfl) ?qy4 hHeld ?_
        case qy4 => ((intro w _hSw; (try dsimp only at _hSw); go_simp); try (with_reducible rfl))
        try simp only [Act.put, List.setIfInBounds_toArray, List.set_cons_zero, List.set_cons_succ]
        refine held_take (i := 6) (v := ?qv6) rfl (by kernel_rfl) (by kernel_rfl) (by kernel_rfl) (fun _ _ _ h => h) (by rfl) ?qy6 hHeld ?_
        case qy6 => ((intro w _hSw; (try dsimp only at _hSw); go_simp); try (with_reducible rfl))
        try simp only [Act.put, List.setIfInBounds_toArray, List.set_cons_zero, List.set_cons_succ]
        refine held_take (i := 7) (v := ?qv7) rfl (by kernel_rfl) (by kernel_rfl) (by kernel_rfl) (fun _ _ _ h => h) (by rfl) ?qy7 hHeld ?_
        case qy7 => ((intro w _hSw; (try dsimp only at _hSw); go_simp); try (with_reducible rfl))
        try simp only [Act.put, List.setIfInBounds_toArray, List.set_cons_zero, List.set_cons_succ]
        refine held_take (i := 8) (v := ?qv8) rfl (by kernel_rfl) (by kernel_rfl) (by kernel_rfl) (fun _ _ _ h => h) (by rfl) ?qy8 hHeld ?_
        case qy8 => ((intro w _hSw; (try dsimp only at _hSw); go_simp); try (with_reducible rfl))
        try simp only [Act.put, List.setIfInBounds_toArray, List.set_cons_zero, List.set_cons_succ]
        refine held_take (i := 9) (v := ?qv9) rfl (by kernel_rfl) (by kernel_rfl) (by kernel_rfl) (fun _ _ _ h => h) (by rfl) ?qy9 hHeld ?_
        case qy9 => ((intro w _hSw; (try dsimp only at _hSw); go_simp); try (with_reducible rfl))
        try simp only [Act.put, List.setIfInBounds_toArray, List.set_cons_zero, List.set_cons_succ]
        refine held_row (i := 11) rfl (by kernel_rfl) (by kernel_rfl) (by kernel_rfl) _ _ rfl _ _ rfl ?qC11 ?qD11 (fun _ _ _ h => h) (by rfl) ?qa11 ?qb11 ?qc11 ?qd11 hHeld ?_
        case qa11 => (intro w hSw; (try dsimp only at hSw); go_split_ands; assumption)
        case qb11 => assumption
        case qc11 => rfl
        case qd11 => first | assumption | (simp only [*]; done)
        try simp only [Act.put, List.setIfInBounds_toArray, List.set_cons_zero, List.set_cons_succ]
        refine held_take (i := 12) (v := ?qv12) rfl (by kernel_rfl) (by kernel_rfl) (by kernel_rfl) (fun _ _ _ h => h) (by rfl) ?qy12 hHeld ?_
        case qy12 => ((intro w _hSw; (try dsimp only at _hSw); go_simp); try (with_reducible rfl))
        try simp only [Act.put, List.setIfInBounds_toArray, List.set_cons_zero, List.set_cons_succ]
        refine held_take (i := 13) (v := ?qv13) rfl (by kernel_rfl) (by kernel_rfl) (by kernel_rfl) (fun _ _ _ h => h) (by rfl) ?qy13 hHeld ?_
        case qy13 => ((intro w _hSw; (try dsimp only at _hSw); go_simp); try (with_reducible rfl))
        try simp only [Act.put, List.setIfInBounds_toArray, List.set_cons_zero, List.set_cons_succ]
        refine held_take (i := 14) (v := ?qv14) rfl (by kernel_rfl) (by kernel_rfl) (by kernel_rfl) (fun _ _ _ h => h) (by rfl) ?qy14 hHeld ?_
        case qy14 => ((intro w _hSw; (try dsimp only at _hSw); go_simp); try (with_reducible rfl))
        try simp only [Act.put, List.setIfInBounds_toArray, List.set_cons_zero, List.set_cons_succ]
        refine held_take (i := 15) (v := ?qv15) rfl (by kernel_rfl) (by kernel_rfl) (by kernel_rfl) (fun _ _ _ h => h) (by rfl) ?qy15 hHeld ?_
        case qy15 => ((intro w _hSw; (try dsimp only at _hSw); go_simp); try (with_reducible rfl))
        try simp only [Act.put, List.setIfInBounds_toArray, List.set_cons_zero, List.set_cons_succ]
        refine held_step (i := 5) rfl (by kernel_rfl) (by rfl) (fun K hK => ?_)
        go_simp
        refine (step_to csv cs1 v x y a' b'' _ w HCV.out.1 HT.out.1 HCV.out.2.1 (below_drewN HS.out.2 1) HT.out.2).mono ?_
        rintro e w5 ⟨rfl, hb5⟩
        have H5 := Lib.hid (And.intro (HS.out.1.drew.below hb5) (below_then (below_drewN HS.out.2 1) (below_drewN HS.out.2 1).size hb5))
        clear hb5
        go_wp2_with fail
        have hHeld := HRG.out _ H5.out.1
        refine hK.out _ _ (HRG.out _ H5.out.1) ?_
        clear hK K
        try simp only [Act.put, List.setIfInBounds_toArray, List.set_cons_zero, List.set_cons_succ]
        refine held_step (i := 10) rfl (by kernel_rfl) (by rfl) (fun K hK => ?_)
        go_simp
        refine (step_to cs1 cs2 (stepF (u64N x) (u64N y) a' b'' v) x y b'' c _ w HCV.out.2.1 (stepF_length _ _ _ _ _ HT.out.1) HCV.out.2.2.1 H5.out.2 HT.out.2).mono ?_
        rintro e w6 ⟨rfl, hb6⟩
        have H6 := Lib.hid (And.intro (H5.out.1.below hb6) (below_then H5.out.2 H5.out.2.size hb6))
        clear hb6
        go_wp2_with fail
        have hHeld := HRG.out _ H6.out.1
        refine hK.out _ _ (HRG.out _ H6.out.1) ?_
        clear hK K
        try simp only [Act.put, List.setIfInBounds_toArray, List.set_cons_zero, List.set_cons_succ]
        refine held_step (i := 16) rfl (by kernel_rfl) (by rfl) (fun K hK => ?_)
        go_simp
        refine (step_to csv cs2 v x y a' c _ w HCV.out.1 HT.out.1 HCV.out.2.2.2.1 H6.out.2 HT.out.2).mono ?_
        rintro e w7 ⟨rfl, hb7⟩
        have H7 := Lib.hid (And.intro (H6.out.1.below hb7) (below_then H6.out.2 H6.out.2.size hb7))
        clear hb7
        go_wp2_with fail
        have hHeld := HRG.out _ H7.out.1
        refine hK.out _ _ (HRG.out _ H7.out.1) ?_
        clear hK K
        try simp only [Act.put, List.setIfInBounds_toArray, List.set_cons_zero, List.set_cons_succ]
        refine held_take (i := 17) (v := ?qv17) rfl (by kernel_rfl) (by kernel_rfl) (by kernel_rfl) (fun _ _ _ h => h) (by rfl) ?qy17 hHeld ?_
        case qy17 => ((intro w _hSw; (try dsimp only at _hSw); go_simp); try (with_reducible rfl))
        try simp only [Act.put, List.setIfInBounds_toArray, List.set_cons_zero, List.set_cons_succ]
        refine held_take (i := 18) (v := ?qv18) rfl (by kernel_rfl) (by kernel_rfl) (by kernel_rfl) (fun _ _ _ h => h) (by rfl) ?qy18 hHeld ?_
        case qy18 => ((intro w _hSw; (try dsimp only at _hSw); go_simp); try (with_reducible rfl))
        try simp only [Act.put, List.setIfInBounds_toArray, List.set_cons_zero, List.set_cons_succ]
        refine held_row (i := 19) rfl (by kernel_rfl) (by kernel_rfl) (by kernel_rfl) _ _ rfl _ _ rfl ?qC19 ?qD19 (fun _ _ _ h => h) (by rfl) ?qa19 ?qb19 ?qc19 ?qd19 hHeld ?_
        case qa19 => (intro w hSw; (try dsimp only at hSw); go_split_ands; assumption)
        case qb19 => assumption
        case qc19 => rfl
        case qd19 => first | assumption | (simp only [*]; done)
        try simp only [Act.put, List.setIfInBounds_toArray, List.set_cons_zero, List.set_cons_succ]
        refine held_take (i := 20) (v := ?qv20) rfl (by kernel_rfl) (by kernel_rfl) (by kernel_rfl) (fun _ _ _ h => h) (by rfl) ?qy20 hHeld ?_
        case qy20 => ((intro w _hSw; (try dsimp only at _hSw); go_simp); try (with_reducible rfl))
        try simp only [Act.put, List.setIfInBounds_toArray, List.set_cons_zero, List.set_cons_succ]
        refine held_take (i := 21) (v := ?qv21) rfl (by kernel_rfl) (by kernel_rfl) (by kernel_rfl) (fun _ _ _ h => h) (by rfl) ?qy21 hHeld ?_
        case qy21 => ((intro w _hSw; (try dsimp only at _hSw); go_simp); try (with_reducible rfl))
        try simp only [Act.put, List.setIfInBounds_toArray, List.set_cons_zero, List.set_cons_succ]
        refine held_take (i := 22) (v := ?qv22) rfl (by kernel_rfl) (by kernel_rfl) (by kernel_rfl) (fun _ _ _ h => h) (by rfl) ?qy22 hHeld ?_
        case qy22 => ((intro w _hSw; (try dsimp only at _hSw); go_simp); try (with_reducible rfl))
        try simp only [Act.put, List.setIfInBounds_toArray, List.set_cons_zero, List.set_cons_succ]
        refine held_take (i := 23) (v := ?qv23) rfl (by kernel_rfl) (by kernel_rfl) (by kernel_rfl) (fun _ _ _ h => h) (by rfl) ?qy23 hHeld ?_
        case qy23 => ((intro w _hSw; (try dsimp only at _hSw); go_simp); try (with_reducible rfl))
        try simp only [Act.put, List.setIfInBounds_toArray, List.set_cons_zero, List.set_cons_succ]
        refine held_row (i := 25) rfl (by kernel_rfl) (by kernel_rfl) (by kernel_rfl) _ _ rfl _ _ rfl ?qC25 ?qD25 (fun _ _ _ h => h) (by rfl) ?qa25 ?qb25 ?qc25 ?qd25 hHeld ?_
        case qa25 => (intro w hSw; (try dsimp only at hSw); go_split_ands; assumption)
        case qb25 => assumption
        case qc25 => rfl
        case qd25 => first | assumption | (simp only [*]; done)
        try simp only [Act.put, List.setIfInBounds_toArray, List.set_cons_zero, List.set_cons_succ]
        refine held_step (i := 24) rfl (by kernel_rfl) (by rfl) (fun K hK => ?_)
        go_simp
        refine (step_to csv csv v x y b'' b'' _ w HCV.out.1 HT.out.1 HCV.out.2.2.2.2 H7.out.2 HT.out.2).mono ?_
        rintro e w8 ⟨rfl, hb8⟩
        have H8 := Lib.hid (And.intro (H7.out.1.below hb8) (below_then H7.out.2 H7.out.2.size hb8))
        clear hb8
        go_wp2_with fail
        have hHeld := HRG.out _ H8.out.1
        refine hK.out _ _ (HRG.out _ H8.out.1) ?_
        clear hK K
        try simp only [Act.put, List.setIfInBounds_toArray, List.set_cons_zero, List.set_cons_succ]
        refine held_take (i := 26) (v := ?qv26) rfl (by kernel_rfl) (by kernel_rfl) (by kernel_rfl) (fun _ _ _ h => h) (by rfl) ?qy26 hHeld ?_
        case qy26 => ((intro w _hSw; (try dsimp only at _hSw); go_simp); try (with_reducible rfl))
        try simp only [Act.put, List.setIfInBounds_toArray, List.set_cons_zero, List.set_cons_succ]
        refine held_take (i := 27) (v := ?qv27) rfl (by kernel_rfl) (by kernel_rfl) (by kernel_rfl) (fun _ _ _ h => h) (by rfl) ?qy27 hHeld ?_
        case qy27 => ((intro w _hSw; (try dsimp only at _hSw); go_simp); try (with_reducible rfl))
        try simp only [Act.put, List.setIfInBounds_toArray, List.set_cons_zero, List.set_cons_succ]
        refine held_take (i := 28) (v := ?qv28) rfl (by kernel_rfl) (by kernel_rfl) (by kernel_rfl) (fun _ _ _ h => h) (by rfl) ?qy28 hHeld ?_
        case qy28 => ((intro w _hSw; (try dsimp only at _hSw); go_simp); try (with_reducible rfl))
        try simp only [Act.put, List.setIfInBounds_toArray, List.set_cons_zero, List.set_cons_succ]
        refine held_step (i := 29) rfl (by kernel_rfl) (by rfl) (fun K hK => ?_)
        go_simp
        refine (sure05_any _ (HT.out.2.below H8.out.2 HT.out.2.lt)).mono ?_
        rintro e w9 ⟨rfl, hb9⟩
        have H9 := Lib.hid (And.intro (H8.out.1.below hb9) (below_then H8.out.2 H8.out.2.size hb9))
        clear hb9
        go_wp2_with fail
        have hHeld := HRG.out _ H9.out.1
        refine hK.out _ _ (HRG.out _ H9.out.1) ?_
        clear hK K
        try simp only [Act.put, List.setIfInBounds_toArray, List.set_cons_zero, List.set_cons_succ]
        refine held_take (i := 30) (v := ?qv30) rfl (by kernel_rfl) (by kernel_rfl) (by kernel_rfl) (fun _ _ _ h => h) (by rfl) ?qy30 hHeld ?_
        case qy30 => ((intro w _hSw; (try dsimp only at _hSw); go_simp); try (with_reducible rfl))
        try simp only [Act.put, List.setIfInBounds_toArray, List.set_cons_zero, List.set_cons_succ]
        refine held_take (i := 31) (v := ?qv31) rfl (by kernel_rfl) (by kernel_rfl) (by kernel_rfl) (fun _ _ _ h => h) (by rfl) ?qy31 hHeld ?_
        case qy31 => ((intro w _hSw; (try dsimp only at _hSw); go_simp); try (with_reducible rfl))
        try simp only [Act.put, List.setIfInBounds_toArray, List.set_cons_zero, List.set_cons_succ]
        refine wpAnyH_done (by kernel_rfl) ?_ _
        go_wp2
        go_ret
        exact ⟨rfl, H9.out.2⟩
#print axioms steps_any
end Go.Proofs.YtcgdojdiihdkeaaDoor
