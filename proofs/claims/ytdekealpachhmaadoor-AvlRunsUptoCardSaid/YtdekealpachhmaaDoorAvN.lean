/- Layer 7: Node by its contract. -/
import Derived.Test.YtdekealpachhmaaDoorAvU
import Derived.Test.YtdekealpachhmaaDoorReg2
import Derived.Test.YtdekealpachhmaaDoorStepApp
namespace Go.Proofs.YtdekealpachhmaaDoor
open Go Go.RowKit Go.Isth

/-- A one-byte row beside a writer. -/
structure Lit (w : World) (base : Nat) (v : Value) (b : UInt8) (ga : Nat) : Prop where
  own : w.ownsRow base 5 1 (.slice (some ⟨ga, 0, none⟩) 1 1) 1 [B b]
  ne : v.ownBlock ≠ some ga
  lt : ga < w.heap.size
theorem Lit.step {w w' : World} {base pb ga : Nat} {v v' : Value} {b : UInt8} {bs : List UInt8} (h : Lit w base v b ga) (hx : WExt w w' pb v v') (hW : WIs w pb pb v bs) : Lit w' base v' b ga :=
  ⟨hx.own (tW := 182) (tb := 5) (by decide) hW h.own (.inr (fun e => h.ne e.symm)), by
    rcases hx.same with e | e
    · rw [e]; exact h.ne
    · intro e'; have := e ga e'; have := h.lt; omega, Nat.lt_of_lt_of_le h.lt hx.size⟩
theorem Lit.below {w w' : World} {base ga : Nat} {v : Value} {b : UInt8} (h : Lit w base v b ga) (hb : Below w.heap.size w w') : Lit w' base v b ga :=
  ⟨own_below h.own hb, h.ne, Nat.lt_of_lt_of_le h.lt hb.size⟩
theorem lit_alloc (w : World) (base : Nat) (v : Value) (b : UInt8) (hb : base ≤ w.heap.size) (hv : ∀ k, v.ownBlock = some k → k < w.heap.size) : Lit (w.alloc (.cells #[.int .u8 (b.toNat : Int)] 5)) base v b w.heap.size :=
  ⟨World.ownsRow_lit (base := base) (e := 5) (size := 1) w #[B b] 1 hb (by decide) rfl, fun e => by have := hv _ e; omega, by simp⟩
theorem Lit.nil {w : World} {base ga : Nat} {v : Value} {b : UInt8} (h : Lit w base v b ga) : Lit w base (.slice none 0 0) b ga :=
  ⟨h.own, by simp [Value.ownBlock], h.lt⟩
theorem newW_any (w : World) : Calls Tryd.prog 69 #[] w fun e w' => ∃ pb, e = .returned (Ptr pb) ∧ WIs w' pb pb (.slice none 0 0) [] ∧ w.heap.size ≤ pb ∧ Below w.heap.size w w' :=
  (new_any w).mono fun _ _ h => ⟨w.heap.size, h.1, h.2.1, Nat.le_refl _, h.2.2⟩
theorem hash_to (cs : List Value) (hs : List UInt8) (b : Nat) (v : Value) (bs : List UInt8) (base : Nat) (w : World) (hcs : cs = hs.map B) (hh : hs.length = 32) (hW : WIs w base b v bs) (hm : bs.length ≤ 35184372088832) :
    Calls Tryd.prog 73 #[Ptr b, .agg cs.toArray] w fun e w' => e = .returned (Ptr b) ∧ ∃ v', WIs w' base b v' (bs ++ hs) ∧ WExt w w' b v v' := by
  subst hcs
  exact hash_any hs b v bs base w hh hW hm
theorem done_to (b : Nat) (v : Value) (bs : List UInt8) (n base : Nat) (w : World) (hW : WIs w base b v bs) (hn : bs.length = n) (hm : n ≤ 70368744177664) :
    Calls Tryd.prog 71 #[Ptr b] w fun e w' => ∃ A c, e = .returned (.slice A n c) ∧ Rd w' A (bs.map B) ∧ Below w.heap.size w w' := by
  subst hn
  refine (done_any b v bs base w hW hm).mono ?_
  rintro e w' ⟨v', rfl, ho, hb⟩
  obtain ⟨A, c, rfl, _, hr, _⟩ := own_slice ho
  exact ⟨A, c, rfl, hr, hb⟩
set_option maxRecDepth 100000 in
set_option maxHeartbeats 8000000 in
theorem avnode_any (n m : Nat) (a b : List UInt8) (csa csb cs : List Value) (w : World) (ha : a.length = 32) (hb : b.length = 32) (hca : csa = a.map B) (hcb : csb = b.map B) (hcs : cs = (avNode n a m b).map B) (hn : n ≤ 4611686018427387904) (hm : m ≤ 4611686018427387904) (ht : TabLaid w) :
    Calls Tryd.prog 29 #[.int .i64 n, .agg csa.toArray, .int .i64 m, .agg csb.toArray] w fun e w' => e = .returned (.agg cs.toArray) ∧ Below w.heap.size w w' := by
  have hla : csa.length = 32 := by rw [hca, List.length_map]; exact ha
  have hlb : csb.length = 32 := by rw [hcb, List.length_map]; exact hb
  have hcl : cs.length = 32 := by rw [hcs, List.length_map, avNode_length]
  have hc1 : ∀ u ∈ cs, u.oneCell' = true := by rw [hcs]; exact one_bytes
  have HT := Lib.hid (And.intro ha (And.intro hb (And.intro hca (And.intro hcb (And.intro hcs (And.intro hn (And.intro hm ht)))))))
  have HV := Lib.hid (And.intro (varint_len10 n (by omega)) (varint_len10 m (by omega)))
  have h1 : IntKind.u64.wrap (n : Int) = (n : Int) := u64_nat (by omega)
  have h2 : IntKind.u64.wrap (m : Int) = (m : Int) := u64_nat (by omega)
  have HW12 := Lib.hid (And.intro h1 h2)
  clear ha hb hca hcb hcs hn hm ht h1 h2
  go_enter Tryd.func29, Tryd.ntmps29
  go_wp2_with fail
  have hb0 : Below w.heap.size w (((w.alloc (.cells csa.toArray 46)).alloc (.cells csb.toArray 46)).alloc (.cells (List.replicate 32 (B 0)).toArray 46)) := (((Below.refl _ _).alloc (Nat.le_refl _) _).alloc (by simp) _).alloc (by simp; omega) _
  have hz1 : Blk (((w.alloc (.cells csa.toArray 46)).alloc (.cells csb.toArray 46)).alloc (.cells (List.replicate 32 (B 0)).toArray 46)) w.heap.size 46 csa := ((Blk_new w _ _).alloc _).alloc _
  have hz2 : Blk (((w.alloc (.cells csa.toArray 46)).alloc (.cells csb.toArray 46)).alloc (.cells (List.replicate 32 (B 0)).toArray 46)) (w.heap.size + 1) 46 csb := by
    have h := (Blk_new (w.alloc (.cells csa.toArray 46)) csb 46).alloc (.cells (List.replicate 32 (B 0)).toArray 46)
    rwa [World.size_alloc] at h
  have hz3 : Blk (((w.alloc (.cells csa.toArray 46)).alloc (.cells csb.toArray 46)).alloc (.cells (List.replicate 32 (B 0)).toArray 46)) (w.heap.size + 1 + 1) 46 (List.replicate 32 (B 0)) := by
    have h := Blk_new ((w.alloc (.cells csa.toArray 46)).alloc (.cells csb.toArray 46)) (List.replicate 32 (B 0)) 46
    rwa [World.size_alloc, World.size_alloc] at h
  change Code.wp _ _ _ _ (((w.alloc (.cells csa.toArray 46)).alloc (.cells csb.toArray 46)).alloc (.cells (List.replicate 32 (B 0)).toArray 46))
  generalize (((w.alloc (.cells csa.toArray 46)).alloc (.cells csb.toArray 46)).alloc (.cells (List.replicate 32 (B 0)).toArray 46)) = w0 at *
  have hg1 : w.heap.size < w0.heap.size := hz1.lt
  have hg2 : w.heap.size + 1 < w0.heap.size := hz2.lt
  have hg3 : w.heap.size + 1 + 1 < w0.heap.size := hz3.lt
  obtain ⟨g3, hg3e⟩ : ∃ g, g = w.heap.size + 1 + 1 := ⟨_, rfl⟩
  rw [← hg3e] at hz3 hg3 ⊢
  obtain ⟨g2, hg2e⟩ : ∃ g, g = w.heap.size + 1 := ⟨_, rfl⟩
  rw [← hg2e] at hz2 hg2 ⊢
  have hwg : w.heap.size ≤ g3 := by omega
  obtain ⟨g1, hg1e⟩ : ∃ g, g = w.heap.size := ⟨_, rfl⟩
  rw [← hg1e] at hz1 hg1 ⊢
  have HTS : Hid (∀ w', Below w0.heap.size w0 w' → w'.rangeAt g1 0 csa ∧ w'.rangeAt g2 0 csb ∧ w'.there g3 0 32) := Lib.hid fun w' h => ⟨fun j u hu => (hz1.below h).cellD (0 + j) u (by simpa using hu), fun j u hu => (hz2.below h).cellD (0 + j) u (by simpa using hu), (hz3.below h).there (by simp)⟩
  have HTS2 : Hid (∀ w' w'', Below w0.heap.size w0 w' → Blk w'' g3 46 cs → w'.grownBy w'' (some g3) → w''.rangeAt g1 0 csa ∧ w''.rangeAt g2 0 csb ∧ w''.there g3 0 32) := Lib.hid fun w' w'' h hz hg => ⟨fun j u hu => ((hz1.below h).grown hg (fun e => by injection e with e; omega)).cellD (0 + j) u (by simpa using hu), fun j u hu => ((hz2.below h).grown hg (fun e => by injection e with e; omega)).cellD (0 + j) u (by simpa using hu), hz.there (by rw [hcl])⟩
  have HZ3 := Lib.hid (And.intro hz3 (And.intro hg3 (And.intro hwg (And.intro hb0 (show w.heap.size ≤ w0.heap.size from hb0.size)))))
  have i46 : (Tryd.prog.info? 46).map (·.size) = some csa.length := by rw [hla]; kernel_rfl
  have j46 : (Tryd.prog.info? 46).map (·.size) = some csb.length := by rw [hlb]; kernel_rfl
  have k46 : (Tryd.prog.info? 46).map (·.size) = some cs.length := by rw [hcl]; kernel_rfl
  have u46 := Tryd.underlying46
  clear hb0 hz1 hz2 hz3 hg1 hg2 hg3 hg3e hg2e hg1e hwg
  have HB : Hid (Below w0.heap.size w0 (w0.drewN 1)) := Lib.hid (refl_drewN w0 1)
  obtain ⟨N, hN⟩ : ∃ N, N = ([] ++ varint n ++ a ++ varint m ++ b).length := ⟨_, rfl⟩
  have hN2 : N ≤ 100 := by have := HT.out; have := HV.out; rw [hN]; simp only [List.length_append, List.length_nil]; omega
  have HN := Lib.hid (And.intro hN.symm (And.intro hN2 (And.intro (show 1 + N ≤ maxLen by unfold maxLen; omega) (show (1 + N) * 1 ≤ 140737488355328 by omega))))
  have HN1 := Lib.hid (show 1 + N = (7 :: (varint n ++ (a ++ (varint m ++ b)))).length by rw [hN]; simp only [List.length_append, List.length_nil, List.length_cons]; omega)
  clear hN hN2
  have HS : Hid (TabLaid w0) := Lib.hid (HT.out.2.2.2.2.2.2.2.below HZ3.out.2.2.2.1 HT.out.2.2.2.2.2.2.2.lt)
  refine wp_region_held_drew (S := (fun w' => w'.rangeAt g1 0 csa ∧ w'.rangeAt g2 0 csb ∧ w'.there g3 0 32)) (by kernel_rfl) ?qs0 (fun hHeld => ?_)
  case qs0 => exact HTS.out _ (refl_drewN _ 1)
  refine held_take (i := 2) (v := ?q1v) rfl (by kernel_rfl) (by kernel_rfl) (by kernel_rfl) (fun _ _ _ h => h) (by rfl) ?q1y hHeld ?_
  case q1y => ((intro w _hSw; (try dsimp only at _hSw); go_simp); try (with_reducible rfl))
  try simp only [Act.put, List.setIfInBounds_toArray, List.set_cons_zero, List.set_cons_succ]
  refine held_take (i := 3) (v := (.int .u64 (n : Int))) rfl (by kernel_rfl) (by kernel_rfl) (by kernel_rfl) (fun _ _ _ h => h) (by rfl) ?q2y hHeld ?_
  case q2y => (intro w _hSw; (try dsimp only at _hSw); go_simp; try rw [HW12.out.1])
  try simp only [Act.put, List.setIfInBounds_toArray, List.set_cons_zero, List.set_cons_succ]
  refine held_row (i := 5) rfl (by kernel_rfl) (by kernel_rfl) (by kernel_rfl) _ _ rfl _ _ rfl ?q3C ?q3D (fun _ _ _ h => h) (by rfl) ?q3a ?q3b ?q3c ?q3d hHeld ?_
  case q3a => (intro w hSw; (try dsimp only at hSw); go_split_ands; assumption)
  case q3b => assumption
  case q3c => rfl
  case q3d => first | assumption | (simp only [*]; done)
  try simp only [Act.put, List.setIfInBounds_toArray, List.set_cons_zero, List.set_cons_succ]
  refine held_take (i := 7) (v := ?q4v) rfl (by kernel_rfl) (by kernel_rfl) (by kernel_rfl) (fun _ _ _ h => h) (by rfl) ?q4y hHeld ?_
  case q4y => ((intro w _hSw; (try dsimp only at _hSw); go_simp); try (with_reducible rfl))
  try simp only [Act.put, List.setIfInBounds_toArray, List.set_cons_zero, List.set_cons_succ]
  refine held_take (i := 8) (v := (.int .u64 (m : Int))) rfl (by kernel_rfl) (by kernel_rfl) (by kernel_rfl) (fun _ _ _ h => h) (by rfl) ?q5y hHeld ?_
  case q5y => (intro w _hSw; (try dsimp only at _hSw); go_simp; try rw [HW12.out.2])
  try simp only [Act.put, List.setIfInBounds_toArray, List.set_cons_zero, List.set_cons_succ]
  refine held_row (i := 10) rfl (by kernel_rfl) (by kernel_rfl) (by kernel_rfl) _ _ rfl _ _ rfl ?q6C ?q6D (fun _ _ _ h => h) (by rfl) ?q6a ?q6b ?q6c ?q6d hHeld ?_
  case q6a => (intro w hSw; (try dsimp only at hSw); go_split_ands; assumption)
  case q6b => assumption
  case q6c => rfl
  case q6d => first | assumption | (simp only [*]; done)
  try simp only [Act.put, List.setIfInBounds_toArray, List.set_cons_zero, List.set_cons_succ]
  refine held_two (i := 0) (j := 1) rfl rfl (by kernel_rfl) (by rfl) (by rfl) (fun K hK => ?_) (fun K hK => ?_)
  · skip
    go_simp
    first
      | (have HA := Lib.hid (lit_alloc _ w0.heap.size _ 7 HB.out.size (fun q e => (HW.out.own.lt q e).2)); have HW := Lib.hid (HW.out.alloc (.cells #[.int .u8 7] 5)); have HB := Lib.hid (HB.out.alloc HB.out.size (.cells #[.int .u8 7] 5)))
      | (have HA := Lib.hid (lit_alloc wc w0.heap.size (.slice none 0 0) 7 HB.out.size (by simp [Value.ownBlock])); have HB := Lib.hid (HB.out.alloc HB.out.size (.cells #[.int .u8 7] 5)))
      | (have HA := Lib.hid ((lit_alloc w0 w0.heap.size (.slice none 0 0) 7 (Nat.le_refl _) (by simp [Value.ownBlock])).below (refl_drewN _ 1)); have HB := Lib.hid (((Below.refl w0.heap.size w0).alloc (Nat.le_refl _) (.cells #[.int .u8 7] 5)).drew))
    have hHeld := HTS.out _ HB.out
    refine hK.out _ _ (HTS.out _ HB.out) ?_
    clear hK K
    (try simp only [Act.put]); (try simp only [List.setIfInBounds_toArray]); (try simp only [List.set_cons_succ]); (try simp only [List.set_cons_zero])
    refine held_step (i := 1) rfl (by kernel_rfl) (by rfl) (fun K hK => ?_)
    go_simp
    refine (newW_any _).mono ?_
    rintro e wc ⟨pb, rfl, hW, hpb, hb⟩
    have HP := Lib.hid (Nat.le_trans HB.out.size hpb)
    try have HA := Lib.hid (HA.out.below hb)
    have HB := Lib.hid (below_then HB.out HB.out.size hb)
    have HW := Lib.hid hW
    clear hW hpb hb
    go_wp2_with fail
    have hHeld := HTS.out _ HB.out
    refine hK.out _ _ (HTS.out _ HB.out) ?_
    clear hK K
    try simp only [Act.put, List.setIfInBounds_toArray, List.set_cons_zero, List.set_cons_succ]
    refine held_step (i := 4) rfl (by kernel_rfl) (by rfl) (fun K hK => ?_)
    go_simp
    refine (uint_any n pb _ _ pb _ (by have := HT.out; omega) HW.out (by simp)).mono ?_
    rintro e wc ⟨rfl, v, hW, hx⟩
    try have HA := Lib.hid (HA.out.step hx HW.out)
    have HB := Lib.hid (HB.out.trans (hx.below HP.out HB.out.size (fun q e => Nat.le_trans HP.out (HW.out.own.lt q e).1)))
    have HW := Lib.hid hW
    clear hW hx
    go_wp2_with fail
    have hHeld := HTS.out _ HB.out
    refine hK.out _ _ (HTS.out _ HB.out) ?_
    clear hK K
    try simp only [Act.put, List.setIfInBounds_toArray, List.set_cons_zero, List.set_cons_succ]
    refine held_step (i := 6) rfl (by kernel_rfl) (by rfl) (fun K hK => ?_)
    go_simp
    refine (hash_to csa a pb _ _ pb _ HT.out.2.2.1 HT.out.1 HW.out (by have := HT.out; have := HV.out; simp only [List.length_append, List.length_nil]; omega)).mono ?_
    rintro e wc ⟨rfl, v, hW, hx⟩
    try have HA := Lib.hid (HA.out.step hx HW.out)
    have HB := Lib.hid (HB.out.trans (hx.below HP.out HB.out.size (fun q e => Nat.le_trans HP.out (HW.out.own.lt q e).1)))
    have HW := Lib.hid hW
    clear hW hx
    go_wp2_with fail
    have hHeld := HTS.out _ HB.out
    refine hK.out _ _ (HTS.out _ HB.out) ?_
    clear hK K
    try simp only [Act.put, List.setIfInBounds_toArray, List.set_cons_zero, List.set_cons_succ]
    refine held_step (i := 9) rfl (by kernel_rfl) (by rfl) (fun K hK => ?_)
    go_simp
    refine (uint_any m pb _ _ pb _ (by have := HT.out; omega) HW.out (by have := HT.out; have := HV.out; simp only [List.length_append, List.length_nil]; omega)).mono ?_
    rintro e wc ⟨rfl, v, hW, hx⟩
    try have HA := Lib.hid (HA.out.step hx HW.out)
    have HB := Lib.hid (HB.out.trans (hx.below HP.out HB.out.size (fun q e => Nat.le_trans HP.out (HW.out.own.lt q e).1)))
    have HW := Lib.hid hW
    clear hW hx
    go_wp2_with fail
    have hHeld := HTS.out _ HB.out
    refine hK.out _ _ (HTS.out _ HB.out) ?_
    clear hK K
    try simp only [Act.put, List.setIfInBounds_toArray, List.set_cons_zero, List.set_cons_succ]
    refine held_step (i := 11) rfl (by kernel_rfl) (by rfl) (fun K hK => ?_)
    go_simp
    refine (hash_to csb b pb _ _ pb _ HT.out.2.2.2.1 HT.out.2.1 HW.out (by have := HT.out; have := HV.out; simp only [List.length_append, List.length_nil]; omega)).mono ?_
    rintro e wc ⟨rfl, v, hW, hx⟩
    try have HA := Lib.hid (HA.out.step hx HW.out)
    have HB := Lib.hid (HB.out.trans (hx.below HP.out HB.out.size (fun q e => Nat.le_trans HP.out (HW.out.own.lt q e).1)))
    have HW := Lib.hid hW
    clear hW hx
    go_wp2_with fail
    have hHeld := HTS.out _ HB.out
    refine hK.out _ _ (HTS.out _ HB.out) ?_
    clear hK K
    try simp only [Act.put, List.setIfInBounds_toArray, List.set_cons_zero, List.set_cons_succ]
    refine held_step (i := 12) rfl (by kernel_rfl) (by rfl) (fun K hK => ?_)
    go_simp
    refine (done_to pb _ _ N pb _ HW.out HN.out.1 (by have := HN.out.2; omega)).mono ?_
    rintro e wc ⟨A5, c5, rfl, hr, hb⟩
    try have HA := Lib.hid (HA.out.below hb)
    have HB := Lib.hid (below_then HB.out HB.out.size hb)
    have HR := Lib.hid hr
    clear hr hb
    go_wp2_with fail
    have hHeld := HTS.out _ HB.out
    refine hK.out _ _ (HTS.out _ HB.out) ?_
    clear hK K
    try simp only [Act.put, List.setIfInBounds_toArray, List.set_cons_zero, List.set_cons_succ]
    refine held_step (i := 13) rfl (by kernel_rfl) (by rfl) (fun K hK => ?_)
    first
      | refine wp_app0 tBp (.tmp 9) (.tmp 21) rfl w0.heap.size _ 1 [B 7] rfl HA.out.own A5 N c5 _ rfl HR.out (by rw [List.length_map, HN.out.1, Nat.mul_one]) one_bytes HN.out.2.2.1 HN.out.2.2.2 HB.out.size ?_
      | refine wp_app0 tBp (.tmp 9) (.tmp 21) rfl w0.heap.size _ 1 [B 7] rfl HA.out.own A5 N c5 _ rfl (HR.out.below ((Below.refl _ _).alloc (Nat.le_refl _) (.cells #[.int .u8 7] 5))) (by rw [List.length_map, HN.out.1, Nat.mul_one]) one_bytes HN.out.2.2.1 HN.out.2.2.2 HB.out.size ?_
    intro v6 wc ho6 hx6
    obtain ⟨A6, c6, rfl, hc6, hr6, _⟩ := own_slice ho6
    have HB := Lib.hid (HB.out.grown hx6.grown HB.out.size (fun q e => (HA.out.own.lt q e).1))
    have HR6 := Lib.hid (And.intro hr6 hc6)
    clear hr6 hc6 ho6 hx6
    have hHeld := HTS.out _ HB.out
    refine hK.out _ _ (HTS.out _ HB.out) ?_
    clear hK K
    (try simp only [Act.put]); (try simp only [List.setIfInBounds_toArray]); (try simp only [List.set_cons_succ]); (try simp only [List.set_cons_zero])
    refine held_step (i := 14) rfl (by kernel_rfl) (by rfl) (fun K hK => ?_)
    go_simp
    refine (hsum_to A6 c6 (1 + N) (7 :: (varint n ++ (a ++ (varint m ++ b)))) cs _ w0 HN1.out HB.out HR6.out.2 (by have := HN.out.2.1; omega) HT.out.2.2.2.2.1 (by have h := HR6.out.1; simpa using h) HS.out).mono ?_
    rintro e wc ⟨rfl, hb⟩
    have HB := Lib.hid (below_then HB.out HB.out.size hb)
    clear hb
    go_wp2_with fail
    have hHeld := HTS.out _ HB.out
    refine hK.out _ _ (HTS.out _ HB.out) ?_
    clear hK K
    try simp only [Act.put, List.setIfInBounds_toArray, List.set_cons_zero, List.set_cons_succ]
    refine held_step (i := 15) rfl (by kernel_rfl) (by rfl) (fun K hK => ?_)
    refine wp_store_blk 46 (.tmp 8) (.tmp 23) rfl g3 cs rfl rfl 46 _ (HZ3.out.1.below HB.out) k46 (by rw [hcl, List.length_replicate]) hc1 ?_
    intro w9 hz hg
    have hs := HTS2.out _ w9 HB.out hz hg
    have H9 := Lib.hid (And.intro hz ((below_then HZ3.out.2.2.2.1 HZ3.out.2.2.2.2 HB.out).grown hg (Nat.le_trans HZ3.out.2.2.2.2 HB.out.size) (fun k e => by injection e with e; have := HZ3.out.2.2.1; omega)))
    have HS9 := Lib.hid hs
    clear hz hg hs
    have hHeld := HS9.out
    refine hK.out _ _ (HS9.out) ?_
    clear hK K
    (try simp only [Act.put]); (try simp only [List.setIfInBounds_toArray]); (try simp only [List.set_cons_succ]); (try simp only [List.set_cons_zero])
    refine wpAnyH_done (by kernel_rfl) ?_ _
    go_wp2
    exact bodyPost_ret (results_blk rfl _ _ g3 46 cs _ rfl H9.out.1 u46 rfl k46) rfl ⟨rfl, H9.out.2⟩
  · skip
    go_simp
    refine (newW_any _).mono ?_
    rintro e wc ⟨pb, rfl, hW, hpb, hb⟩
    have HP := Lib.hid (Nat.le_trans HB.out.size hpb)
    try have HA := Lib.hid (HA.out.below hb)
    have HB := Lib.hid (below_then HB.out HB.out.size hb)
    have HW := Lib.hid hW
    clear hW hpb hb
    go_wp2_with fail
    have hHeld := HTS.out _ HB.out
    refine hK.out _ _ (HTS.out _ HB.out) ?_
    clear hK K
    try simp only [Act.put, List.setIfInBounds_toArray, List.set_cons_zero, List.set_cons_succ]
    refine held_two (i := 0) (j := 4) rfl rfl (by kernel_rfl) (by rfl) (by rfl) (fun K hK => ?_) (fun K hK => ?_)
    · skip
      go_simp
      first
        | (have HA := Lib.hid (lit_alloc _ w0.heap.size _ 7 HB.out.size (fun q e => (HW.out.own.lt q e).2)); have HW := Lib.hid (HW.out.alloc (.cells #[.int .u8 7] 5)); have HB := Lib.hid (HB.out.alloc HB.out.size (.cells #[.int .u8 7] 5)))
        | (have HA := Lib.hid (lit_alloc wc w0.heap.size (.slice none 0 0) 7 HB.out.size (by simp [Value.ownBlock])); have HB := Lib.hid (HB.out.alloc HB.out.size (.cells #[.int .u8 7] 5)))
        | (have HA := Lib.hid ((lit_alloc w0 w0.heap.size (.slice none 0 0) 7 (Nat.le_refl _) (by simp [Value.ownBlock])).below (refl_drewN _ 1)); have HB := Lib.hid (((Below.refl w0.heap.size w0).alloc (Nat.le_refl _) (.cells #[.int .u8 7] 5)).drew))
      have hHeld := HTS.out _ HB.out
      refine hK.out _ _ (HTS.out _ HB.out) ?_
      clear hK K
      (try simp only [Act.put]); (try simp only [List.setIfInBounds_toArray]); (try simp only [List.set_cons_succ]); (try simp only [List.set_cons_zero])
      refine held_step (i := 4) rfl (by kernel_rfl) (by rfl) (fun K hK => ?_)
      go_simp
      refine (uint_any n pb _ _ pb _ (by have := HT.out; omega) HW.out (by simp)).mono ?_
      rintro e wc ⟨rfl, v, hW, hx⟩
      try have HA := Lib.hid (HA.out.step hx HW.out)
      have HB := Lib.hid (HB.out.trans (hx.below HP.out HB.out.size (fun q e => Nat.le_trans HP.out (HW.out.own.lt q e).1)))
      have HW := Lib.hid hW
      clear hW hx
      go_wp2_with fail
      have hHeld := HTS.out _ HB.out
      refine hK.out _ _ (HTS.out _ HB.out) ?_
      clear hK K
      try simp only [Act.put, List.setIfInBounds_toArray, List.set_cons_zero, List.set_cons_succ]
      refine held_step (i := 6) rfl (by kernel_rfl) (by rfl) (fun K hK => ?_)
      go_simp
      refine (hash_to csa a pb _ _ pb _ HT.out.2.2.1 HT.out.1 HW.out (by have := HT.out; have := HV.out; simp only [List.length_append, List.length_nil]; omega)).mono ?_
      rintro e wc ⟨rfl, v, hW, hx⟩
      try have HA := Lib.hid (HA.out.step hx HW.out)
      have HB := Lib.hid (HB.out.trans (hx.below HP.out HB.out.size (fun q e => Nat.le_trans HP.out (HW.out.own.lt q e).1)))
      have HW := Lib.hid hW
      clear hW hx
      go_wp2_with fail
      have hHeld := HTS.out _ HB.out
      refine hK.out _ _ (HTS.out _ HB.out) ?_
      clear hK K
      try simp only [Act.put, List.setIfInBounds_toArray, List.set_cons_zero, List.set_cons_succ]
      refine held_step (i := 9) rfl (by kernel_rfl) (by rfl) (fun K hK => ?_)
      go_simp
      refine (uint_any m pb _ _ pb _ (by have := HT.out; omega) HW.out (by have := HT.out; have := HV.out; simp only [List.length_append, List.length_nil]; omega)).mono ?_
      rintro e wc ⟨rfl, v, hW, hx⟩
      try have HA := Lib.hid (HA.out.step hx HW.out)
      have HB := Lib.hid (HB.out.trans (hx.below HP.out HB.out.size (fun q e => Nat.le_trans HP.out (HW.out.own.lt q e).1)))
      have HW := Lib.hid hW
      clear hW hx
      go_wp2_with fail
      have hHeld := HTS.out _ HB.out
      refine hK.out _ _ (HTS.out _ HB.out) ?_
      clear hK K
      try simp only [Act.put, List.setIfInBounds_toArray, List.set_cons_zero, List.set_cons_succ]
      refine held_step (i := 11) rfl (by kernel_rfl) (by rfl) (fun K hK => ?_)
      go_simp
      refine (hash_to csb b pb _ _ pb _ HT.out.2.2.2.1 HT.out.2.1 HW.out (by have := HT.out; have := HV.out; simp only [List.length_append, List.length_nil]; omega)).mono ?_
      rintro e wc ⟨rfl, v, hW, hx⟩
      try have HA := Lib.hid (HA.out.step hx HW.out)
      have HB := Lib.hid (HB.out.trans (hx.below HP.out HB.out.size (fun q e => Nat.le_trans HP.out (HW.out.own.lt q e).1)))
      have HW := Lib.hid hW
      clear hW hx
      go_wp2_with fail
      have hHeld := HTS.out _ HB.out
      refine hK.out _ _ (HTS.out _ HB.out) ?_
      clear hK K
      try simp only [Act.put, List.setIfInBounds_toArray, List.set_cons_zero, List.set_cons_succ]
      refine held_step (i := 12) rfl (by kernel_rfl) (by rfl) (fun K hK => ?_)
      go_simp
      refine (done_to pb _ _ N pb _ HW.out HN.out.1 (by have := HN.out.2; omega)).mono ?_
      rintro e wc ⟨A5, c5, rfl, hr, hb⟩
      try have HA := Lib.hid (HA.out.below hb)
      have HB := Lib.hid (below_then HB.out HB.out.size hb)
      have HR := Lib.hid hr
      clear hr hb
      go_wp2_with fail
      have hHeld := HTS.out _ HB.out
      refine hK.out _ _ (HTS.out _ HB.out) ?_
      clear hK K
      try simp only [Act.put, List.setIfInBounds_toArray, List.set_cons_zero, List.set_cons_succ]
      refine held_step (i := 13) rfl (by kernel_rfl) (by rfl) (fun K hK => ?_)
      first
        | refine wp_app0 tBp (.tmp 9) (.tmp 21) rfl w0.heap.size _ 1 [B 7] rfl HA.out.own A5 N c5 _ rfl HR.out (by rw [List.length_map, HN.out.1, Nat.mul_one]) one_bytes HN.out.2.2.1 HN.out.2.2.2 HB.out.size ?_
        | refine wp_app0 tBp (.tmp 9) (.tmp 21) rfl w0.heap.size _ 1 [B 7] rfl HA.out.own A5 N c5 _ rfl (HR.out.below ((Below.refl _ _).alloc (Nat.le_refl _) (.cells #[.int .u8 7] 5))) (by rw [List.length_map, HN.out.1, Nat.mul_one]) one_bytes HN.out.2.2.1 HN.out.2.2.2 HB.out.size ?_
      intro v6 wc ho6 hx6
      obtain ⟨A6, c6, rfl, hc6, hr6, _⟩ := own_slice ho6
      have HB := Lib.hid (HB.out.grown hx6.grown HB.out.size (fun q e => (HA.out.own.lt q e).1))
      have HR6 := Lib.hid (And.intro hr6 hc6)
      clear hr6 hc6 ho6 hx6
      have hHeld := HTS.out _ HB.out
      refine hK.out _ _ (HTS.out _ HB.out) ?_
      clear hK K
      (try simp only [Act.put]); (try simp only [List.setIfInBounds_toArray]); (try simp only [List.set_cons_succ]); (try simp only [List.set_cons_zero])
      refine held_step (i := 14) rfl (by kernel_rfl) (by rfl) (fun K hK => ?_)
      go_simp
      refine (hsum_to A6 c6 (1 + N) (7 :: (varint n ++ (a ++ (varint m ++ b)))) cs _ w0 HN1.out HB.out HR6.out.2 (by have := HN.out.2.1; omega) HT.out.2.2.2.2.1 (by have h := HR6.out.1; simpa using h) HS.out).mono ?_
      rintro e wc ⟨rfl, hb⟩
      have HB := Lib.hid (below_then HB.out HB.out.size hb)
      clear hb
      go_wp2_with fail
      have hHeld := HTS.out _ HB.out
      refine hK.out _ _ (HTS.out _ HB.out) ?_
      clear hK K
      try simp only [Act.put, List.setIfInBounds_toArray, List.set_cons_zero, List.set_cons_succ]
      refine held_step (i := 15) rfl (by kernel_rfl) (by rfl) (fun K hK => ?_)
      refine wp_store_blk 46 (.tmp 8) (.tmp 23) rfl g3 cs rfl rfl 46 _ (HZ3.out.1.below HB.out) k46 (by rw [hcl, List.length_replicate]) hc1 ?_
      intro w9 hz hg
      have hs := HTS2.out _ w9 HB.out hz hg
      have H9 := Lib.hid (And.intro hz ((below_then HZ3.out.2.2.2.1 HZ3.out.2.2.2.2 HB.out).grown hg (Nat.le_trans HZ3.out.2.2.2.2 HB.out.size) (fun k e => by injection e with e; have := HZ3.out.2.2.1; omega)))
      have HS9 := Lib.hid hs
      clear hz hg hs
      have hHeld := HS9.out
      refine hK.out _ _ (HS9.out) ?_
      clear hK K
      (try simp only [Act.put]); (try simp only [List.setIfInBounds_toArray]); (try simp only [List.set_cons_succ]); (try simp only [List.set_cons_zero])
      refine wpAnyH_done (by kernel_rfl) ?_ _
      go_wp2
      exact bodyPost_ret (results_blk rfl _ _ g3 46 cs _ rfl H9.out.1 u46 rfl k46) rfl ⟨rfl, H9.out.2⟩
    · skip
      go_simp
      refine (uint_any n pb _ _ pb _ (by have := HT.out; omega) HW.out (by simp)).mono ?_
      rintro e wc ⟨rfl, v, hW, hx⟩
      try have HA := Lib.hid (HA.out.step hx HW.out)
      have HB := Lib.hid (HB.out.trans (hx.below HP.out HB.out.size (fun q e => Nat.le_trans HP.out (HW.out.own.lt q e).1)))
      have HW := Lib.hid hW
      clear hW hx
      go_wp2_with fail
      have hHeld := HTS.out _ HB.out
      refine hK.out _ _ (HTS.out _ HB.out) ?_
      clear hK K
      try simp only [Act.put, List.setIfInBounds_toArray, List.set_cons_zero, List.set_cons_succ]
      refine held_two (i := 0) (j := 6) rfl rfl (by kernel_rfl) (by rfl) (by rfl) (fun K hK => ?_) (fun K hK => ?_)
      · skip
        go_simp
        first
          | (have HA := Lib.hid (lit_alloc _ w0.heap.size _ 7 HB.out.size (fun q e => (HW.out.own.lt q e).2)); have HW := Lib.hid (HW.out.alloc (.cells #[.int .u8 7] 5)); have HB := Lib.hid (HB.out.alloc HB.out.size (.cells #[.int .u8 7] 5)))
          | (have HA := Lib.hid (lit_alloc wc w0.heap.size (.slice none 0 0) 7 HB.out.size (by simp [Value.ownBlock])); have HB := Lib.hid (HB.out.alloc HB.out.size (.cells #[.int .u8 7] 5)))
          | (have HA := Lib.hid ((lit_alloc w0 w0.heap.size (.slice none 0 0) 7 (Nat.le_refl _) (by simp [Value.ownBlock])).below (refl_drewN _ 1)); have HB := Lib.hid (((Below.refl w0.heap.size w0).alloc (Nat.le_refl _) (.cells #[.int .u8 7] 5)).drew))
        have hHeld := HTS.out _ HB.out
        refine hK.out _ _ (HTS.out _ HB.out) ?_
        clear hK K
        (try simp only [Act.put]); (try simp only [List.setIfInBounds_toArray]); (try simp only [List.set_cons_succ]); (try simp only [List.set_cons_zero])
        refine held_step (i := 6) rfl (by kernel_rfl) (by rfl) (fun K hK => ?_)
        go_simp
        refine (hash_to csa a pb _ _ pb _ HT.out.2.2.1 HT.out.1 HW.out (by have := HT.out; have := HV.out; simp only [List.length_append, List.length_nil]; omega)).mono ?_
        rintro e wc ⟨rfl, v, hW, hx⟩
        try have HA := Lib.hid (HA.out.step hx HW.out)
        have HB := Lib.hid (HB.out.trans (hx.below HP.out HB.out.size (fun q e => Nat.le_trans HP.out (HW.out.own.lt q e).1)))
        have HW := Lib.hid hW
        clear hW hx
        go_wp2_with fail
        have hHeld := HTS.out _ HB.out
        refine hK.out _ _ (HTS.out _ HB.out) ?_
        clear hK K
        try simp only [Act.put, List.setIfInBounds_toArray, List.set_cons_zero, List.set_cons_succ]
        refine held_step (i := 9) rfl (by kernel_rfl) (by rfl) (fun K hK => ?_)
        go_simp
        refine (uint_any m pb _ _ pb _ (by have := HT.out; omega) HW.out (by have := HT.out; have := HV.out; simp only [List.length_append, List.length_nil]; omega)).mono ?_
        rintro e wc ⟨rfl, v, hW, hx⟩
        try have HA := Lib.hid (HA.out.step hx HW.out)
        have HB := Lib.hid (HB.out.trans (hx.below HP.out HB.out.size (fun q e => Nat.le_trans HP.out (HW.out.own.lt q e).1)))
        have HW := Lib.hid hW
        clear hW hx
        go_wp2_with fail
        have hHeld := HTS.out _ HB.out
        refine hK.out _ _ (HTS.out _ HB.out) ?_
        clear hK K
        try simp only [Act.put, List.setIfInBounds_toArray, List.set_cons_zero, List.set_cons_succ]
        refine held_step (i := 11) rfl (by kernel_rfl) (by rfl) (fun K hK => ?_)
        go_simp
        refine (hash_to csb b pb _ _ pb _ HT.out.2.2.2.1 HT.out.2.1 HW.out (by have := HT.out; have := HV.out; simp only [List.length_append, List.length_nil]; omega)).mono ?_
        rintro e wc ⟨rfl, v, hW, hx⟩
        try have HA := Lib.hid (HA.out.step hx HW.out)
        have HB := Lib.hid (HB.out.trans (hx.below HP.out HB.out.size (fun q e => Nat.le_trans HP.out (HW.out.own.lt q e).1)))
        have HW := Lib.hid hW
        clear hW hx
        go_wp2_with fail
        have hHeld := HTS.out _ HB.out
        refine hK.out _ _ (HTS.out _ HB.out) ?_
        clear hK K
        try simp only [Act.put, List.setIfInBounds_toArray, List.set_cons_zero, List.set_cons_succ]
        refine held_step (i := 12) rfl (by kernel_rfl) (by rfl) (fun K hK => ?_)
        go_simp
        refine (done_to pb _ _ N pb _ HW.out HN.out.1 (by have := HN.out.2; omega)).mono ?_
        rintro e wc ⟨A5, c5, rfl, hr, hb⟩
        try have HA := Lib.hid (HA.out.below hb)
        have HB := Lib.hid (below_then HB.out HB.out.size hb)
        have HR := Lib.hid hr
        clear hr hb
        go_wp2_with fail
        have hHeld := HTS.out _ HB.out
        refine hK.out _ _ (HTS.out _ HB.out) ?_
        clear hK K
        try simp only [Act.put, List.setIfInBounds_toArray, List.set_cons_zero, List.set_cons_succ]
        refine held_step (i := 13) rfl (by kernel_rfl) (by rfl) (fun K hK => ?_)
        first
          | refine wp_app0 tBp (.tmp 9) (.tmp 21) rfl w0.heap.size _ 1 [B 7] rfl HA.out.own A5 N c5 _ rfl HR.out (by rw [List.length_map, HN.out.1, Nat.mul_one]) one_bytes HN.out.2.2.1 HN.out.2.2.2 HB.out.size ?_
          | refine wp_app0 tBp (.tmp 9) (.tmp 21) rfl w0.heap.size _ 1 [B 7] rfl HA.out.own A5 N c5 _ rfl (HR.out.below ((Below.refl _ _).alloc (Nat.le_refl _) (.cells #[.int .u8 7] 5))) (by rw [List.length_map, HN.out.1, Nat.mul_one]) one_bytes HN.out.2.2.1 HN.out.2.2.2 HB.out.size ?_
        intro v6 wc ho6 hx6
        obtain ⟨A6, c6, rfl, hc6, hr6, _⟩ := own_slice ho6
        have HB := Lib.hid (HB.out.grown hx6.grown HB.out.size (fun q e => (HA.out.own.lt q e).1))
        have HR6 := Lib.hid (And.intro hr6 hc6)
        clear hr6 hc6 ho6 hx6
        have hHeld := HTS.out _ HB.out
        refine hK.out _ _ (HTS.out _ HB.out) ?_
        clear hK K
        (try simp only [Act.put]); (try simp only [List.setIfInBounds_toArray]); (try simp only [List.set_cons_succ]); (try simp only [List.set_cons_zero])
        refine held_step (i := 14) rfl (by kernel_rfl) (by rfl) (fun K hK => ?_)
        go_simp
        refine (hsum_to A6 c6 (1 + N) (7 :: (varint n ++ (a ++ (varint m ++ b)))) cs _ w0 HN1.out HB.out HR6.out.2 (by have := HN.out.2.1; omega) HT.out.2.2.2.2.1 (by have h := HR6.out.1; simpa using h) HS.out).mono ?_
        rintro e wc ⟨rfl, hb⟩
        have HB := Lib.hid (below_then HB.out HB.out.size hb)
        clear hb
        go_wp2_with fail
        have hHeld := HTS.out _ HB.out
        refine hK.out _ _ (HTS.out _ HB.out) ?_
        clear hK K
        try simp only [Act.put, List.setIfInBounds_toArray, List.set_cons_zero, List.set_cons_succ]
        refine held_step (i := 15) rfl (by kernel_rfl) (by rfl) (fun K hK => ?_)
        refine wp_store_blk 46 (.tmp 8) (.tmp 23) rfl g3 cs rfl rfl 46 _ (HZ3.out.1.below HB.out) k46 (by rw [hcl, List.length_replicate]) hc1 ?_
        intro w9 hz hg
        have hs := HTS2.out _ w9 HB.out hz hg
        have H9 := Lib.hid (And.intro hz ((below_then HZ3.out.2.2.2.1 HZ3.out.2.2.2.2 HB.out).grown hg (Nat.le_trans HZ3.out.2.2.2.2 HB.out.size) (fun k e => by injection e with e; have := HZ3.out.2.2.1; omega)))
        have HS9 := Lib.hid hs
        clear hz hg hs
        have hHeld := HS9.out
        refine hK.out _ _ (HS9.out) ?_
        clear hK K
        (try simp only [Act.put]); (try simp only [List.setIfInBounds_toArray]); (try simp only [List.set_cons_succ]); (try simp only [List.set_cons_zero])
        refine wpAnyH_done (by kernel_rfl) ?_ _
        go_wp2
        exact bodyPost_ret (results_blk rfl _ _ g3 46 cs _ rfl H9.out.1 u46 rfl k46) rfl ⟨rfl, H9.out.2⟩
      · skip
        go_simp
        refine (hash_to csa a pb _ _ pb _ HT.out.2.2.1 HT.out.1 HW.out (by have := HT.out; have := HV.out; simp only [List.length_append, List.length_nil]; omega)).mono ?_
        rintro e wc ⟨rfl, v, hW, hx⟩
        try have HA := Lib.hid (HA.out.step hx HW.out)
        have HB := Lib.hid (HB.out.trans (hx.below HP.out HB.out.size (fun q e => Nat.le_trans HP.out (HW.out.own.lt q e).1)))
        have HW := Lib.hid hW
        clear hW hx
        go_wp2_with fail
        have hHeld := HTS.out _ HB.out
        refine hK.out _ _ (HTS.out _ HB.out) ?_
        clear hK K
        try simp only [Act.put, List.setIfInBounds_toArray, List.set_cons_zero, List.set_cons_succ]
        refine held_two (i := 0) (j := 9) rfl rfl (by kernel_rfl) (by rfl) (by rfl) (fun K hK => ?_) (fun K hK => ?_)
        · skip
          go_simp
          first
            | (have HA := Lib.hid (lit_alloc _ w0.heap.size _ 7 HB.out.size (fun q e => (HW.out.own.lt q e).2)); have HW := Lib.hid (HW.out.alloc (.cells #[.int .u8 7] 5)); have HB := Lib.hid (HB.out.alloc HB.out.size (.cells #[.int .u8 7] 5)))
            | (have HA := Lib.hid (lit_alloc wc w0.heap.size (.slice none 0 0) 7 HB.out.size (by simp [Value.ownBlock])); have HB := Lib.hid (HB.out.alloc HB.out.size (.cells #[.int .u8 7] 5)))
            | (have HA := Lib.hid ((lit_alloc w0 w0.heap.size (.slice none 0 0) 7 (Nat.le_refl _) (by simp [Value.ownBlock])).below (refl_drewN _ 1)); have HB := Lib.hid (((Below.refl w0.heap.size w0).alloc (Nat.le_refl _) (.cells #[.int .u8 7] 5)).drew))
          have hHeld := HTS.out _ HB.out
          refine hK.out _ _ (HTS.out _ HB.out) ?_
          clear hK K
          (try simp only [Act.put]); (try simp only [List.setIfInBounds_toArray]); (try simp only [List.set_cons_succ]); (try simp only [List.set_cons_zero])
          refine held_step (i := 9) rfl (by kernel_rfl) (by rfl) (fun K hK => ?_)
          go_simp
          refine (uint_any m pb _ _ pb _ (by have := HT.out; omega) HW.out (by have := HT.out; have := HV.out; simp only [List.length_append, List.length_nil]; omega)).mono ?_
          rintro e wc ⟨rfl, v, hW, hx⟩
          try have HA := Lib.hid (HA.out.step hx HW.out)
          have HB := Lib.hid (HB.out.trans (hx.below HP.out HB.out.size (fun q e => Nat.le_trans HP.out (HW.out.own.lt q e).1)))
          have HW := Lib.hid hW
          clear hW hx
          go_wp2_with fail
          have hHeld := HTS.out _ HB.out
          refine hK.out _ _ (HTS.out _ HB.out) ?_
          clear hK K
          try simp only [Act.put, List.setIfInBounds_toArray, List.set_cons_zero, List.set_cons_succ]
          refine held_step (i := 11) rfl (by kernel_rfl) (by rfl) (fun K hK => ?_)
          go_simp
          refine (hash_to csb b pb _ _ pb _ HT.out.2.2.2.1 HT.out.2.1 HW.out (by have := HT.out; have := HV.out; simp only [List.length_append, List.length_nil]; omega)).mono ?_
          rintro e wc ⟨rfl, v, hW, hx⟩
          try have HA := Lib.hid (HA.out.step hx HW.out)
          have HB := Lib.hid (HB.out.trans (hx.below HP.out HB.out.size (fun q e => Nat.le_trans HP.out (HW.out.own.lt q e).1)))
          have HW := Lib.hid hW
          clear hW hx
          go_wp2_with fail
          have hHeld := HTS.out _ HB.out
          refine hK.out _ _ (HTS.out _ HB.out) ?_
          clear hK K
          try simp only [Act.put, List.setIfInBounds_toArray, List.set_cons_zero, List.set_cons_succ]
          refine held_step (i := 12) rfl (by kernel_rfl) (by rfl) (fun K hK => ?_)
          go_simp
          refine (done_to pb _ _ N pb _ HW.out HN.out.1 (by have := HN.out.2; omega)).mono ?_
          rintro e wc ⟨A5, c5, rfl, hr, hb⟩
          try have HA := Lib.hid (HA.out.below hb)
          have HB := Lib.hid (below_then HB.out HB.out.size hb)
          have HR := Lib.hid hr
          clear hr hb
          go_wp2_with fail
          have hHeld := HTS.out _ HB.out
          refine hK.out _ _ (HTS.out _ HB.out) ?_
          clear hK K
          try simp only [Act.put, List.setIfInBounds_toArray, List.set_cons_zero, List.set_cons_succ]
          refine held_step (i := 13) rfl (by kernel_rfl) (by rfl) (fun K hK => ?_)
          first
            | refine wp_app0 tBp (.tmp 9) (.tmp 21) rfl w0.heap.size _ 1 [B 7] rfl HA.out.own A5 N c5 _ rfl HR.out (by rw [List.length_map, HN.out.1, Nat.mul_one]) one_bytes HN.out.2.2.1 HN.out.2.2.2 HB.out.size ?_
            | refine wp_app0 tBp (.tmp 9) (.tmp 21) rfl w0.heap.size _ 1 [B 7] rfl HA.out.own A5 N c5 _ rfl (HR.out.below ((Below.refl _ _).alloc (Nat.le_refl _) (.cells #[.int .u8 7] 5))) (by rw [List.length_map, HN.out.1, Nat.mul_one]) one_bytes HN.out.2.2.1 HN.out.2.2.2 HB.out.size ?_
          intro v6 wc ho6 hx6
          obtain ⟨A6, c6, rfl, hc6, hr6, _⟩ := own_slice ho6
          have HB := Lib.hid (HB.out.grown hx6.grown HB.out.size (fun q e => (HA.out.own.lt q e).1))
          have HR6 := Lib.hid (And.intro hr6 hc6)
          clear hr6 hc6 ho6 hx6
          have hHeld := HTS.out _ HB.out
          refine hK.out _ _ (HTS.out _ HB.out) ?_
          clear hK K
          (try simp only [Act.put]); (try simp only [List.setIfInBounds_toArray]); (try simp only [List.set_cons_succ]); (try simp only [List.set_cons_zero])
          refine held_step (i := 14) rfl (by kernel_rfl) (by rfl) (fun K hK => ?_)
          go_simp
          refine (hsum_to A6 c6 (1 + N) (7 :: (varint n ++ (a ++ (varint m ++ b)))) cs _ w0 HN1.out HB.out HR6.out.2 (by have := HN.out.2.1; omega) HT.out.2.2.2.2.1 (by have h := HR6.out.1; simpa using h) HS.out).mono ?_
          rintro e wc ⟨rfl, hb⟩
          have HB := Lib.hid (below_then HB.out HB.out.size hb)
          clear hb
          go_wp2_with fail
          have hHeld := HTS.out _ HB.out
          refine hK.out _ _ (HTS.out _ HB.out) ?_
          clear hK K
          try simp only [Act.put, List.setIfInBounds_toArray, List.set_cons_zero, List.set_cons_succ]
          refine held_step (i := 15) rfl (by kernel_rfl) (by rfl) (fun K hK => ?_)
          refine wp_store_blk 46 (.tmp 8) (.tmp 23) rfl g3 cs rfl rfl 46 _ (HZ3.out.1.below HB.out) k46 (by rw [hcl, List.length_replicate]) hc1 ?_
          intro w9 hz hg
          have hs := HTS2.out _ w9 HB.out hz hg
          have H9 := Lib.hid (And.intro hz ((below_then HZ3.out.2.2.2.1 HZ3.out.2.2.2.2 HB.out).grown hg (Nat.le_trans HZ3.out.2.2.2.2 HB.out.size) (fun k e => by injection e with e; have := HZ3.out.2.2.1; omega)))
          have HS9 := Lib.hid hs
          clear hz hg hs
          have hHeld := HS9.out
          refine hK.out _ _ (HS9.out) ?_
          clear hK K
          (try simp only [Act.put]); (try simp only [List.setIfInBounds_toArray]); (try simp only [List.set_cons_succ]); (try simp only [List.set_cons_zero])
          refine wpAnyH_done (by kernel_rfl) ?_ _
          go_wp2
          exact bodyPost_ret (results_blk rfl _ _ g3 46 cs _ rfl H9.out.1 u46 rfl k46) rfl ⟨rfl, H9.out.2⟩
        · skip
          go_simp
          refine (uint_any m pb _ _ pb _ (by have := HT.out; omega) HW.out (by have := HT.out; have := HV.out; simp only [List.length_append, List.length_nil]; omega)).mono ?_
          rintro e wc ⟨rfl, v, hW, hx⟩
          try have HA := Lib.hid (HA.out.step hx HW.out)
          have HB := Lib.hid (HB.out.trans (hx.below HP.out HB.out.size (fun q e => Nat.le_trans HP.out (HW.out.own.lt q e).1)))
          have HW := Lib.hid hW
          clear hW hx
          go_wp2_with fail
          have hHeld := HTS.out _ HB.out
          refine hK.out _ _ (HTS.out _ HB.out) ?_
          clear hK K
          try simp only [Act.put, List.setIfInBounds_toArray, List.set_cons_zero, List.set_cons_succ]
          refine held_two (i := 0) (j := 11) rfl rfl (by kernel_rfl) (by rfl) (by rfl) (fun K hK => ?_) (fun K hK => ?_)
          · skip
            go_simp
            first
              | (have HA := Lib.hid (lit_alloc _ w0.heap.size _ 7 HB.out.size (fun q e => (HW.out.own.lt q e).2)); have HW := Lib.hid (HW.out.alloc (.cells #[.int .u8 7] 5)); have HB := Lib.hid (HB.out.alloc HB.out.size (.cells #[.int .u8 7] 5)))
              | (have HA := Lib.hid (lit_alloc wc w0.heap.size (.slice none 0 0) 7 HB.out.size (by simp [Value.ownBlock])); have HB := Lib.hid (HB.out.alloc HB.out.size (.cells #[.int .u8 7] 5)))
              | (have HA := Lib.hid ((lit_alloc w0 w0.heap.size (.slice none 0 0) 7 (Nat.le_refl _) (by simp [Value.ownBlock])).below (refl_drewN _ 1)); have HB := Lib.hid (((Below.refl w0.heap.size w0).alloc (Nat.le_refl _) (.cells #[.int .u8 7] 5)).drew))
            have hHeld := HTS.out _ HB.out
            refine hK.out _ _ (HTS.out _ HB.out) ?_
            clear hK K
            (try simp only [Act.put]); (try simp only [List.setIfInBounds_toArray]); (try simp only [List.set_cons_succ]); (try simp only [List.set_cons_zero])
            refine held_step (i := 11) rfl (by kernel_rfl) (by rfl) (fun K hK => ?_)
            go_simp
            refine (hash_to csb b pb _ _ pb _ HT.out.2.2.2.1 HT.out.2.1 HW.out (by have := HT.out; have := HV.out; simp only [List.length_append, List.length_nil]; omega)).mono ?_
            rintro e wc ⟨rfl, v, hW, hx⟩
            try have HA := Lib.hid (HA.out.step hx HW.out)
            have HB := Lib.hid (HB.out.trans (hx.below HP.out HB.out.size (fun q e => Nat.le_trans HP.out (HW.out.own.lt q e).1)))
            have HW := Lib.hid hW
            clear hW hx
            go_wp2_with fail
            have hHeld := HTS.out _ HB.out
            refine hK.out _ _ (HTS.out _ HB.out) ?_
            clear hK K
            try simp only [Act.put, List.setIfInBounds_toArray, List.set_cons_zero, List.set_cons_succ]
            refine held_step (i := 12) rfl (by kernel_rfl) (by rfl) (fun K hK => ?_)
            go_simp
            refine (done_to pb _ _ N pb _ HW.out HN.out.1 (by have := HN.out.2; omega)).mono ?_
            rintro e wc ⟨A5, c5, rfl, hr, hb⟩
            try have HA := Lib.hid (HA.out.below hb)
            have HB := Lib.hid (below_then HB.out HB.out.size hb)
            have HR := Lib.hid hr
            clear hr hb
            go_wp2_with fail
            have hHeld := HTS.out _ HB.out
            refine hK.out _ _ (HTS.out _ HB.out) ?_
            clear hK K
            try simp only [Act.put, List.setIfInBounds_toArray, List.set_cons_zero, List.set_cons_succ]
            refine held_step (i := 13) rfl (by kernel_rfl) (by rfl) (fun K hK => ?_)
            first
              | refine wp_app0 tBp (.tmp 9) (.tmp 21) rfl w0.heap.size _ 1 [B 7] rfl HA.out.own A5 N c5 _ rfl HR.out (by rw [List.length_map, HN.out.1, Nat.mul_one]) one_bytes HN.out.2.2.1 HN.out.2.2.2 HB.out.size ?_
              | refine wp_app0 tBp (.tmp 9) (.tmp 21) rfl w0.heap.size _ 1 [B 7] rfl HA.out.own A5 N c5 _ rfl (HR.out.below ((Below.refl _ _).alloc (Nat.le_refl _) (.cells #[.int .u8 7] 5))) (by rw [List.length_map, HN.out.1, Nat.mul_one]) one_bytes HN.out.2.2.1 HN.out.2.2.2 HB.out.size ?_
            intro v6 wc ho6 hx6
            obtain ⟨A6, c6, rfl, hc6, hr6, _⟩ := own_slice ho6
            have HB := Lib.hid (HB.out.grown hx6.grown HB.out.size (fun q e => (HA.out.own.lt q e).1))
            have HR6 := Lib.hid (And.intro hr6 hc6)
            clear hr6 hc6 ho6 hx6
            have hHeld := HTS.out _ HB.out
            refine hK.out _ _ (HTS.out _ HB.out) ?_
            clear hK K
            (try simp only [Act.put]); (try simp only [List.setIfInBounds_toArray]); (try simp only [List.set_cons_succ]); (try simp only [List.set_cons_zero])
            refine held_step (i := 14) rfl (by kernel_rfl) (by rfl) (fun K hK => ?_)
            go_simp
            refine (hsum_to A6 c6 (1 + N) (7 :: (varint n ++ (a ++ (varint m ++ b)))) cs _ w0 HN1.out HB.out HR6.out.2 (by have := HN.out.2.1; omega) HT.out.2.2.2.2.1 (by have h := HR6.out.1; simpa using h) HS.out).mono ?_
            rintro e wc ⟨rfl, hb⟩
            have HB := Lib.hid (below_then HB.out HB.out.size hb)
            clear hb
            go_wp2_with fail
            have hHeld := HTS.out _ HB.out
            refine hK.out _ _ (HTS.out _ HB.out) ?_
            clear hK K
            try simp only [Act.put, List.setIfInBounds_toArray, List.set_cons_zero, List.set_cons_succ]
            refine held_step (i := 15) rfl (by kernel_rfl) (by rfl) (fun K hK => ?_)
            refine wp_store_blk 46 (.tmp 8) (.tmp 23) rfl g3 cs rfl rfl 46 _ (HZ3.out.1.below HB.out) k46 (by rw [hcl, List.length_replicate]) hc1 ?_
            intro w9 hz hg
            have hs := HTS2.out _ w9 HB.out hz hg
            have H9 := Lib.hid (And.intro hz ((below_then HZ3.out.2.2.2.1 HZ3.out.2.2.2.2 HB.out).grown hg (Nat.le_trans HZ3.out.2.2.2.2 HB.out.size) (fun k e => by injection e with e; have := HZ3.out.2.2.1; omega)))
            have HS9 := Lib.hid hs
            clear hz hg hs
            have hHeld := HS9.out
            refine hK.out _ _ (HS9.out) ?_
            clear hK K
            (try simp only [Act.put]); (try simp only [List.setIfInBounds_toArray]); (try simp only [List.set_cons_succ]); (try simp only [List.set_cons_zero])
            refine wpAnyH_done (by kernel_rfl) ?_ _
            go_wp2
            exact bodyPost_ret (results_blk rfl _ _ g3 46 cs _ rfl H9.out.1 u46 rfl k46) rfl ⟨rfl, H9.out.2⟩
          · skip
            go_simp
            refine (hash_to csb b pb _ _ pb _ HT.out.2.2.2.1 HT.out.2.1 HW.out (by have := HT.out; have := HV.out; simp only [List.length_append, List.length_nil]; omega)).mono ?_
            rintro e wc ⟨rfl, v, hW, hx⟩
            try have HA := Lib.hid (HA.out.step hx HW.out)
            have HB := Lib.hid (HB.out.trans (hx.below HP.out HB.out.size (fun q e => Nat.le_trans HP.out (HW.out.own.lt q e).1)))
            have HW := Lib.hid hW
            clear hW hx
            go_wp2_with fail
            have hHeld := HTS.out _ HB.out
            refine hK.out _ _ (HTS.out _ HB.out) ?_
            clear hK K
            try simp only [Act.put, List.setIfInBounds_toArray, List.set_cons_zero, List.set_cons_succ]
            refine held_two (i := 0) (j := 12) rfl rfl (by kernel_rfl) (by rfl) (by rfl) (fun K hK => ?_) (fun K hK => ?_)
            · skip
              go_simp
              first
                | (have HA := Lib.hid (lit_alloc _ w0.heap.size _ 7 HB.out.size (fun q e => (HW.out.own.lt q e).2)); have HW := Lib.hid (HW.out.alloc (.cells #[.int .u8 7] 5)); have HB := Lib.hid (HB.out.alloc HB.out.size (.cells #[.int .u8 7] 5)))
                | (have HA := Lib.hid (lit_alloc wc w0.heap.size (.slice none 0 0) 7 HB.out.size (by simp [Value.ownBlock])); have HB := Lib.hid (HB.out.alloc HB.out.size (.cells #[.int .u8 7] 5)))
                | (have HA := Lib.hid ((lit_alloc w0 w0.heap.size (.slice none 0 0) 7 (Nat.le_refl _) (by simp [Value.ownBlock])).below (refl_drewN _ 1)); have HB := Lib.hid (((Below.refl w0.heap.size w0).alloc (Nat.le_refl _) (.cells #[.int .u8 7] 5)).drew))
              have hHeld := HTS.out _ HB.out
              refine hK.out _ _ (HTS.out _ HB.out) ?_
              clear hK K
              (try simp only [Act.put]); (try simp only [List.setIfInBounds_toArray]); (try simp only [List.set_cons_succ]); (try simp only [List.set_cons_zero])
              refine held_step (i := 12) rfl (by kernel_rfl) (by rfl) (fun K hK => ?_)
              go_simp
              refine (done_to pb _ _ N pb _ HW.out HN.out.1 (by have := HN.out.2; omega)).mono ?_
              rintro e wc ⟨A5, c5, rfl, hr, hb⟩
              try have HA := Lib.hid (HA.out.below hb)
              have HB := Lib.hid (below_then HB.out HB.out.size hb)
              have HR := Lib.hid hr
              clear hr hb
              go_wp2_with fail
              have hHeld := HTS.out _ HB.out
              refine hK.out _ _ (HTS.out _ HB.out) ?_
              clear hK K
              try simp only [Act.put, List.setIfInBounds_toArray, List.set_cons_zero, List.set_cons_succ]
              refine held_step (i := 13) rfl (by kernel_rfl) (by rfl) (fun K hK => ?_)
              first
                | refine wp_app0 tBp (.tmp 9) (.tmp 21) rfl w0.heap.size _ 1 [B 7] rfl HA.out.own A5 N c5 _ rfl HR.out (by rw [List.length_map, HN.out.1, Nat.mul_one]) one_bytes HN.out.2.2.1 HN.out.2.2.2 HB.out.size ?_
                | refine wp_app0 tBp (.tmp 9) (.tmp 21) rfl w0.heap.size _ 1 [B 7] rfl HA.out.own A5 N c5 _ rfl (HR.out.below ((Below.refl _ _).alloc (Nat.le_refl _) (.cells #[.int .u8 7] 5))) (by rw [List.length_map, HN.out.1, Nat.mul_one]) one_bytes HN.out.2.2.1 HN.out.2.2.2 HB.out.size ?_
              intro v6 wc ho6 hx6
              obtain ⟨A6, c6, rfl, hc6, hr6, _⟩ := own_slice ho6
              have HB := Lib.hid (HB.out.grown hx6.grown HB.out.size (fun q e => (HA.out.own.lt q e).1))
              have HR6 := Lib.hid (And.intro hr6 hc6)
              clear hr6 hc6 ho6 hx6
              have hHeld := HTS.out _ HB.out
              refine hK.out _ _ (HTS.out _ HB.out) ?_
              clear hK K
              (try simp only [Act.put]); (try simp only [List.setIfInBounds_toArray]); (try simp only [List.set_cons_succ]); (try simp only [List.set_cons_zero])
              refine held_step (i := 14) rfl (by kernel_rfl) (by rfl) (fun K hK => ?_)
              go_simp
              refine (hsum_to A6 c6 (1 + N) (7 :: (varint n ++ (a ++ (varint m ++ b)))) cs _ w0 HN1.out HB.out HR6.out.2 (by have := HN.out.2.1; omega) HT.out.2.2.2.2.1 (by have h := HR6.out.1; simpa using h) HS.out).mono ?_
              rintro e wc ⟨rfl, hb⟩
              have HB := Lib.hid (below_then HB.out HB.out.size hb)
              clear hb
              go_wp2_with fail
              have hHeld := HTS.out _ HB.out
              refine hK.out _ _ (HTS.out _ HB.out) ?_
              clear hK K
              try simp only [Act.put, List.setIfInBounds_toArray, List.set_cons_zero, List.set_cons_succ]
              refine held_step (i := 15) rfl (by kernel_rfl) (by rfl) (fun K hK => ?_)
              refine wp_store_blk 46 (.tmp 8) (.tmp 23) rfl g3 cs rfl rfl 46 _ (HZ3.out.1.below HB.out) k46 (by rw [hcl, List.length_replicate]) hc1 ?_
              intro w9 hz hg
              have hs := HTS2.out _ w9 HB.out hz hg
              have H9 := Lib.hid (And.intro hz ((below_then HZ3.out.2.2.2.1 HZ3.out.2.2.2.2 HB.out).grown hg (Nat.le_trans HZ3.out.2.2.2.2 HB.out.size) (fun k e => by injection e with e; have := HZ3.out.2.2.1; omega)))
              have HS9 := Lib.hid hs
              clear hz hg hs
              have hHeld := HS9.out
              refine hK.out _ _ (HS9.out) ?_
              clear hK K
              (try simp only [Act.put]); (try simp only [List.setIfInBounds_toArray]); (try simp only [List.set_cons_succ]); (try simp only [List.set_cons_zero])
              refine wpAnyH_done (by kernel_rfl) ?_ _
              go_wp2
              exact bodyPost_ret (results_blk rfl _ _ g3 46 cs _ rfl H9.out.1 u46 rfl k46) rfl ⟨rfl, H9.out.2⟩
            · skip
              go_simp
              refine (done_to pb _ _ N pb _ HW.out HN.out.1 (by have := HN.out.2; omega)).mono ?_
              rintro e wc ⟨A5, c5, rfl, hr, hb⟩
              try have HA := Lib.hid (HA.out.below hb)
              have HB := Lib.hid (below_then HB.out HB.out.size hb)
              have HR := Lib.hid hr
              clear hr hb
              go_wp2_with fail
              have hHeld := HTS.out _ HB.out
              refine hK.out _ _ (HTS.out _ HB.out) ?_
              clear hK K
              try simp only [Act.put, List.setIfInBounds_toArray, List.set_cons_zero, List.set_cons_succ]
              refine held_step (i := 0) rfl (by kernel_rfl) (by rfl) (fun K hK => ?_)
              go_simp
              first
                | (have HA := Lib.hid (lit_alloc _ w0.heap.size _ 7 HB.out.size (fun q e => (HW.out.own.lt q e).2)); have HW := Lib.hid (HW.out.alloc (.cells #[.int .u8 7] 5)); have HB := Lib.hid (HB.out.alloc HB.out.size (.cells #[.int .u8 7] 5)))
                | (have HA := Lib.hid (lit_alloc wc w0.heap.size (.slice none 0 0) 7 HB.out.size (by simp [Value.ownBlock])); have HB := Lib.hid (HB.out.alloc HB.out.size (.cells #[.int .u8 7] 5)))
                | (have HA := Lib.hid ((lit_alloc w0 w0.heap.size (.slice none 0 0) 7 (Nat.le_refl _) (by simp [Value.ownBlock])).below (refl_drewN _ 1)); have HB := Lib.hid (((Below.refl w0.heap.size w0).alloc (Nat.le_refl _) (.cells #[.int .u8 7] 5)).drew))
              have hHeld := HTS.out _ HB.out
              refine hK.out _ _ (HTS.out _ HB.out) ?_
              clear hK K
              (try simp only [Act.put]); (try simp only [List.setIfInBounds_toArray]); (try simp only [List.set_cons_succ]); (try simp only [List.set_cons_zero])
              refine held_step (i := 13) rfl (by kernel_rfl) (by rfl) (fun K hK => ?_)
              first
                | refine wp_app0 tBp (.tmp 9) (.tmp 21) rfl w0.heap.size _ 1 [B 7] rfl HA.out.own A5 N c5 _ rfl HR.out (by rw [List.length_map, HN.out.1, Nat.mul_one]) one_bytes HN.out.2.2.1 HN.out.2.2.2 HB.out.size ?_
                | refine wp_app0 tBp (.tmp 9) (.tmp 21) rfl w0.heap.size _ 1 [B 7] rfl HA.out.own A5 N c5 _ rfl (HR.out.below ((Below.refl _ _).alloc (Nat.le_refl _) (.cells #[.int .u8 7] 5))) (by rw [List.length_map, HN.out.1, Nat.mul_one]) one_bytes HN.out.2.2.1 HN.out.2.2.2 HB.out.size ?_
              intro v6 wc ho6 hx6
              obtain ⟨A6, c6, rfl, hc6, hr6, _⟩ := own_slice ho6
              have HB := Lib.hid (HB.out.grown hx6.grown HB.out.size (fun q e => (HA.out.own.lt q e).1))
              have HR6 := Lib.hid (And.intro hr6 hc6)
              clear hr6 hc6 ho6 hx6
              have hHeld := HTS.out _ HB.out
              refine hK.out _ _ (HTS.out _ HB.out) ?_
              clear hK K
              (try simp only [Act.put]); (try simp only [List.setIfInBounds_toArray]); (try simp only [List.set_cons_succ]); (try simp only [List.set_cons_zero])
              refine held_step (i := 14) rfl (by kernel_rfl) (by rfl) (fun K hK => ?_)
              go_simp
              refine (hsum_to A6 c6 (1 + N) (7 :: (varint n ++ (a ++ (varint m ++ b)))) cs _ w0 HN1.out HB.out HR6.out.2 (by have := HN.out.2.1; omega) HT.out.2.2.2.2.1 (by have h := HR6.out.1; simpa using h) HS.out).mono ?_
              rintro e wc ⟨rfl, hb⟩
              have HB := Lib.hid (below_then HB.out HB.out.size hb)
              clear hb
              go_wp2_with fail
              have hHeld := HTS.out _ HB.out
              refine hK.out _ _ (HTS.out _ HB.out) ?_
              clear hK K
              try simp only [Act.put, List.setIfInBounds_toArray, List.set_cons_zero, List.set_cons_succ]
              refine held_step (i := 15) rfl (by kernel_rfl) (by rfl) (fun K hK => ?_)
              refine wp_store_blk 46 (.tmp 8) (.tmp 23) rfl g3 cs rfl rfl 46 _ (HZ3.out.1.below HB.out) k46 (by rw [hcl, List.length_replicate]) hc1 ?_
              intro w9 hz hg
              have hs := HTS2.out _ w9 HB.out hz hg
              have H9 := Lib.hid (And.intro hz ((below_then HZ3.out.2.2.2.1 HZ3.out.2.2.2.2 HB.out).grown hg (Nat.le_trans HZ3.out.2.2.2.2 HB.out.size) (fun k e => by injection e with e; have := HZ3.out.2.2.1; omega)))
              have HS9 := Lib.hid hs
              clear hz hg hs
              have hHeld := HS9.out
              refine hK.out _ _ (HS9.out) ?_
              clear hK K
              (try simp only [Act.put]); (try simp only [List.setIfInBounds_toArray]); (try simp only [List.set_cons_succ]); (try simp only [List.set_cons_zero])
              refine wpAnyH_done (by kernel_rfl) ?_ _
              go_wp2
              exact bodyPost_ret (results_blk rfl _ _ g3 46 cs _ rfl H9.out.1 u46 rfl k46) rfl ⟨rfl, H9.out.2⟩
end Go.Proofs.YtdekealpachhmaaDoor
