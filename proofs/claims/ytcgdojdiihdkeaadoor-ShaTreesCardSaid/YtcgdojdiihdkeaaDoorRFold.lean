/- Layer 1's reference: Steps, fold, Fold by their contracts; sha.Fold's errors. -/
import Derived.Test.YtcgdojdiihdkeaaDoorRPath
import Derived.Test.YtcgdojdiihdkeaaDoorReg
namespace Go.Proofs.YtcgdojdiihdkeaaDoor
open Go Go.RowKit Go.Isth

set_option maxHeartbeats 1000000 in
theorem rsteps_any (i n : Nat) (hi : i < n) (hn : n ≤ 1000000) (w : World) :
    Calls Tryd.prog 74 #[.int .i64 i, .int .i64 n] w fun e w' => e = .returned (.int .i64 ((turnsG i n).length : Nat)) ∧ w = w' := by
  have HT := Lib.hid (And.intro hi hn)
  have hle0 := turnsG_le n i
  have hnI : (n : Int) ≤ 1000000 := by omega
  have HL := Lib.hid hle0
  clear hi hn hle0
  go_enter Tryd.func74, Tryd.ntmps74
  go_wp2_with fail
  go_loopw [0, 1, 5] (fun vi vn vs wr => w = wr ∧ ∃ j m s : Nat, vi = .int .i64 (j : Nat) ∧ vn = .int .i64 (m : Nat) ∧ vs = .int .i64 (s : Nat) ∧ j < m ∧ m ≤ n ∧ s + (turnsG j m).length = (turnsG i n).length) (fun _ vn _ _ => (intOf vn).toNat)
  case atStart => exact ⟨rfl, i, n, 0, rfl, rfl, rfl, HT.out.1, Nat.le_refl _, by omega⟩
  case round =>
    obtain ⟨rfl, j, m, s, rfl, rfl, rfl, hj, hm, heq⟩ := hrel
    have hs : (s : Int) ≤ 1000000 := by have := HL.out; have := HT.out; omega
    have hmI : (m : Int) ≤ 1000000 := by omega
    have hjI : (j : Int) ≤ 1000000 := by omega
    by_cases h1 : 1 < m
    · have h1i : (1 : Int) < (m : Int) := by omega
      have HN := Lib.hid h1
      have HS := Lib.hid (And.intro hj (And.intro hm heq))
      clear hj hm heq h1
      have hk1 := halfN_lt HN.out
      have hk0 := halfN_pos m
      obtain ⟨q, hgen⟩ : ∃ q, halfN m = q := ⟨_, rfl⟩
      rw [hgen] at hk1 hk0
      have HKK := Lib.hid (And.intro hk0 hk1)
      have HG := Lib.hid hgen
      clear hgen hk0 hk1
      by_cases hk : q ≤ j
      · have HK := Lib.hid hk
        have e0 : ¬ (j : Int) < (q : Int) := by omega
        have e1 : (j : Int) - (q : Int) = ((j - q : Nat) : Int) := by omega
        have e2 : (m : Int) - (q : Int) = ((m - q : Nat) : Int) := by have := HKK.out; omega
        have e3 : wrap64 ((j - q : Nat) : Int) = ((j - q : Nat) : Int) := IntWalk.wrap64_in _ ⟨by omega, by have := HT.out; have := HS.out; omega⟩
        have e4 : wrap64 ((m - q : Nat) : Int) = ((m - q : Nat) : Int) := IntWalk.wrap64_in _ ⟨by omega, by have := HT.out; have := HS.out; omega⟩
        clear hk
        go_wp2_with (go_at_call 73; refine (rsplit_any m HN.out (by have := HT.out; have := HS.out; omega) _).mono ?_; rintro e w' ⟨rfl, rfl⟩; rw [HG.out])
        go_roundw
        case rel =>
          refine ⟨trivial, j - q, m - q, s + 1, by first | rw [e3] | rfl, by first | rw [e4] | rfl, by go_num, by have := HS.out; have := HK.out; omega, by have := HS.out; omega, ?_⟩
          rw [← HS.out.2.2, turnsG_right HN.out (by rw [HG.out]; exact HK.out), HG.out, List.length_cons]; omega
        case measure => have := HKK.out; first | rw [e4] | skip
                        show ((m - q : Nat) : Int).toNat < ((m : Nat) : Int).toNat; omega
      · have HK := Lib.hid hk
        have e0 : (j : Int) < (q : Int) := by omega
        clear hk
        go_wp2_with (go_at_call 73; refine (rsplit_any m HN.out (by have := HT.out; have := HS.out; omega) _).mono ?_; rintro e w' ⟨rfl, rfl⟩; rw [HG.out])
        go_roundw
        case rel =>
          refine ⟨trivial, j, q, s + 1, rfl, rfl, by go_num, by have := HK.out; omega, by have := HS.out; have := HKK.out; omega, ?_⟩
          rw [← HS.out.2.2, turnsG_left HN.out (by rw [HG.out]; exact HK.out), HG.out, List.length_cons]; omega
        case measure => have := HKK.out; simp [intOf]; omega
    · have h1i : ¬ (1 : Int) < (m : Int) := by omega
      rw [turnsG_one h1] at heq
      have heq2 : s = (turnsG i n).length := by simpa using heq
      have HE := Lib.hid heq2
      clear hj hm heq heq2 h1
      go_wp2_with fail
      go_ret
      exact ⟨by rw [← HE.out]; rfl, rfl⟩
def RFoldCalls (n : Nat) : Prop := ∀ (x : List UInt8) (i : Nat) (A : Option Addr) (c m : Nat) (ps : List (List UInt8)) (csx cso : List Value) (w : World), x.length = 32 → i < n → n ≤ 1000 → m = (turnsG i n).length → ps.length = m → m ≤ c → All32 ps → Rd w A (cellsH ps) → csx = x.map B → cso = (foldH x (turnsG i n).reverse ps).map B →
    Calls Tryd.prog 75 #[.agg csx.toArray, .int .i64 i, .int .i64 n, .slice A m c] w fun e w' => e = .returned (.agg cso.toArray) ∧ Below w.heap.size w w'
set_option maxRecDepth 100000 in
set_option maxHeartbeats 4000000 in
theorem rfold_any : ∀ n, RFoldCalls n := by
  intro n
  induction n using Nat.strongRecOn with
  | _ n ih =>
    intro x i A c m ps csx cso w hx hi hn hm hps hc h32 hr hcx hco
    have hxl : csx.length = 32 := by rw [hcx, List.length_map]; exact hx
    have hol : cso.length = 32 := by rw [hco, List.length_map]; exact foldH_length _ _ _ hx
    have hx1 : ∀ u ∈ csx, u.oneCell' = true := by rw [hcx]; exact one_bytes
    have ho1 : ∀ u ∈ cso, u.oneCell' = true := by rw [hco]; exact one_bytes
    have hix : (Tryd.prog.info? 28).map (·.size) = some csx.length := by rw [hxl]; kernel_rfl
    have hio : (Tryd.prog.info? 28).map (·.size) = some cso.length := by rw [hol]; kernel_rfl
    have hu28 := Tryd.underlying28
    have HLX := Lib.hid (show (some 32 : Option Nat) = some csx.length by rw [hxl])
    have HLO := Lib.hid (show (some 32 : Option Nat) = some cso.length by rw [hol])
    have HT := Lib.hid (And.intro hx (And.intro hi (And.intro hn (And.intro hm (And.intro hps (And.intro hc (And.intro h32 (And.intro hr (And.intro hcx hco)))))))))
    have IH := Lib.hid ih
    clear hx hi hn hm hps hc h32 hr hcx hco ih
    have hb0 : Below w.heap.size w ((w.alloc (.cells csx.toArray 28)).alloc (.cells (List.replicate 32 (B 0)).toArray 28)) := ((Below.refl _ _).alloc (Nat.le_refl _) _).alloc (by simp) _
    have hz1 : Blk ((w.alloc (.cells csx.toArray 28)).alloc (.cells (List.replicate 32 (B 0)).toArray 28)) w.heap.size 28 csx := (Blk_new w _ _).alloc _
    have hz2 : Blk ((w.alloc (.cells csx.toArray 28)).alloc (.cells (List.replicate 32 (B 0)).toArray 28)) (w.heap.size + 1) 28 (List.replicate 32 (B 0)) := by
      have h := Blk_new (w.alloc (.cells csx.toArray 28)) (List.replicate 32 (B 0)) 28
      rwa [World.size_alloc] at h
    have hcase : n = 1 ∨ 1 < n := by have := HT.out.2.1; omega
    go_enter Tryd.func75, Tryd.ntmps75
    go_upto_region 1 with fail
    change Code.wp _ _ _ _ ((w.alloc (.cells csx.toArray 28)).alloc (.cells (List.replicate 32 (B 0)).toArray 28))
    generalize ((w.alloc (.cells csx.toArray 28)).alloc (.cells (List.replicate 32 (B 0)).toArray 28)) = w0 at *
    have HB0 := Lib.hid hb0
    have HB1 := Lib.hid (And.intro hz1 hz2)
    clear hb0
    rcases hcase with rfl | h1
    · have heq : cso = csx := by
        have h0 := HT.out.2.2.2.1
        rw [turnsG_one (by omega)] at h0
        have hnil : ps = [] := List.eq_nil_of_length_eq_zero (by rw [HT.out.2.2.2.2.1]; exact h0)
        rw [HT.out.2.2.2.2.2.2.2.2.2, HT.out.2.2.2.2.2.2.2.2.1, turnsG_one (by omega), hnil]; rfl
      go_wp2_with (first
        | (refine wpList_load_blk rfl 28 (.tmp 4) rfl w.heap.size rfl 28 csx _ hz1 Tryd.underlying28 rfl (Eq.trans (by kernel_rfl) HLX.out) ?_)
        | (refine wpList_store_blk rfl 28 (.tmp 8) (.tmp 13) rfl (w.heap.size + 1) csx rfl rfl 28 _ hz2 (Eq.trans (by kernel_rfl) HLX.out) (by rw [hxl, List.length_replicate]) hx1 ?_; intro w5 hw5 hg5))
      refine bodyPost_ret (results_blk rfl _ _ (w.heap.size + 1) 28 csx _ rfl hw5 Tryd.underlying28 rfl (Eq.trans (by kernel_rfl) HLX.out)) rfl ⟨by rw [heq], ?_⟩
      exact HB0.out.grown hg5 HB0.out.size (fun k e => by injection e with e; omega)
    · have hn1 : ((n : Int) == 1) = false := by simp; omega
      have HN := Lib.hid h1
      have hk1 := halfN_lt HN.out
      have hk0 := halfN_pos n
      obtain ⟨k, hk⟩ : ∃ k, halfN n = k := ⟨_, rfl⟩
      rw [hk] at hk1 hk0
      have H0 := Lib.hid (And.intro (show 0 < k ∧ k < n from ⟨hk0, hk1⟩) hk)
      have htl := turnsG_le n i
      have hm1 : 0 < m := by
        have h0 := HT.out.2.2.2.1
        by_cases hik : k ≤ i
        · rw [turnsG_right HN.out (by rw [hk]; exact hik)] at h0; simp at h0; omega
        · rw [turnsG_left HN.out (by rw [hk]; exact hik)] at h0; simp at h0; omega
      obtain ⟨q, hq⟩ : ∃ q, m - 1 = q := ⟨_, rfl⟩
      have HQ := Lib.hid (And.intro hm1 hq)
      have hmq : (m : Int) - 1 = (q : Int) := by omega
      have hqs : (q : Int) ≤ 1000000 := by have := HT.out; omega
      have hcut : ∀ wx, _ := fun wx => run_cut_to tHs A m c (q : Int) (by omega) (by have := HT.out.2.2.2.2.2.1; omega) wx
      simp only [Int.toNat_natCast] at hcut
      have hiI : (i : Int) ≤ 1000 := by have := HT.out; omega
      have hnI : (n : Int) ≤ 1000 := by have := HT.out; omega
      clear h1 hk1 hk0 htl hm1 hq hz1 hz2
      by_cases hik : i < k
      · have hlt : (i : Int) < (k : Int) := by omega
        have HK := Lib.hid hik
        have hpl0 : q = (turnsG i k).length := by have h0 := HT.out.2.2.2.1; rw [turnsG_left HN.out (by rw [hk]; omega), hk] at h0; simp at h0; have := HQ.out; omega
        have HPL := Lib.hid hpl0
        obtain ⟨csf, hcf⟩ : ∃ cs, cs = (foldH x (turnsG i k).reverse (ps.take q)).map B := ⟨_, rfl⟩
        have HCF := Lib.hid hcf
        have hco2 : ∀ p, ps = ps.take q ++ [p] → (ps.take q).length = q → cso = (nodeF (foldH x (turnsG i k).reverse (ps.take q)) p).map B := fun p hs hl => by
          rw [HT.out.2.2.2.2.2.2.2.2.2, turnsG_left HN.out (by rw [hk]; omega), hk, List.reverse_cons]
          conv => lhs; rw [hs]
          unfold foldH
          rw [foldG_snoc _ _ _ _ _ (by rw [List.length_reverse, ← hpl0, hl]), if_neg (by simp)]
        clear hik hpl0 hcf
        have hps : (ps.take q).length = q := by have := HQ.out; have := HT.out.2.2.2.2.1; simp; omega
        obtain ⟨p, hp⟩ : ∃ p, ps[q]? = some p := ⟨_, List.getElem?_eq_getElem (by have := HQ.out; have := HT.out.2.2.2.2.1; omega)⟩
        have hp32 : p.length = 32 := HT.out.2.2.2.2.2.2.1 p (List.mem_of_getElem? hp)
        have hsplit : ps = ps.take q ++ [p] := by
          conv => lhs; rw [← List.take_append_drop q ps]
          congr 1
          rw [List.drop_eq_getElem_cons (by have := HQ.out; have := HT.out.2.2.2.2.1; omega), List.drop_of_length_le (by have := HQ.out; have := HT.out.2.2.2.2.1; omega)]
          congr 1
          rw [List.getElem?_eq_getElem (by have := HQ.out; have := HT.out.2.2.2.2.1; omega)] at hp
          injection hp
        obtain ⟨csp, hcp⟩ : ∃ cs, cs = p.map B := ⟨_, rfl⟩
        have HCP := Lib.hid hcp
        have HP32 := Lib.hid hp32
        have hpl : csp.length = 32 := by rw [hcp, List.length_map]; exact hp32
        have hip : (Tryd.prog.info? 28).map (·.size) = some csp.length := by rw [hpl]; kernel_rfl
        obtain ⟨b, o, rfl⟩ := rdH_some HT.out.2.2.2.2.2.2.2.1 HT.out.2.2.2.2.2.2.1 (by have := HQ.out; have := HT.out.2.2.2.2.1; omega)
        have hrow : ∀ w', Below w.heap.size w w' → w'.rangeAt b (o + q * 32) csp := fun w' hw' j u hj => by
          rw [hcp] at hj
          exact rdH_cell (HT.out.2.2.2.2.2.2.2.1.below hw') HT.out.2.2.2.2.2.2.1 hp rfl j u hj
        have HTS : Hid (∀ w', Below w0.heap.size w0 w' → w'.rangeAt w.heap.size 0 csx ∧ w'.rangeAt b (o + q * 32) csp ∧ w'.there (w.heap.size + 1) 0 32) := Lib.hid (fun w' hw' =>
          ⟨fun j u hj => by rw [Nat.zero_add]; exact (HB1.out.1.below hw').cellD j u hj, hrow w' (below_then HB0.out HB0.out.size hw'), (HB1.out.2.below hw').there (by simp)⟩)
        have HTS2 : Hid (∀ w', Below w0.heap.size w0 w' → (w'.setCells (w.heap.size + 1) 0 cso).rangeAt w.heap.size 0 csx ∧ (w'.setCells (w.heap.size + 1) 0 cso).rangeAt b (o + q * 32) csp ∧ (w'.setCells (w.heap.size + 1) 0 cso).there (w.heap.size + 1) 0 32) := Lib.hid (fun w' hw' =>
          ⟨fun j u hj => by rw [Nat.zero_add]; exact ((HB1.out.1.below hw').grown (grown_setCells _ _ _ _) (by simp)).cellD j u hj,
           hrow _ ((below_then HB0.out HB0.out.size hw').grown (grown_setCells _ _ _ _) (below_then HB0.out HB0.out.size hw').size (fun r e => by injection e with e; omega)),
           World.there_setCells ((HB1.out.2.below hw').there (by simp)) _ _ _⟩)
        have hq0 : (0 : Int) ≤ (q : Int) := by omega
        have hqm : (q : Int) < (m : Int) := by have := HQ.out; omega
        have hqm2 : (q : Int) ≤ (m : Int) := by omega
        have HCO := Lib.hid (hco2 p hsplit hps)
        clear hcp hp32 hp hsplit hco2 hps hrow
        go_wp2_with (go_at_call 73; refine (rsplit_any n HN.out (by have := HT.out; omega) _).mono ?_; rintro e w' ⟨rfl, rfl⟩; rw [H0.out.2])
        refine wp_region_held_drew (S := (fun w' => w'.rangeAt w.heap.size 0 csx ∧ w'.rangeAt b (o + q * 32) csp ∧ w'.there (w.heap.size + 1) 0 32)) (by kernel_rfl) ?qs0 (fun hHeld => ?_)
        case qs0 => exact HTS.out _ (refl_drewN _ 1)
        refine held_take (i := 1) (v := ?qv1) rfl (by kernel_rfl) (by kernel_rfl) (by kernel_rfl) (fun _ _ _ h => h) (by rfl) ?qy1 hHeld ?_
        case qy1 => ((intro w _hSw; (try dsimp only at _hSw); go_simp); try (with_reducible rfl))
        try simp only [Act.put, List.setIfInBounds_toArray, List.set_cons_zero, List.set_cons_succ]
        refine held_take (i := 2) (v := ?qv2) rfl (by kernel_rfl) (by kernel_rfl) (by kernel_rfl) (fun _ _ _ h => h) (by rfl) ?qy2 hHeld ?_
        case qy2 => ((intro w _hSw; (try dsimp only at _hSw); go_simp); try (with_reducible rfl))
        try simp only [Act.put, List.setIfInBounds_toArray, List.set_cons_zero, List.set_cons_succ]
        refine held_take (i := 3) (v := ?qv3) rfl (by kernel_rfl) (by kernel_rfl) (by kernel_rfl) (fun _ _ _ h => h) (by rfl) ?qy3 hHeld ?_
        case qy3 => ((intro w _hSw; (try dsimp only at _hSw); go_simp); try (with_reducible rfl))
        try simp only [Act.put, List.setIfInBounds_toArray, List.set_cons_zero, List.set_cons_succ]
        refine held_take (i := 4) (v := ?qv4) rfl (by kernel_rfl) (by kernel_rfl) (by kernel_rfl) (fun _ _ _ h => h) (by rfl) ?qy4 hHeld ?_
        case qy4 => ((intro w _hSw; (try dsimp only at _hSw); go_simp); try (with_reducible rfl))
        try simp only [Act.put, List.setIfInBounds_toArray, List.set_cons_zero, List.set_cons_succ]
        refine held_take (i := 5) (v := ?qv5) rfl (by kernel_rfl) (by kernel_rfl) (by kernel_rfl) (fun _ _ _ h => h) (by rfl) ?qy5 hHeld ?_
        case qy5 => ((intro w _hSw; (try dsimp only at _hSw); go_simp); try (with_reducible rfl))
        try simp only [Act.put, List.setIfInBounds_toArray, List.set_cons_zero, List.set_cons_succ]
        refine held_take (i := 7) (v := ?qv7) rfl (by kernel_rfl) (by kernel_rfl) (by kernel_rfl) (fun _ _ _ h => h) (by rfl) ?qy7 hHeld ?_
        case qy7 => ((intro w _hSw; (try dsimp only at _hSw); go_simp); try (with_reducible rfl))
        try simp only [Act.put, List.setIfInBounds_toArray, List.set_cons_zero, List.set_cons_succ]
        refine held_take (i := 8) (v := ?qv8) rfl (by kernel_rfl) (by kernel_rfl) (by kernel_rfl) (fun _ _ _ h => h) (by rfl) ?qy8 hHeld ?_
        case qy8 => ((intro w _hSw; (try dsimp only at _hSw); go_simp); try (with_reducible rfl))
        try simp only [Act.put, List.setIfInBounds_toArray, List.set_cons_zero, List.set_cons_succ]
        refine held_take (i := 9) (v := ?qv9) rfl (by kernel_rfl) (by kernel_rfl) (by kernel_rfl) (fun _ _ _ h => h) (by rfl) ?qy9 hHeld ?_
        case qy9 => ((intro w _hSw; (try dsimp only at _hSw); go_simp); try (with_reducible rfl))
        try simp only [Act.put, List.setIfInBounds_toArray, List.set_cons_zero, List.set_cons_succ]
        refine held_row (i := 0) rfl (by kernel_rfl) (by kernel_rfl) (by kernel_rfl) _ _ rfl _ _ rfl ?qC0 ?qD0 (fun _ _ _ h => h) (by rfl) ?qa0 ?qb0 ?qc0 ?qd0 hHeld ?_
        case qa0 => (intro w hSw; (try dsimp only at hSw); go_split_ands; assumption)
        case qb0 => assumption
        case qc0 => rfl
        case qd0 => first | assumption | (simp only [*]; done)
        try simp only [Act.put, List.setIfInBounds_toArray, List.set_cons_zero, List.set_cons_succ]
        refine held_row (i := 10) rfl (by kernel_rfl) (by kernel_rfl) (by kernel_rfl) _ _ rfl _ _ rfl ?qC10 ?qD10 (fun _ _ _ h => h) (by rfl) ?qa10 ?qb10 ?qc10 ?qd10 hHeld ?_
        case qa10 => (intro w hSw; (try dsimp only at hSw); go_split_ands; assumption)
        case qb10 => assumption
        case qc10 => rfl
        case qd10 => first | assumption | (simp only [*]; done)
        try simp only [Act.put, List.setIfInBounds_toArray, List.set_cons_zero, List.set_cons_succ]
        refine held_step (i := 6) rfl (by kernel_rfl) (by rfl) (fun K hK => ?_)
        go_simp
        refine (IH.out k H0.out.1.2 x i (some ⟨b, o, none⟩) c q (ps.take q) csx csf w0.drew HT.out.1 HK.out (by have := HT.out.2.2.1; have := H0.out.1; omega) HPL.out (by have := HQ.out; have := HT.out.2.2.2.2.1; simp; omega) (by have := HT.out.2.2.2.2.2.1; have := HQ.out; omega) (HT.out.2.2.2.2.2.2.1.take q) ((rdH_to q HT.out.2.2.2.2.2.2.2.1 HT.out.2.2.2.2.2.2.1).below HB0.out.drew) HT.out.2.2.2.2.2.2.2.2.1 HCF.out).mono ?_
        rintro e w4 ⟨rfl, hb4⟩
        have J4 := Lib.hid (below_then (refl_drewN w0 1) (Nat.le_refl _) hb4)
        clear hb4
        go_wp2_with fail
        have hHeld := HTS.out _ J4.out
        refine hK.out _ _ (HTS.out _ J4.out) ?_
        clear hK K
        try simp only [Act.put, List.setIfInBounds_toArray, List.set_cons_zero, List.set_cons_succ]
        refine held_step (i := 11) rfl (by kernel_rfl) (by rfl) (fun K hK => ?_)
        go_simp
        refine (rnode_any (foldH x (turnsG i k).reverse (ps.take q)) p csf csp cso HCF.out HCP.out HCO.out (foldH_length _ _ _ HT.out.1) HP32.out w4).mono ?_
        rintro e w5 ⟨rfl, hb5⟩
        have J5 := Lib.hid (below_then J4.out J4.out.size hb5)
        have hth5 := (HTS.out _ J5.out).2.2
        have hst : (storeCells ⟨w.heap.size + 1, 0, none⟩ cso).run Tryd.prog w5 = .ok () (w5.setCells (w.heap.size + 1) 0 cso) := run_storeCells_cells (P := Tryd.prog) (w.heap.size + 1) 0 cso 0 w5 (fun j hj => by have h := (hth5 j (by rw [← hol]; exact hj)).1; simpa using h) (fun j hj => by have h := (hth5 j (by rw [← hol]; exact hj)).2; simpa using h) ho1
        clear hb5
        go_wp2_with fail
        have hHeld := HTS.out _ J5.out
        refine hK.out _ _ (HTS.out _ J5.out) ?_
        clear hK K
        try simp only [Act.put, List.setIfInBounds_toArray, List.set_cons_zero, List.set_cons_succ]
        refine held_step (i := 12) rfl (by kernel_rfl) (by rfl) (fun K hK => ?_)
        go_simp
        have hHeld := HTS2.out _ J5.out
        refine hK.out _ _ (HTS2.out _ J5.out) ?_
        clear hK K
        try simp only [Act.put, List.setIfInBounds_toArray, List.set_cons_zero, List.set_cons_succ]
        refine wpAnyH_done (by kernel_rfl) ?_ _
        have hw6 : Blk (w5.setCells (w.heap.size + 1) 0 cso) (w.heap.size + 1) 28 cso := (HB1.out.2.below J5.out).setCells0 (by rw [hol, List.length_replicate])
        have hb6 : Below w.heap.size w (w5.setCells (w.heap.size + 1) 0 cso) := (below_then HB0.out HB0.out.size J5.out).grown (grown_setCells _ _ _ _) (below_then HB0.out HB0.out.size J5.out).size (fun k e => by injection e with e; omega)
        generalize w5.setCells (w.heap.size + 1) 0 cso = w6 at *
        have H6 := Lib.hid (And.intro hw6 hb6)
        clear hw6 hb6
        go_wp2
        refine bodyPost_ret (results_blk rfl _ _ (w.heap.size + 1) 28 cso _ rfl H6.out.1 Tryd.underlying28 rfl hio) rfl ⟨rfl, H6.out.2⟩
      · have hlt : ¬ (i : Int) < (k : Int) := by omega
        have hikn : ¬ i < k := hik
        have HK := Lib.hid (show k ≤ i by omega)
        have HK2 := Lib.hid (show i - k < n - k by have := HT.out; have := H0.out.1; omega)
        have HNK := Lib.hid (show n - k < n ∧ n - k ≤ 1000 ∧ (ps.take q).length = q ∧ q ≤ c by have := HT.out.2.2.1; have := HT.out.2.2.2.2.2.1; have := H0.out.1; have := HQ.out; have := HT.out.2.2.2.2.1; simp; omega)
        have hpl0 : q = (turnsG (i - k) (n - k)).length := by have h0 := HT.out.2.2.2.1; rw [turnsG_right HN.out (by rw [hk]; omega), hk] at h0; simp at h0; have := HQ.out; omega
        have HPL := Lib.hid hpl0
        obtain ⟨csf, hcf⟩ : ∃ cs, cs = (foldH x (turnsG (i - k) (n - k)).reverse (ps.take q)).map B := ⟨_, rfl⟩
        have HCF := Lib.hid hcf
        have hco2 : ∀ p, ps = ps.take q ++ [p] → (ps.take q).length = q → cso = (nodeF p (foldH x (turnsG (i - k) (n - k)).reverse (ps.take q))).map B := fun p hs hl => by
          rw [HT.out.2.2.2.2.2.2.2.2.2, turnsG_right HN.out (by rw [hk]; omega), hk, List.reverse_cons]
          conv => lhs; rw [hs]
          unfold foldH
          rw [foldG_snoc _ _ _ _ _ (by rw [List.length_reverse, ← hpl0, hl]), if_pos rfl]
        have hsik : (i : Int) - (k : Int) = ((i - k : Nat) : Int) := by omega
        have hsnk : (n : Int) - (k : Int) = ((n - k : Nat) : Int) := by have := H0.out.1; omega
        have hwik := IntWalk.i64_in ((i - k : Nat) : Int) (by omega)
        have hwnk := IntWalk.i64_in ((n - k : Nat) : Int) (by omega)
        have hwik' := IntWalk.wrap64_in ((i - k : Nat) : Int) (by omega)
        have hwnk' := IntWalk.wrap64_in ((n - k : Nat) : Int) (by omega)
        clear hik hpl0 hcf
        have hps : (ps.take q).length = q := by have := HQ.out; have := HT.out.2.2.2.2.1; simp; omega
        obtain ⟨p, hp⟩ : ∃ p, ps[q]? = some p := ⟨_, List.getElem?_eq_getElem (by have := HQ.out; have := HT.out.2.2.2.2.1; omega)⟩
        have hp32 : p.length = 32 := HT.out.2.2.2.2.2.2.1 p (List.mem_of_getElem? hp)
        have hsplit : ps = ps.take q ++ [p] := by
          conv => lhs; rw [← List.take_append_drop q ps]
          congr 1
          rw [List.drop_eq_getElem_cons (by have := HQ.out; have := HT.out.2.2.2.2.1; omega), List.drop_of_length_le (by have := HQ.out; have := HT.out.2.2.2.2.1; omega)]
          congr 1
          rw [List.getElem?_eq_getElem (by have := HQ.out; have := HT.out.2.2.2.2.1; omega)] at hp
          injection hp
        obtain ⟨csp, hcp⟩ : ∃ cs, cs = p.map B := ⟨_, rfl⟩
        have HCP := Lib.hid hcp
        have HP32 := Lib.hid hp32
        have hpl : csp.length = 32 := by rw [hcp, List.length_map]; exact hp32
        have hip : (Tryd.prog.info? 28).map (·.size) = some csp.length := by rw [hpl]; kernel_rfl
        obtain ⟨b, o, rfl⟩ := rdH_some HT.out.2.2.2.2.2.2.2.1 HT.out.2.2.2.2.2.2.1 (by have := HQ.out; have := HT.out.2.2.2.2.1; omega)
        have hrow : ∀ w', Below w.heap.size w w' → w'.rangeAt b (o + q * 32) csp := fun w' hw' j u hj => by
          rw [hcp] at hj
          exact rdH_cell (HT.out.2.2.2.2.2.2.2.1.below hw') HT.out.2.2.2.2.2.2.1 hp rfl j u hj
        have HTS : Hid (∀ w', Below w0.heap.size w0 w' → w'.rangeAt w.heap.size 0 csx ∧ w'.rangeAt b (o + q * 32) csp ∧ w'.there (w.heap.size + 1) 0 32) := Lib.hid (fun w' hw' =>
          ⟨fun j u hj => by rw [Nat.zero_add]; exact (HB1.out.1.below hw').cellD j u hj, hrow w' (below_then HB0.out HB0.out.size hw'), (HB1.out.2.below hw').there (by simp)⟩)
        have HTS2 : Hid (∀ w', Below w0.heap.size w0 w' → (w'.setCells (w.heap.size + 1) 0 cso).rangeAt w.heap.size 0 csx ∧ (w'.setCells (w.heap.size + 1) 0 cso).rangeAt b (o + q * 32) csp ∧ (w'.setCells (w.heap.size + 1) 0 cso).there (w.heap.size + 1) 0 32) := Lib.hid (fun w' hw' =>
          ⟨fun j u hj => by rw [Nat.zero_add]; exact ((HB1.out.1.below hw').grown (grown_setCells _ _ _ _) (by simp)).cellD j u hj,
           hrow _ ((below_then HB0.out HB0.out.size hw').grown (grown_setCells _ _ _ _) (below_then HB0.out HB0.out.size hw').size (fun r e => by injection e with e; omega)),
           World.there_setCells ((HB1.out.2.below hw').there (by simp)) _ _ _⟩)
        have hq0 : (0 : Int) ≤ (q : Int) := by omega
        have hqm : (q : Int) < (m : Int) := by have := HQ.out; omega
        have hqm2 : (q : Int) ≤ (m : Int) := by omega
        have HCO := Lib.hid (hco2 p hsplit hps)
        clear hcp hp32 hp hsplit hco2 hps hrow
        go_wp2_with (go_at_call 73; refine (rsplit_any n HN.out (by have := HT.out; omega) _).mono ?_; rintro e w' ⟨rfl, rfl⟩; rw [H0.out.2])
        refine wp_region_held_drew (S := (fun w' => w'.rangeAt w.heap.size 0 csx ∧ w'.rangeAt b (o + q * 32) csp ∧ w'.there (w.heap.size + 1) 0 32)) (by kernel_rfl) ?rs0 (fun hHeld => ?_)
        case rs0 => exact HTS.out _ (refl_drewN _ 1)
        refine held_take (i := 0) (v := ?rv0) rfl (by kernel_rfl) (by kernel_rfl) (by kernel_rfl) (fun _ _ _ h => h) (by rfl) ?ry0 hHeld ?_
        case ry0 => ((intro w _hSw; (try dsimp only at _hSw); go_simp); try (with_reducible rfl))
        try simp only [Act.put, List.setIfInBounds_toArray, List.set_cons_zero, List.set_cons_succ]
        refine held_take (i := 1) (v := ?rv1) rfl (by kernel_rfl) (by kernel_rfl) (by kernel_rfl) (fun _ _ _ h => h) (by rfl) ?ry1 hHeld ?_
        case ry1 => ((intro w _hSw; (try dsimp only at _hSw); go_simp); try (with_reducible rfl))
        try simp only [Act.put, List.setIfInBounds_toArray, List.set_cons_zero, List.set_cons_succ]
        refine held_take (i := 2) (v := ?rv2) rfl (by kernel_rfl) (by kernel_rfl) (by kernel_rfl) (fun _ _ _ h => h) (by rfl) ?ry2 hHeld ?_
        case ry2 => ((intro w _hSw; (try dsimp only at _hSw); go_simp); try (with_reducible rfl))
        try simp only [Act.put, List.setIfInBounds_toArray, List.set_cons_zero, List.set_cons_succ]
        refine held_take (i := 5) (v := ?rv5) rfl (by kernel_rfl) (by kernel_rfl) (by kernel_rfl) (fun _ _ _ h => h) (by rfl) ?ry5 hHeld ?_
        case ry5 => ((intro w _hSw; (try dsimp only at _hSw); go_simp); try (with_reducible rfl))
        try simp only [Act.put, List.setIfInBounds_toArray, List.set_cons_zero, List.set_cons_succ]
        refine held_take (i := 6) (v := ?rv6) rfl (by kernel_rfl) (by kernel_rfl) (by kernel_rfl) (fun _ _ _ h => h) (by rfl) ?ry6 hHeld ?_
        case ry6 => ((intro w _hSw; (try dsimp only at _hSw); go_simp); try (with_reducible rfl))
        try simp only [Act.put, List.setIfInBounds_toArray, List.set_cons_zero, List.set_cons_succ]
        refine held_take (i := 7) (v := ?rv7) rfl (by kernel_rfl) (by kernel_rfl) (by kernel_rfl) (fun _ _ _ h => h) (by rfl) ?ry7 hHeld ?_
        case ry7 => ((intro w _hSw; (try dsimp only at _hSw); go_simp); try (with_reducible rfl))
        try simp only [Act.put, List.setIfInBounds_toArray, List.set_cons_zero, List.set_cons_succ]
        refine held_take (i := 8) (v := ?rv8) rfl (by kernel_rfl) (by kernel_rfl) (by kernel_rfl) (fun _ _ _ h => h) (by rfl) ?ry8 hHeld ?_
        case ry8 => ((intro w _hSw; (try dsimp only at _hSw); go_simp); try (with_reducible rfl))
        try simp only [Act.put, List.setIfInBounds_toArray, List.set_cons_zero, List.set_cons_succ]
        refine held_take (i := 9) (v := ?rv9) rfl (by kernel_rfl) (by kernel_rfl) (by kernel_rfl) (fun _ _ _ h => h) (by rfl) ?ry9 hHeld ?_
        case ry9 => ((intro w _hSw; (try dsimp only at _hSw); go_simp); try (with_reducible rfl))
        try simp only [Act.put, List.setIfInBounds_toArray, List.set_cons_zero, List.set_cons_succ]
        refine held_take (i := 10) (v := ?rv10) rfl (by kernel_rfl) (by kernel_rfl) (by kernel_rfl) (fun _ _ _ h => h) (by rfl) ?ry10 hHeld ?_
        case ry10 => ((intro w _hSw; (try dsimp only at _hSw); go_simp); try (with_reducible rfl))
        try simp only [Act.put, List.setIfInBounds_toArray, List.set_cons_zero, List.set_cons_succ]
        refine held_take (i := 11) (v := ?rv11) rfl (by kernel_rfl) (by kernel_rfl) (by kernel_rfl) (fun _ _ _ h => h) (by rfl) ?ry11 hHeld ?_
        case ry11 => ((intro w _hSw; (try dsimp only at _hSw); go_simp); try (with_reducible rfl))
        try simp only [Act.put, List.setIfInBounds_toArray, List.set_cons_zero, List.set_cons_succ]
        refine held_take (i := 12) (v := ?rv12) rfl (by kernel_rfl) (by kernel_rfl) (by kernel_rfl) (fun _ _ _ h => h) (by rfl) ?ry12 hHeld ?_
        case ry12 => ((intro w _hSw; (try dsimp only at _hSw); go_simp); try (with_reducible rfl))
        try simp only [Act.put, List.setIfInBounds_toArray, List.set_cons_zero, List.set_cons_succ]
        refine held_take (i := 13) (v := ?rv13) rfl (by kernel_rfl) (by kernel_rfl) (by kernel_rfl) (fun _ _ _ h => h) (by rfl) ?ry13 hHeld ?_
        case ry13 => ((intro w _hSw; (try dsimp only at _hSw); go_simp); try (with_reducible rfl))
        try simp only [Act.put, List.setIfInBounds_toArray, List.set_cons_zero, List.set_cons_succ]
        refine held_row (i := 3) rfl (by kernel_rfl) (by kernel_rfl) (by kernel_rfl) _ _ rfl _ _ rfl ?rC3 ?rD3 (fun _ _ _ h => h) (by rfl) ?ra3 ?rb3 ?rc3 ?rd3 hHeld ?_
        case ra3 => (intro w hSw; (try dsimp only at hSw); go_split_ands; assumption)
        case rb3 => assumption
        case rc3 => rfl
        case rd3 => first | assumption | (simp only [*]; done)
        try simp only [Act.put, List.setIfInBounds_toArray, List.set_cons_zero, List.set_cons_succ]
        refine held_row (i := 4) rfl (by kernel_rfl) (by kernel_rfl) (by kernel_rfl) _ _ rfl _ _ rfl ?rC4 ?rD4 (fun _ _ _ h => h) (by rfl) ?ra4 ?rb4 ?rc4 ?rd4 hHeld ?_
        case ra4 => (intro w hSw; (try dsimp only at hSw); go_split_ands; assumption)
        case rb4 => assumption
        case rc4 => rfl
        case rd4 => first | assumption | (simp only [*]; done)
        try simp only [Act.put, List.setIfInBounds_toArray, List.set_cons_zero, List.set_cons_succ]
        refine held_step (i := 14) rfl (by kernel_rfl) (by rfl) (fun K hK => ?_)
        go_simp
        refine (IH.out (n - k) HNK.out.1 x (i - k) (some ⟨b, o, none⟩) c q (ps.take q) csx csf w0.drew HT.out.1 HK2.out HNK.out.2.1 HPL.out HNK.out.2.2.1 HNK.out.2.2.2 (HT.out.2.2.2.2.2.2.1.take q) ((rdH_to q HT.out.2.2.2.2.2.2.2.1 HT.out.2.2.2.2.2.2.1).below HB0.out.drew) HT.out.2.2.2.2.2.2.2.2.1 HCF.out).mono ?_
        rintro e w4 ⟨rfl, hb4⟩
        have J4 := Lib.hid (below_then (refl_drewN w0 1) (Nat.le_refl _) hb4)
        clear hb4
        go_wp2_with fail
        have hHeld := HTS.out _ J4.out
        refine hK.out _ _ (HTS.out _ J4.out) ?_
        clear hK K
        try simp only [Act.put, List.setIfInBounds_toArray, List.set_cons_zero, List.set_cons_succ]
        refine held_step (i := 15) rfl (by kernel_rfl) (by rfl) (fun K hK => ?_)
        go_simp
        refine (rnode_any p (foldH x (turnsG (i - k) (n - k)).reverse (ps.take q)) csp csf cso HCP.out HCF.out HCO.out HP32.out (foldH_length _ _ _ HT.out.1) w4).mono ?_
        rintro e w5 ⟨rfl, hb5⟩
        have J5 := Lib.hid (below_then J4.out J4.out.size hb5)
        have hth5 := (HTS.out _ J5.out).2.2
        have hst : (storeCells ⟨w.heap.size + 1, 0, none⟩ cso).run Tryd.prog w5 = .ok () (w5.setCells (w.heap.size + 1) 0 cso) := run_storeCells_cells (P := Tryd.prog) (w.heap.size + 1) 0 cso 0 w5 (fun j hj => by have h := (hth5 j (by rw [← hol]; exact hj)).1; simpa using h) (fun j hj => by have h := (hth5 j (by rw [← hol]; exact hj)).2; simpa using h) ho1
        clear hb5
        go_wp2_with fail
        have hHeld := HTS.out _ J5.out
        refine hK.out _ _ (HTS.out _ J5.out) ?_
        clear hK K
        try simp only [Act.put, List.setIfInBounds_toArray, List.set_cons_zero, List.set_cons_succ]
        refine held_step (i := 16) rfl (by kernel_rfl) (by rfl) (fun K hK => ?_)
        go_simp
        have hHeld := HTS2.out _ J5.out
        refine hK.out _ _ (HTS2.out _ J5.out) ?_
        clear hK K
        try simp only [Act.put, List.setIfInBounds_toArray, List.set_cons_zero, List.set_cons_succ]
        refine wpAnyH_done (by kernel_rfl) ?_ _
        have hw6 : Blk (w5.setCells (w.heap.size + 1) 0 cso) (w.heap.size + 1) 28 cso := (HB1.out.2.below J5.out).setCells0 (by rw [hol, List.length_replicate])
        have hb6 : Below w.heap.size w (w5.setCells (w.heap.size + 1) 0 cso) := (below_then HB0.out HB0.out.size J5.out).grown (grown_setCells _ _ _ _) (below_then HB0.out HB0.out.size J5.out).size (fun k e => by injection e with e; omega)
        generalize w5.setCells (w.heap.size + 1) 0 cso = w6 at *
        have H6 := Lib.hid (And.intro hw6 hb6)
        clear hw6 hb6
        go_wp2
        refine bodyPost_ret (results_blk rfl _ _ (w.heap.size + 1) 28 cso _ rfl H6.out.1 Tryd.underlying28 rfl hio) rfl ⟨rfl, H6.out.2⟩
end Go.Proofs.YtcgdojdiihdkeaaDoor
