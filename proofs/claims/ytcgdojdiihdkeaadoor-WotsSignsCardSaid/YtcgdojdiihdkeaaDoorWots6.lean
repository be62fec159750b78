/- Layer 5: Sign, From by their contracts. -/
import Derived.Test.YtcgdojdiihdkeaaDoorWots5
namespace Go.Proofs.YtcgdojdiihdkeaaDoor
open Go Go.RowKit Go.Isth

theorem sign_no (seed : List UInt8) (leaf : Int) (A : Option Addr) (n c : Nat) (w : World) (h : Bad05 leaf n) :
    Calls Tryd.prog 19 #[HV seed, .int .i64 leaf, .slice A n c] w fun e w' => ∃ v, e = .returned (.tuple #[.slice none 0 0, v]) ∧ FaultIs w' v 1 ∧ Below w.heap.size w w' := by
  have HT := Lib.hid h
  clear h
  go_enter Tryd.func19, Tryd.ntmps19
  go_wp2_with fail
  have hb0 := (Below.refl w.heap.size w).alloc (Nat.le_refl _) (.cells (seed.map B).toArray 28)
  refine (check_no leaf n _ HT.out).mono ?_
  rintro e w1 ⟨v, rfl, hv, hb1⟩
  have H1 := Lib.hid (And.intro hv (below_then hb0 hb0.size hb1))
  clear hb0 hb1
  obtain ⟨b, rfl⟩ := hv.shape
  clear hv
  go_wp2
  go_ret2
  exact ⟨_, rfl, H1.out.1, H1.out.2⟩
theorem chains_to (cs : List Value) (A : Option Addr) (c n : Nat) (seed : List UInt8) (leaf : Nat) (places : List Nat) (w w0 : World) (hcs : cs = seed.map B) (hn : places.length = n) (hs : seed.length = 32) (hl : leaf < 1024) (hp : n ≤ 67) (hr : Rd w A (places.map I)) (hw : Below w0.heap.size w0 w) (ht : TabLaid w0) :
    Calls Tryd.prog 58 #[.agg cs.toArray, .int .i64 leaf, .slice A n c] w fun e w' => ∃ v, e = .returned v ∧ w'.ownsRow w.heap.size 5 1 v (chainsN seed leaf places n).length ((chainsN seed leaf places n).map B) ∧ Below w.heap.size w w' := by
  subst hcs
  exact chains_any A c n seed leaf places w hn hs hl hp hr (ht.below hw ht.lt)
set_option maxRecDepth 100000 in
set_option maxHeartbeats 1000000 in
theorem sign_yes (seed : List UInt8) (leaf : Nat) (A : Option Addr) (c : Nat) (d : List UInt8) (w : World) (hs : seed.length = 32) (hl : leaf < 1024) (h1 : 1 ≤ d.length) (h2 : d.length ≤ 32) (hr : Rd w A (d.map B)) (ht : TabLaid w) :
    Calls Tryd.prog 19 #[HV seed, .int .i64 leaf, .slice A d.length c] w fun e w' => ∃ v, e = .returned (.tuple #[v, .nilIface]) ∧ w'.ownsRow w.heap.size 5 1 v (signF seed leaf d).length ((signF seed leaf d).map B) ∧ Below w.heap.size w w' := by
  have HT := Lib.hid (And.intro hs (And.intro hl (And.intro h1 (And.intro h2 (And.intro hr ht)))))
  clear hs hl h1 h2 hr ht
  go_enter Tryd.func19, Tryd.ntmps19
  go_wp2_with (go_at_call 57; refine (check_yes leaf d.length _ (by omega) (by have := HT.out; omega) (by have := HT.out; omega) (by have := HT.out; omega)).mono ?_; rintro e w1 ⟨rfl, rfl⟩)
  have hz0 := Blk_new w (seed.map B) 28
  have hb0 := (Below.refl w.heap.size w).alloc (Nat.le_refl _) (.cells (seed.map B).toArray 28)
  change Code.wp _ _ _ _ (w.alloc (.cells (seed.map B).toArray 28))
  generalize w.alloc (.cells (seed.map B).toArray 28) = w0 at *
  have H0 := Lib.hid (And.intro hz0.drew (hb0.drew))
  clear hz0 hb0
  obtain ⟨csd, hcsd⟩ : ∃ cs, cs = seed.map B := ⟨_, rfl⟩
  have hcl : csd.length = 32 := by rw [hcsd, List.length_map]; exact HT.out.1
  have hi28 : (Tryd.prog.info? 28).map (·.size) = some csd.length := by rw [hcl]; kernel_rfl
  have hu28 := Tryd.underlying28
  have HCS := Lib.hid hcsd
  have HRG : Hid (∀ w', Blk w' w.heap.size 28 (seed.map B) → w'.rangeAt w.heap.size 0 csd) := Lib.hid (fun w' hr => by rw [hcsd]; intro j v hv; rw [Nat.zero_add]; exact hr.cellD j v hv)
  clear hcsd
  have hdl := digitsW_length d
  obtain ⟨N, hN⟩ : ∃ N, (digitsW d).length = N := ⟨_, rfl⟩
  have HN := Lib.hid (And.intro hN (show N = 2 * d.length + 3 by omega))
  clear hN hdl
  go_region_held3 (fun w' => w'.rangeAt w.heap.size 0 csd)
    (first | exact HRG.out _ H0.out.1 | exact HRG.out _ H1.out.2.2.1 | exact HRG.out _ H2.out.2.2)
    (first
      | (go_at_call 25; refine (digits_any A c d w0.drew (by have := HT.out; omega) (by have := HT.out; omega) (HT.out.2.2.2.2.1.below H0.out.2)).mono ?_
         rintro e w1 ⟨v1, rfl, ho1, hb1⟩
         rw [HN.out.1] at ho1
         obtain ⟨A1, c1, rfl, _, hrd1, _⟩ := own_slice ho1
         have H1 := Lib.hid (And.intro hrd1 (And.intro (below_then H0.out.2 H0.out.2.size hb1) (And.intro (H0.out.1.below hb1) trivial)))
         clear ho1 hb1 hrd1)
      | (go_at_call 58; refine (chains_to csd A1 c1 N seed leaf (digitsW d) w1 w HCS.out HN.out.1 HT.out.1 HT.out.2.1 (by have := HN.out; have := HT.out; omega) H1.out.1 H1.out.2.1 HT.out.2.2.2.2.2).mono ?_
         rintro e w2 ⟨v2, rfl, ho2, hb2⟩
         obtain ⟨A2, c2, rfl, _⟩ := own_slice ho2
         have H2 := Lib.hid (And.intro (own_mono ho2 H1.out.2.1.size) (And.intro (below_then H1.out.2.1 H1.out.2.1.size hb2) (H1.out.2.2.1.below hb2)))
         clear ho2 hb2))
  go_wp2
  go_ret2
  refine ⟨_, rfl, ?_, H2.out.2.1⟩
  have h := H2.out.1
  have e : signF seed leaf d = chainsN seed leaf (digitsW d) N := by unfold signF; rw [HN.out.2]
  rw [e]
  exact h
#print axioms sign_yes
set_option maxRecDepth 100000 in
set_option maxHeartbeats 1000000 in
theorem frm_no (As Ad : Option Addr) (m cs n cd : Nat) (leaf : Int) (w : World) (h : Bad05 leaf n) :
    Calls Tryd.prog 23 #[.slice As m cs, .int .i64 leaf, .slice Ad n cd] w fun e w' => ∃ v, e = .returned (.tuple #[HV Z32, v]) ∧ FaultIs w' v 1 ∧ Below w.heap.size w w' := by
  have HT := Lib.hid h
  clear h
  go_enter Tryd.func23, Tryd.ntmps23
  go_wp2_with fail
  have hz2 := Blk_new w (List.replicate 32 (B 0)) 28
  have hb0 := (Below.refl w.heap.size w).alloc (Nat.le_refl _) (.cells (List.replicate 32 (B 0)).toArray 28)
  refine (check_no leaf n _ HT.out).mono ?_
  rintro e w1 ⟨v, rfl, hv, hb1⟩
  have hz1 := hz2.below hb1
  have H1 := Lib.hid (And.intro hv (below_then hb0 hb0.size hb1))
  clear hz2 hb0 hb1
  obtain ⟨b, rfl⟩ := hv.shape
  clear hv
  go_wp2_with (refine wpList_store_blk rfl 28 (.tmp 6) (.tmp 19) rfl w.heap.size (List.replicate 32 (B 0)) rfl rfl 28 _ hz1 (by kernel_rfl) rfl (by decide) ?_; intro w2 hw2 hg2)
  refine bodyPost_ret (results_two rfl _ _ w.heap.size 28 (Z32.map B) _ rfl hw2 Tryd.underlying28 rfl (by kernel_rfl)) rfl ⟨_, rfl, ?_, ?_⟩
  · exact H1.out.1.grown hz1 (by decide) hg2
  · exact H1.out.2.grown hg2 H1.out.2.size (fun k e => by injection e with e; omega)
set_option maxRecDepth 100000 in
set_option maxHeartbeats 1000000 in
theorem frm_long (As Ad : Option Addr) (m cs n cd leaf : Nat) (w : World) (hl : leaf < 1024) (h1 : 1 ≤ n) (h2 : n ≤ 32) (hm : m ≠ 32 * (2 * n + 3)) :
    Calls Tryd.prog 23 #[.slice As m cs, .int .i64 leaf, .slice Ad n cd] w fun e w' => ∃ v, e = .returned (.tuple #[HV Z32, v]) ∧ FaultIs w' v 2 ∧ Below w.heap.size w w' := by
  have h1' : (1 : Int) ≤ n := by omega
  have h2' : (n : Int) ≤ 32 := by omega
  have hl' : (leaf : Int) < 1024 := by omega
  have hne : ((m : Int) != 32 * (2 * (n : Int) + 3)) = true := by simp; omega
  clear hm h1 h2 hl
  go_enter Tryd.func23, Tryd.ntmps23
  go_wp2_with (first
    | (go_at_call 57; refine (check_yes leaf n _ (by omega) hl' h1' h2').mono ?_; rintro e w1 ⟨rfl, rfl⟩)
    | (go_at_call 24; refine (len_yes _ _ h1' h2').mono ?_; rintro e w' ⟨rfl, rfl⟩))
  have hz2 := Blk_new w (List.replicate 32 (B 0)) 28
  have hb0 := (Below.refl w.heap.size w).alloc (Nat.le_refl _) (.cells (List.replicate 32 (B 0)).toArray 28)
  refine (fault05_any _ _ _).mono ?_
  rintro e w1 ⟨v, rfl, hv, hb1⟩
  have hz1 := hz2.below hb1
  have H1 := Lib.hid (And.intro hv (below_then hb0 hb0.size hb1))
  clear hz2 hb0 hb1
  obtain ⟨b, rfl⟩ := hv.shape
  clear hv
  go_wp2_with (refine wpList_store_blk rfl 28 (.tmp 6) (.tmp 28) rfl w.heap.size (List.replicate 32 (B 0)) rfl rfl 28 _ hz1 (by kernel_rfl) rfl (by decide) ?_; intro w2 hw2 hg2)
  refine bodyPost_ret (results_two rfl _ _ w.heap.size 28 (Z32.map B) _ rfl hw2 Tryd.underlying28 rfl (by kernel_rfl)) rfl ⟨_, rfl, ?_, ?_⟩
  · exact H1.out.1.grown hz1 (by decide) hg2
  · exact H1.out.2.grown hg2 H1.out.2.size (fun k e => by injection e with e; omega)
#print axioms frm_long
theorem run_arr32 (a : Addr) (c : Nat) (w : World) : (Instr.arrayAt 28 (.slice (some a) 32 c)).run Tryd.prog w = .ok (.pointer (some a)) w := by
  simp [Instr.arrayAt, run_underlying Tryd.underlying28]
def FromInv (w1 : World) (sign : List UInt8) (leaf N : Nat) (places : List Nat) (v9 v33 : Value) (wr : World) : Prop :=
  ∃ k : Nat, k ≤ N ∧ v33 = I k ∧ wr.ownsRow w1.heap.size 5 1 v9 (fromN sign leaf places k).length ((fromN sign leaf places k).map B) ∧ Below w1.heap.size w1 wr
set_option maxRecDepth 100000 in
set_option maxHeartbeats 2000000 in
theorem frm_yes (As Ad : Option Addr) (cs cd m leaf : Nat) (sign d : List UInt8) (w : World) (hl : leaf < 1024) (h1 : 1 ≤ d.length) (h2 : d.length ≤ 32) (hm : m = 32 * (2 * d.length + 3)) (hsl : sign.length = m) (hcs : m ≤ cs) (hrs : Rd w As (sign.map B)) (hrd : Rd w Ad (d.map B)) (ht : TabLaid w) :
    Calls Tryd.prog 23 #[.slice As m cs, .int .i64 leaf, .slice Ad d.length cd] w fun e w' => e = .returned (.tuple #[HV (fromF sign leaf d), .nilIface]) ∧ Below w.heap.size w w' := by
  have h1' : (1 : Int) ≤ d.length := by omega
  have h2' : (d.length : Int) ≤ 32 := by omega
  have hl' : (leaf : Int) < 1024 := by omega
  have heq : ((m : Int) != 32 * (2 * (d.length : Int) + 3)) = false := by simp; omega
  obtain ⟨bs, os, rfl, hbs, hcells⟩ := hrs.at_ (by rw [List.length_map]; omega)
  have HT := Lib.hid (And.intro hl (And.intro h1 (And.intro h2 (And.intro hm (And.intro hsl (And.intro hcs (And.intro hbs (And.intro hrs (And.intro hrd ht)))))))))
  clear hl h1 h2 hm hsl hcs hbs hcells hrs hrd ht
  go_enter Tryd.func23, Tryd.ntmps23
  go_wp2_with (first
    | (go_at_call 57; refine (check_yes leaf d.length _ (by omega) hl' h1' h2').mono ?_; rintro e w1 ⟨rfl, rfl⟩)
    | (go_at_call 24; refine (len_yes _ _ h1' h2').mono ?_; rintro e w' ⟨rfl, rfl⟩))
  have hz0 := Blk_new w (List.replicate 32 (B 0)) 28
  have hb0 := (Below.refl w.heap.size w).alloc (Nat.le_refl _) (.cells (List.replicate 32 (B 0)).toArray 28)
  change Calls _ _ _ (w.alloc (.cells (List.replicate 32 (B 0)).toArray 28)) _
  generalize w.alloc (.cells (List.replicate 32 (B 0)).toArray 28) = w0 at *
  refine (digits_any Ad cd d w0 (by omega) (by omega) (HT.out.2.2.2.2.2.2.2.2.1.below hb0)).mono ?_
  rintro e w1 ⟨v1, rfl, ho1, hb1⟩
  have hdl := digitsW_length d
  have h15 := digitsW_le d
  have hff : fromF sign leaf d = leafF (fromN sign leaf (digitsW d) (2 * d.length + 3)) := rfl
  obtain ⟨N, hN⟩ : ∃ N, N = 2 * d.length + 3 := ⟨_, rfl⟩
  rw [← hN] at hdl hff
  rw [hdl] at ho1
  obtain ⟨A1, c1, rfl, _, hrd1, _⟩ := own_slice ho1
  generalize digitsW d = places at *
  have hB1 := below_then hb0 hb0.size hb1
  have hz1 := hz0.below hb1
  have H1 := Lib.hid (And.intro hB1 (And.intro hz1 (And.intro hrd1 (And.intro hdl (And.intro hff (And.intro h15 (show N = 2 * d.length + 3 ∧ sign.length = 32 * N ∧ N ≤ 67 by have := HT.out; omega)))))))
  have hN67 : N ≤ 67 := H1.out.2.2.2.2.2.2.2.2
  clear hb0 hb1 hz0 hz1 hB1 ho1 hrd1 hdl hff h15 heq
  clear hN
  go_wp2_with fail
  go_loopw [9, 33] (fun v9 v33 wr => FromInv w1 sign leaf N places v9 v33 wr) (fun _ v33 _ => N - (intOf v33).toNat)
  case atStart => exact ⟨0, Nat.zero_le _, rfl, World.ownsRow_nil _ _ _ _, Below.refl _ _⟩
  case round =>
    obtain ⟨k, hk, rfl, ho, hB⟩ := hrel
    by_cases hlt : k < N
    · obtain ⟨p, hp⟩ : ∃ p, places[k]? = some p := ⟨_, List.getElem?_eq_getElem (by rw [H1.out.2.2.2.1]; exact hlt)⟩
      obtain ⟨b, o, rfl, hb, hcell⟩ := H1.out.2.2.1.at_ (by rw [List.length_map, H1.out.2.2.2.1]; omega)
      have hcl : wr.cell? ⟨b, o + k, none⟩ = some (I p) := by
        have h := hcell k (by rw [List.length_map, H1.out.2.2.2.1]; exact hlt)
        rw [(hB.cell (p := ⟨b, o + k, none⟩) hb), h]
        have := (List.getElem?_eq_some_iff.1 hp).2
        simp [this]
      obtain ⟨x, hx⟩ : ∃ x, (sign.drop (32 * k)).take 32 = x := ⟨_, rfl⟩
      have hxl : x.length = 32 := by rw [← hx]; have := H1.out.2.2.2.2.2.2; simp; omega
      have hch : fromN sign leaf places (k + 1) = fromN sign leaf places k ++ stepF leaf k p 15 x := by
        rw [fromN, List.getD_eq_getElem?_getD, hp, hx]; rfl
      have hcln := fromN_length sign leaf places k (by have := H1.out.2.2.2.2.2.2; omega)
      have hsl := stepF_length leaf k p 15 x hxl
      have hcut : ∀ wx, (Instr.slice 22 (.slice (some ⟨bs, os, none⟩) m cs) (some (.int .i64 (32 * (k : Int)))) (some (.int .i64 (32 * ((k : Int) + 1)))) none).run Tryd.prog wx = .ok (.slice (some ⟨bs, os + 32 * k, none⟩) 32 (cs - 32 * k)) wx := by
        intro wx
        have h := run_cut_mid tBs (some ⟨bs, os, none⟩) m cs (32 * (k : Int)) (32 * ((k : Int) + 1)) (by omega) (by omega) (by have := HT.out; have := H1.out.2.2.2.2.2.2; omega) wx
        rw [show (32 * (k : Int)).toNat = 32 * k by omega, show (32 * ((k : Int) + 1)).toNat = 32 * k + 32 by omega, show 32 * k + 32 - 32 * k = 32 by omega] at h
        rw [h]
        unfold cutA
        rw [if_neg (by have := HT.out; have := H1.out.2.2.2.2.2.2; omega), Option.map_some, add_plain, Nat.mul_one]
      have hld : ∀ wx, Below w1.heap.size w1 wx → (loadVar 28 ⟨bs, os + 32 * k, none⟩).run Tryd.prog wx = .ok (.agg (x.map B).toArray) wx := by
        intro wx hwx
        refine run_load_agg (P := Tryd.prog) Tryd.underlying28 rfl (by kernel_rfl) wx ⟨bs, os + 32 * k, none⟩ (x.map B) (by rw [List.length_map, hxl]) (fun j u hj => ?_)
        rw [add_plain]
        have hr2 := (HT.out.2.2.2.2.2.2.2.1.below H1.out.1).below hwx
        obtain ⟨b', o', e', hc'⟩ := hr2 (by rw [List.length_map]; have := H1.out.2.2.2.2.2.2; omega)
        injection e' with e'
        injection e' with e1 e2
        subst e1; subst e2
        rw [Nat.add_assoc]
        refine hc' (32 * k + j) u ?_
        rw [← hx, List.map_take, List.getElem?_take, List.map_drop, List.getElem?_drop] at hj
        split at hj
        · exact hj
        · cases hj
      obtain ⟨A7, c7, rfl, _⟩ := own_slice ho
      have HS := Lib.hid (And.intro ho (And.intro hB hch))
      have HL := Lib.hid (And.intro hcln (And.intro hxl hsl))
      have HLD := Lib.hid (hld wr hB)
      have harr := fun wx => run_arr32 ⟨bs, os + 32 * k, none⟩ (cs - 32 * k) wx
      clear ho hB hch hcln hxl hsl hp hcell hb hx hld
      go_wp2_with (refine wpList_load rfl (.tmp 45) rfl _ _ rfl HLD.out ?_)
      refine (step_any x leaf k p 15 leaf k wr HL.out.2.1 (u64_nat (by have := HT.out.1; omega)) (by have := HT.out.1; omega) (u64_nat (by omega)) (by omega) ((HT.out.2.2.2.2.2.2.2.2.2.below H1.out.1 HT.out.2.2.2.2.2.2.2.2.2.lt).below HS.out.2.1 (by have := HT.out.2.2.2.2.2.2.2.2.2.lt; have := H1.out.1.size; omega))).mono ?_
      rintro e w5 ⟨rfl, hb5⟩
      rw [show stepF leaf k ((p : Int).toNat) (Int.toNat 15) x = stepF leaf k p 15 x from rfl]
      have H5 := Lib.hid (And.intro (below_then HS.out.2.1 HS.out.2.1.size hb5) (own_below HS.out.1 hb5))
      clear hb5 harr hcut hcl
      generalize hsv : stepF leaf k p 15 x = sv at *
      have HLL := Lib.hid (show (some 32 : Option Nat) = some (sv.map B).length by rw [List.length_map, HL.out.2.2])
      clear hsv
      go_wp2_with (first
        | (refine wpList_store_blk rfl 28 (.tmp 12) (.tmp 50) rfl w5.heap.size (sv.map B) rfl rfl 28 _ (heap_alloc_new w5 _) (Eq.trans (by kernel_rfl) HLL.out) (by rw [List.length_map, HL.out.2.2]; rfl) one_bytes ?_; intro w6 hw6 hg6
           have hb6 : Below w5.heap.size w5 w6 := ((Below.refl w5.heap.size w5).alloc (Nat.le_refl _) _).grown hg6 (by simp) (fun r e => by injection e with e; omega)
           have H6 := Lib.hid (And.intro hw6 (And.intro (below_then H5.out.1 H5.out.1.size hb6) (own_below H5.out.2 hb6)))
           clear hw6 hg6 hb6)
        | (at_builtin; refine wpList_app tBs rfl _ _ rfl w1.heap.size _ (fromN sign leaf places k).length ((fromN sign leaf places k).map B) rfl H6.out.2.2 (some ⟨w5.heap.size, 0, none⟩) 32 32 (sv.map B) rfl H6.out.1.rd0 (by rw [List.length_map, HL.out.2.2]) one_bytes (by have := HL.out; unfold maxLen; omega) (by have := HL.out; omega) (by have := H6.out.2.1.size; omega) ?_))
      intro v7 w7 ho7 hx7
      obtain ⟨A7', c7', rfl, _⟩ := own_slice ho7
      have H7 := Lib.hid (And.intro ho7 (H6.out.2.1.grown hx7.grown H6.out.2.1.size (fun q e => (H6.out.2.2.lt q e).1)))
      clear ho7 hx7
      go_wp2_with fail
      go_roundw
      case rel =>
        refine ⟨k + 1, hlt, by go_num, ?_, H7.out.2⟩
        rw [HS.out.2.2, List.length_append, List.map_append, HL.out.2.2]
        exact H7.out.1
      case measure => simp [intOf]; omega
    · obtain rfl : k = N := by omega
      obtain ⟨A7, c7, rfl, _, hr7, _⟩ := own_slice ho
      have hcln := fromN_length sign leaf places k (by have := H1.out.2.2.2.2.2.2; omega)
      have hff := H1.out.2.2.2.2.1
      generalize fromN sign leaf places k = bs7 at *
      have hz7 := H1.out.2.1.below hB
      have HS := Lib.hid (And.intro (below_then H1.out.1 H1.out.1.size hB) (And.intro hr7 (And.intro hcln (And.intro hff hz7))))
      clear ho hB hr7 hcln hff hz7 hlt
      go_wp2_with fail
      refine (leaf_any A7 c7 bs7 wr (by have := HS.out.2.2.1; omega) HS.out.2.1 (HT.out.2.2.2.2.2.2.2.2.2.below HS.out.1 HT.out.2.2.2.2.2.2.2.2.2.lt)).mono ?_
      rintro e w5 ⟨rfl, hb5⟩
      have hz5 := HS.out.2.2.2.2.below hb5
      have H5 := Lib.hid (below_then HS.out.1 HS.out.1.size hb5)
      clear hb5
      have HLL := Lib.hid (show (some 32 : Option Nat) = some ((leafF bs7).map B).length by rw [List.length_map, leafF_length])
      go_wp2_with (refine wpList_store_blk rfl 28 (.tmp 6) (.tmp 56) rfl w.heap.size ((leafF bs7).map B) rfl rfl 28 _ hz5 (Eq.trans (by kernel_rfl) HLL.out) (by rw [List.length_map, leafF_length, List.length_replicate]) one_bytes ?_; intro w6 hw6 hg6)
      refine bodyPost_ret (results_two rfl _ _ w.heap.size 28 ((leafF bs7).map B) _ rfl hw6 Tryd.underlying28 rfl (Eq.trans (by kernel_rfl) HLL.out)) rfl ⟨by rw [HS.out.2.2.2.1]; rfl, ?_⟩
      exact H5.out.grown hg6 H5.out.size (fun k e => by injection e with e; omega)
#print axioms frm_yes
end Go.Proofs.YtcgdojdiihdkeaaDoor
