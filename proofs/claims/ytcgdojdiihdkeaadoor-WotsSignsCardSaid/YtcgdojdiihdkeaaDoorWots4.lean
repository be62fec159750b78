/- Layer 5: first, chains by their contracts. -/
import Derived.Test.YtcgdojdiihdkeaaDoorWots3
import Derived.Deep.RegionHeld3
namespace Go.Proofs.YtcgdojdiihdkeaaDoor
open Go Go.RowKit Go.Isth

theorem hash_to (cs : List Value) (hs : List UInt8) (b : Nat) (v : Value) (bs : List UInt8) (base : Nat) (w : World) (hcs : cs = hs.map B) (hh : hs.length = 32) (hW : WIs w base b v bs) (hm : bs.length ≤ 35184372088832) :
    Calls Tryd.prog 87 #[Ptr b, .agg cs.toArray] w fun e w' => e = .returned (Ptr b) ∧ ∃ v', WIs w' base b v' (bs ++ hs) ∧ WExt w w' b v v' := by
  subst hcs
  exact hash_any hs b v bs base w hh hW hm
set_option maxRecDepth 100000 in
set_option maxHeartbeats 2000000 in
theorem first_any (seed : List UInt8) (leaf ch : Nat) (w : World) (hs : seed.length = 32) (hl : leaf < 1024) (hc : ch < 1024) (ht : TabLaid w) :
    Calls Tryd.prog 78 #[HV seed, .int .i64 leaf, .int .i64 ch] w fun e w' => e = .returned (HV (firstF seed leaf ch)) ∧ Below w.heap.size w w' := by
  have HT := Lib.hid (And.intro hs (And.intro hl (And.intro hc ht)))
  have hul := u64_nat (n := leaf) (by omega)
  have huc := u64_nat (n := ch) (by omega)
  clear hs hl hc ht
  go_enter Tryd.func78, Tryd.ntmps78
  go_wp2_with fail
  have hz1 := (Blk_new w (seed.map B) 28).alloc (.cells (List.replicate 32 (B 0)).toArray 28)
  have hz2 := Blk_new (w.alloc (.cells (seed.map B).toArray 28)) (List.replicate 32 (B 0)) 28
  have hb0 := ((Below.refl w.heap.size w).alloc (Nat.le_refl _) (.cells (seed.map B).toArray 28)).alloc (by simp) (.cells (List.replicate 32 (B 0)).toArray 28)
  change Code.wp _ _ _ _ ((w.alloc (.cells (seed.map B).toArray 28)).alloc (.cells (List.replicate 32 (B 0)).toArray 28))
  simp only [World.size_alloc] at hz2
  generalize (w.alloc (.cells (seed.map B).toArray 28)).alloc (.cells (List.replicate 32 (B 0)).toArray 28) = w0 at *
  have H0 := Lib.hid (And.intro hz1 (And.intro hz2 (And.intro hb0 hz2.lt)))
  clear hz1 hz2 hb0
  obtain ⟨csd, hcsd⟩ : ∃ cs, cs = seed.map B := ⟨_, rfl⟩
  have hcl : csd.length = 32 := by rw [hcsd, List.length_map]; exact HT.out.1
  have hi28 : (Tryd.prog.info? 28).map (·.size) = some csd.length := by rw [hcl]; kernel_rfl
  have hu28 := Tryd.underlying28
  have HCS := Lib.hid hcsd
  have HRG : Hid (∀ w', Blk w' w.heap.size 28 (seed.map B) → w'.rangeAt w.heap.size 0 csd) := Lib.hid (fun w' hr => by rw [hcsd]; intro j v hv; rw [Nat.zero_add]; exact hr.cellD j v hv)
  clear hcsd
  go_region_held3 (fun w' => w'.rangeAt w.heap.size 0 csd)
    (first | exact HRG.out _ H0.out.1.drew | exact HRG.out _ H1.out.2.2 | exact HRG.out _ H2.out.2.2 | exact HRG.out _ H3.out.2.2 | exact HRG.out _ H4.out.2.2)
    (first
      | (go_at_call 88; have := H3.out; refine (uint_any ch w0.drew.heap.size v3 (seed ++ varint leaf) w0.drew.heap.size w3 (by have := HT.out; omega) H3.out.1 (by have := varint_len10 leaf (by have := HT.out; omega); have := HT.out; simp; omega)).mono ?_
         rintro e w4 ⟨rfl, v4, hW4, hx4⟩
         have hvl : ∀ k, v3.ownBlock = some k → w0.heap.size ≤ k := fun k e => (H3.out.1.own.lt k e).1
         have H4 := Lib.hid (And.intro hW4 (And.intro (H3.out.2.1.trans (hx4.below (base := w0.heap.size) (Nat.le_refl _) H3.out.2.1.size hvl)) (H3.out.2.2.keep (hx4.block _ H3.out.2.2.lt (by have := H0.out.2.2.2; simp; omega) (fun e => by have := hvl _ e; have := H0.out.2.2.2; omega)))))
         clear hW4 hx4 hvl)
      | (go_at_call 88; refine (uint_any leaf w0.drew.heap.size v2 seed w0.drew.heap.size w2 (by have := HT.out; omega) H2.out.1 (by have := HT.out; omega)).mono ?_
         rintro e w3 ⟨rfl, v3, hW3, hx3⟩
         have hvl : ∀ k, v2.ownBlock = some k → w0.heap.size ≤ k := fun k e => (H2.out.1.own.lt k e).1
         have H3 := Lib.hid (And.intro hW3 (And.intro (H2.out.2.1.trans (hx3.below (base := w0.heap.size) (Nat.le_refl _) H2.out.2.1.size hvl)) (H2.out.2.2.keep (hx3.block _ H2.out.2.2.lt (by have := H0.out.2.2.2; simp; omega) (fun e => by have := hvl _ e; have := H0.out.2.2.2; omega)))))
         clear hW3 hx3 hvl)
      | (go_at_call 87; refine (hash_to csd seed w0.drew.heap.size (.slice none 0 0) [] w0.drew.heap.size w1 HCS.out HT.out.1 H1.out.1 (by simp)).mono ?_
         rintro e w2 ⟨rfl, v2, hW2, hx2⟩
         have H2 := Lib.hid (And.intro hW2 (And.intro (H1.out.2.1.trans (hx2.below (base := w0.heap.size) (Nat.le_refl _) H1.out.2.1.size (fun k e => by cases e))) (H1.out.2.2.keep (hx2.block _ H1.out.2.2.lt (by have := H0.out.2.2.2; simp; omega) (fun e => by cases e)))))
         clear hW2 hx2)
      | (go_at_call 86; refine (new_any w0.drew).mono ?_; rintro e w1 ⟨rfl, hW1, hb1⟩; have H1 := Lib.hid (And.intro hW1 (And.intro hb1 (H0.out.1.drew.below hb1))); clear hW1 hb1))
  have hz4 := H0.out.2.1.drew.below H4.out.2.1
  have hb4 : Below w.heap.size w w4 := below_then H0.out.2.2.1 H0.out.2.2.1.size (of_drew H4.out.2.1)
  have hB5 := hb4.alloc hb4.size (.cells #[B 2] 5)
  have H5 := Lib.hid (And.intro (H4.out.1.alloc (.cells #[B 2] 5)) (And.intro (hz4.alloc (.cells #[B 2] 5)) (And.intro hB5 (And.intro (World.ownsRow_lit (base := w4.heap.size) (e := 5) (size := 1) w4 #[B 2] 1 (Nat.le_refl _) (by decide) rfl) hz4.lt))))
  have HL := Lib.hid (show (seed ++ varint leaf ++ varint ch).length ≤ 100 by have := varint_len10 leaf (by have := HT.out; omega); have := varint_len10 ch (by have := HT.out; omega); have := HT.out; simp; omega)
  clear hz4 hb4 hB5 this hul huc
  go_wp2_with fail
  refine (done_any w0.heap.size v4 (seed ++ varint leaf ++ varint ch) _ _ H5.out.1 (by have := HL.out; omega)).mono ?_
  rintro e w6 ⟨v6, rfl, ho6, hb6⟩
  obtain ⟨A6, c6, rfl, hfit6, hrd6, _⟩ := own_slice ho6
  generalize hds : seed ++ varint leaf ++ varint ch = ds at *
  have hfs : firstF seed leaf ch = sumF (2 :: ds) := by unfold firstF; rw [← hds, List.append_assoc]
  have H6 := Lib.hid (And.intro (H5.out.2.2.1.trans (hb6.mono H5.out.2.2.1.size)) (And.intro (H5.out.2.1.below hb6) (And.intro (own_below H5.out.2.2.2.1 hb6) (And.intro hrd6 (show w4.heap.size ≤ w6.heap.size by have := hb6.size; simp at this; omega)))))
  have HF := Lib.hid (And.intro hfs hds)
  clear ho6 hb6 hfit6 hrd6 hfs hds
  have HLM := Lib.hid (show (1 + ds.length ≤ maxLen ∧ (1 + ds.length) * 1 ≤ 140737488355328) by have := HL.out; unfold maxLen; omega)
  go_wp2_with (at_builtin; refine wpList_app tBs rfl _ _ rfl w4.heap.size _ 1 [B 2] rfl H6.out.2.2.1 A6 ds.length c6 (ds.map B) rfl H6.out.2.2.2.1 (by simp) one_bytes HLM.out.1 HLM.out.2 H6.out.2.2.2.2 ?_)
  intro v7 w7 ho7 hx7
  have ho7' : w7.ownsRow w4.heap.size 5 1 v7 (1 + ds.length) ((2 :: ds).map B) := ho7
  obtain ⟨A7, c7, rfl, hfit7, hrd7, _⟩ := own_slice ho7'
  have hlt4 := H5.out.2.2.2.2
  have hB7 : Below w.heap.size w w7 := H6.out.1.grown hx7.grown H6.out.1.size (fun k e => by simp [Value.ownBlock] at e; omega)
  have hz7 := H6.out.2.1.grown hx7.grown (by simp [Value.ownBlock]; omega)
  have H7 := Lib.hid (And.intro hB7 (And.intro hz7 (And.intro hfit7 hrd7)))
  clear ho7 ho7' hx7 hfit7 hrd7 hB7 hz7
  go_wp2_with fail
  refine (sum_to A7 c7 (1 + ds.length) (2 :: ds) w7 w (by simp; omega) H7.out.1 H7.out.2.2.1 (by have := HL.out; omega) H7.out.2.2.2 HT.out.2.2.2).mono ?_
  rintro e w8 ⟨rfl, hb8⟩
  have hz8 := H7.out.2.1.below hb8
  have H8 := Lib.hid (below_then H7.out.1 H7.out.1.size hb8)
  have HLL := Lib.hid (show (some 32 : Option Nat) = some ((sumF (2 :: ds)).map B).length by rw [List.length_map, sumF_length])
  clear hb8
  go_wp2_with (refine wpList_store_blk rfl 28 (.tmp 6) (.tmp 21) rfl (w.heap.size + 1) ((sumF (2 :: ds)).map B) rfl rfl 28 _ hz8 (Eq.trans (by kernel_rfl) HLL.out) (by rw [List.length_map, sumF_length, List.length_replicate]) one_bytes ?_; intro w9 hw9 hg9)
  refine bodyPost_ret (results_blk rfl _ _ (w.heap.size + 1) 28 ((sumF (2 :: ds)).map B) _ rfl hw9 Tryd.underlying28 rfl (Eq.trans (by kernel_rfl) HLL.out)) rfl ⟨by rw [HF.out.1], ?_⟩
  exact H8.out.grown hg9 H8.out.size (fun k e => by injection e with e; omega)
#print axioms first_any
def ChInv (w : World) (seed : List UInt8) (leaf : Nat) (places : List Nat) (v7 v13 : Value) (wr : World) : Prop :=
  ∃ k : Nat, k ≤ places.length ∧ v13 = I k ∧ wr.ownsRow (w.heap.size + 1) 5 1 v7 (chainsN seed leaf places k).length ((chainsN seed leaf places k).map B) ∧ Blk wr w.heap.size 28 (seed.map B) ∧ Below w.heap.size w wr
set_option maxRecDepth 100000 in
set_option maxHeartbeats 2000000 in
theorem chains_any (A : Option Addr) (c n : Nat) (seed : List UInt8) (leaf : Nat) (places : List Nat) (w : World) (hn : places.length = n) (hs : seed.length = 32) (hl : leaf < 1024) (hp : n ≤ 67) (hr : Rd w A (places.map I)) (ht : TabLaid w) :
    Calls Tryd.prog 58 #[HV seed, .int .i64 leaf, .slice A n c] w fun e w' => ∃ v, e = .returned v ∧ w'.ownsRow w.heap.size 5 1 v (chainsN seed leaf places n).length ((chainsN seed leaf places n).map B) ∧ Below w.heap.size w w' := by
  have HT := Lib.hid (And.intro hn (And.intro hs (And.intro hl (And.intro hp (And.intro hr ht)))))
  have hpn : n ≤ 67 := hp
  clear hn hs hl hp hr ht
  go_enter Tryd.func58, Tryd.ntmps58
  go_wp2_with fail
  have hz0 := Blk_new w (seed.map B) 28
  have hb0 := (Below.refl w.heap.size w).alloc (Nat.le_refl _) (.cells (seed.map B).toArray 28)
  generalize w.alloc (.cells (seed.map B).toArray 28) = w0 at *
  go_loopw [7, 13] (fun v7 v13 wr => ChInv w seed leaf places v7 v13 wr) (fun _ v13 _ => n - (intOf v13).toNat)
  case atStart => exact ⟨0, Nat.zero_le _, rfl, World.ownsRow_nil _ _ _ _, hz0, hb0⟩
  case round =>
    obtain ⟨k, hk, rfl, ho, hz, hB⟩ := hrel
    clear hz0 hb0
    have hkn : k ≤ n := by rw [← HT.out.1]; exact hk
    clear hk
    by_cases hlt : k < n
    · obtain ⟨p, hp⟩ : ∃ p, places[k]? = some p := ⟨_, List.getElem?_eq_getElem (by rw [HT.out.1]; exact hlt)⟩
      obtain ⟨b, o, rfl, hb, hcell⟩ := HT.out.2.2.2.2.1.at_ (by rw [List.length_map, HT.out.1]; omega)
      have hcl : wr.cell? ⟨b, o + k, none⟩ = some (I p) := by
        have h := hcell k (by rw [List.length_map, HT.out.1]; exact hlt)
        rw [(hB.cell (p := ⟨b, o + k, none⟩) hb), h]
        have := (List.getElem?_eq_some_iff.1 hp).2
        simp [this]
      have hch : chainsN seed leaf places (k + 1) = chainsN seed leaf places k ++ stepF leaf k 0 p (firstF seed leaf k) := by
        rw [chainsN, List.getD_eq_getElem?_getD, hp]; rfl
      have hcln := chainsN_length seed leaf places k
      have hfl := firstF_length seed leaf k
      have hsl := stepF_length leaf k 0 p _ hfl
      obtain ⟨A7, c7, rfl, _⟩ := own_slice ho
      have HS := Lib.hid (And.intro ho (And.intro hz (And.intro hB hch)))
      have HL := Lib.hid (And.intro hcln (And.intro hfl hsl))
      have hz' := hz
      clear ho hz hB hch hcln hfl hsl hp hcell hb
      have HI := Lib.hid (show (some 32 : Option Nat) = some (seed.map B).length by rw [List.length_map, HT.out.2.1])
      go_wp2_with (refine wpList_load_blk rfl 28 (.tmp 3) rfl w.heap.size rfl 28 (seed.map B) _ hz' Tryd.underlying28 rfl (Eq.trans (by kernel_rfl) HI.out) ?_)
      refine (first_any seed leaf k wr HT.out.2.1 HT.out.2.2.1 (by omega) (HT.out.2.2.2.2.2.below HS.out.2.2.1 HT.out.2.2.2.2.2.lt)).mono ?_
      rintro e w4 ⟨rfl, hb4⟩
      have H4 := Lib.hid (And.intro (below_then HS.out.2.2.1 HS.out.2.2.1.size hb4) (And.intro (HS.out.2.1.below hb4) (own_below HS.out.1 hb4)))
      clear hb4 hz'
      generalize hfv : firstF seed leaf k = fv at *
      go_wp2_with fail
      refine (step_any fv leaf k 0 p leaf k w4 HL.out.2.1 (u64_nat (by have := HT.out; omega)) (by have := HT.out; omega) (u64_nat (by omega)) (by omega) (HT.out.2.2.2.2.2.below H4.out.1 HT.out.2.2.2.2.2.lt)).mono ?_
      rintro e w5 ⟨rfl, hb5⟩
      rw [show stepF leaf k (Int.toNat 0) ((p : Int).toNat) fv = stepF leaf k 0 p fv from rfl]
      have H5 := Lib.hid (And.intro (below_then H4.out.1 H4.out.1.size hb5) (And.intro (H4.out.2.1.below hb5) (own_below H4.out.2.2 hb5)))
      clear hb5
      generalize hsv : stepF leaf k 0 p fv = sv at *
      have HLL := Lib.hid (show (some 32 : Option Nat) = some (sv.map B).length by rw [List.length_map, HL.out.2.2])
      have HFS := Lib.hid (And.intro hfv hsv)
      clear hfv hsv
      go_wp2_with (first
        | (refine wpList_store_blk rfl 28 (.tmp 10) (.tmp 25) rfl w5.heap.size (sv.map B) rfl rfl 28 _ (heap_alloc_new w5 _) (Eq.trans (by kernel_rfl) HLL.out) (by rw [List.length_map, HL.out.2.2]; rfl) one_bytes ?_; intro w6 hw6 hg6
           have hb6 : Below w5.heap.size w5 w6 := ((Below.refl w5.heap.size w5).alloc (Nat.le_refl _) _).grown hg6 (by simp) (fun r e => by injection e with e; omega)
           have H6 := Lib.hid (And.intro hw6 (And.intro (below_then H5.out.1 H5.out.1.size hb6) (And.intro (H5.out.2.1.below hb6) (own_below H5.out.2.2 hb6))))
           clear hw6 hg6 hb6)
        | (at_builtin; refine wpList_app tBs rfl _ _ rfl (w.heap.size + 1) _ (chainsN seed leaf places k).length ((chainsN seed leaf places k).map B) rfl H6.out.2.2.2 (some ⟨w5.heap.size, 0, none⟩) 32 32 (sv.map B) rfl H6.out.1.rd0 (by rw [List.length_map, HL.out.2.2]) one_bytes (by have := HL.out; unfold maxLen; omega) (by have := HL.out; omega) (by have := H6.out.2.2.1.lt; omega) ?_))
      intro v7 w7 ho7 hx7
      obtain ⟨A7', c7', rfl, _⟩ := own_slice ho7
      have hlow : ∀ q, (Value.slice A7 (chainsN seed leaf places k).length c7).ownBlock = some q → w.heap.size + 1 ≤ q := fun q e => (H6.out.2.2.2.lt q e).1
      have H7 := Lib.hid (And.intro ho7 (And.intro (H6.out.2.2.1.grown hx7.grown (fun e => by have := hlow _ e; omega)) (H6.out.2.1.grown hx7.grown H6.out.2.1.size (fun q e => by have := hlow q e; omega))))
      clear ho7 hx7 hlow
      go_wp2_with fail
      go_roundw
      case rel =>
        refine ⟨k + 1, by rw [HT.out.1]; omega, by go_num, ?_, H7.out.2.1, H7.out.2.2⟩
        rw [HS.out.2.2.2, List.length_append, List.map_append, HL.out.2.2]
        exact H7.out.1
      case measure => simp [intOf]; omega
    · obtain rfl : k = n := by omega
      go_wp2_with fail
      go_ret
      exact ⟨_, rfl, own_mono ho (by omega), hB⟩
#print axioms chains_any
end Go.Proofs.YtcgdojdiihdkeaaDoor
