/- Layer 1's reference: turn, constants by their contracts. -/
import Derived.Test.YtcgdojdiihdkeaaDoorRefP
import Derived.Test.YtcgdojdiihdkeaaDoorShaC
import Derived.Test.YtcgdojdiihdkeaaDoorPackT
namespace Go.Isth
open Go Go.RowKit
/-- Two results that lie in blocks. -/
theorem results_cells2 {P : Program} {fn : Func} {p q : Tmp} {tp tq : TypeId} (h : fn.results = #[.cell p tp, .cell q tq]) (tmps : Array Value) (w : World) (g g' : Nat) (t t' : TypeId) (cs cs' : List Value) (d d' : TypeDesc)
    (hp : tmps.getD p undef = .pointer (some ⟨g, 0, none⟩)) (hg : Blk w g t cs) (hu : P.underlying tp = some d) (hd : (match d with | .struct _ => true | .array _ _ => true | _ => false) = true) (hi : (P.info? tp).map (·.size) = some cs.length)
    (hq : tmps.getD q undef = .pointer (some ⟨g', 0, none⟩)) (hg' : Blk w g' t' cs') (hu' : P.underlying tq = some d') (hd' : (match d' with | .struct _ => true | .array _ _ => true | _ => false) = true) (hi' : (P.info? tq).map (·.size) = some cs'.length) :
    (results fn tmps).run P w = .ok (.tuple #[.agg cs.toArray, .agg cs'.toArray]) w := by
  have hl := run_load_agg (P := P) hu hd hi w ⟨g, 0, none⟩ cs rfl (fun j u hj => by rw [add_plain, Nat.zero_add]; exact hg.cellD j u hj)
  have hl' := run_load_agg (P := P) hu' hd' hi' w ⟨g', 0, none⟩ cs' rfl (fun j u hj => by rw [add_plain, Nat.zero_add]; exact hg'.cellD j u hj)
  have hp2 : tmps[p]?.getD undef = .pointer (some ⟨g, 0, none⟩) := by simpa using hp
  have hq2 : tmps[q]?.getD undef = .pointer (some ⟨g', 0, none⟩) := by simpa using hq
  simp [results, h, hp2, hq2, asAddr, hl, hl', Result.andThen]
end Go.Isth
namespace Go.Proofs.YtcgdojdiihdkeaaDoor
open Go Go.RowKit Go.Isth

def rotT (x : W32) (k : Int) : W32 := rotr x k.toNat
theorem turn_any (x : W32) (k : Int) (w : World) (h0 : 0 < k) (h1 : k < 32) : Calls Tryd.prog 65 #[U x, .int .u64 k] w fun e w' => e = .returned (U (rotT x k)) ∧ w' = w := by
  obtain ⟨m, rfl⟩ := Int.eq_ofNat_of_zero_le (show 0 ≤ k by omega)
  have hm : m < 32 := by omega
  have hsub : (32 : Int) - (m : Int) = ((32 - m : Nat) : Int) := by omega
  go_enter Tryd.func65, Tryd.ntmps65
  go_wp2
  go_ret
  refine ⟨congrArg (fun z => Ending.returned (.int .u32 z)) ?_, rfl⟩
  rw [shl32, shr32, or32, BitVec.or_comm]
  rfl
abbrev kVals : List Value := [.int .u32 1116352408, .int .u32 1899447441, .int .u32 3049323471, .int .u32 3921009573, .int .u32 961987163, .int .u32 1508970993, .int .u32 2453635748, .int .u32 2870763221, .int .u32 3624381080, .int .u32 310598401, .int .u32 607225278, .int .u32 1426881987, .int .u32 1925078388, .int .u32 2162078206, .int .u32 2614888103, .int .u32 3248222580, .int .u32 3835390401, .int .u32 4022224774, .int .u32 264347078, .int .u32 604807628, .int .u32 770255983, .int .u32 1249150122, .int .u32 1555081692, .int .u32 1996064986, .int .u32 2554220882, .int .u32 2821834349, .int .u32 2952996808, .int .u32 3210313671, .int .u32 3336571891, .int .u32 3584528711, .int .u32 113926993, .int .u32 338241895, .int .u32 666307205, .int .u32 773529912, .int .u32 1294757372, .int .u32 1396182291, .int .u32 1695183700, .int .u32 1986661051, .int .u32 2177026350, .int .u32 2456956037, .int .u32 2730485921, .int .u32 2820302411, .int .u32 3259730800, .int .u32 3345764771, .int .u32 3516065817, .int .u32 3600352804, .int .u32 4094571909, .int .u32 275423344, .int .u32 430227734, .int .u32 506948616, .int .u32 659060556, .int .u32 883997877, .int .u32 958139571, .int .u32 1322822218, .int .u32 1537002063, .int .u32 1747873779, .int .u32 1955562222, .int .u32 2024104815, .int .u32 2227730452, .int .u32 2361852424, .int .u32 2428436474, .int .u32 2756734187, .int .u32 3204031479, .int .u32 3329325298]
theorem kVals_eq : kTab.map U = kVals := by kernel_rfl
abbrev hVals : List Value := [.int .u32 1779033703, .int .u32 3144134277, .int .u32 1013904242, .int .u32 2773480762, .int .u32 1359893119, .int .u32 2600822924, .int .u32 528734635, .int .u32 1541459225]
theorem hVals_eq : kStart.list.map U = hVals := by kernel_rfl
set_option maxRecDepth 100000 in
set_option maxHeartbeats 2000000 in
theorem constants_any (w : World) : Calls Tryd.prog 64 #[] w fun e w' => e = .returned (.tuple #[.agg (kTab.map U).toArray, WV kStart]) ∧ Below w.heap.size w w' := by
  go_enter Tryd.func64, Tryd.ntmps64
  go_upto_region 1 with fail
  have hz1 := (Blk_new w (List.replicate 64 (Value.int .u32 0)) 100).alloc (.cells (List.replicate 8 (Value.int .u32 0)).toArray 81)
  have hz2 := Blk_new (w.alloc (.cells (List.replicate 64 (Value.int .u32 0)).toArray 100)) (List.replicate 8 (Value.int .u32 0)) 81
  have hb0 := ((Below.refl w.heap.size w).alloc (Nat.le_refl _) (.cells (List.replicate 64 (Value.int .u32 0)).toArray 100)).alloc (by simp) (.cells (List.replicate 8 (Value.int .u32 0)).toArray 81)
  simp only [World.size_alloc] at hz2
  change Code.wp _ _ _ _ ((w.alloc (.cells (List.replicate 64 (Value.int .u32 0)).toArray 100)).alloc (.cells (List.replicate 8 (Value.int .u32 0)).toArray 81))
  generalize (w.alloc (.cells (List.replicate 64 (Value.int .u32 0)).toArray 100)).alloc (.cells (List.replicate 8 (Value.int .u32 0)).toArray 81) = w0 at *
  go_wp2_with (first
    | (refine wpList_store_blk rfl 100 (.tmp 0) (.tmp 2) rfl w.heap.size kVals rfl rfl 100 _ hz1 (by kernel_rfl) (by rfl) (by decide) ?_; intro w1 hw1 hg1
       have hz3 := hz2.grown hg1 (by simp)
       have hb1 := hb0.grown hg1 hb0.size (fun k e => by injection e with e; omega))
    | (refine wpList_store_blk rfl 81 (.tmp 1) (.tmp 3) rfl (w.heap.size + 1) hVals rfl rfl 81 _ hz3 (by kernel_rfl) (by rfl) (by decide) ?_; intro w2 hw2 hg2
       have hz4 := hw1.grown hg2 (by simp)
       have hb2 := hb1.grown hg2 hb1.size (fun k e => by injection e with e; omega)))
  refine bodyPost_ret (results_cells2 rfl _ _ w.heap.size (w.heap.size + 1) 100 81 kVals hVals _ _ rfl hz4 Tryd.underlying100 rfl (by kernel_rfl) rfl hw2 Tryd.underlying81 rfl (by kernel_rfl)) rfl ⟨by rw [kVals_eq]; show _ = Ending.returned (.tuple #[_, .agg (kStart.list.map U).toArray]); rw [hVals_eq], hb2⟩
#print axioms turn_any
#print axioms constants_any
end Go.Proofs.YtcgdojdiihdkeaaDoor
