/- Layer 1: Fold by its contract. -/
import Derived.Test.YtcgdojdiihdkeaaDoorTurns
namespace Go.Proofs.YtcgdojdiihdkeaaDoor
open Go Go.RowKit Go.Isth

def foldH (x : List UInt8) (ts : List Bool) (ps : List (List UInt8)) : List UInt8 := foldG nodeF x ts ps
theorem foldH_length (ts : List Bool) : ∀ (ps : List (List UInt8)) (x : List UInt8), x.length = 32 → (foldH x ts ps).length = 32 := by
  induction ts with
  | nil => intro ps x hx; cases ps <;> exact hx
  | cons t ts ih =>
    intro ps x hx
    cases ps with
    | nil => exact hx
    | cons p ps =>
      show (foldH (if t then nodeF p x else nodeF x p) ts ps).length = 32
      exact ih _ _ (by split <;> exact nodeF_length _ _)
theorem foldH_step (x : List UInt8) {ts : List Bool} {ps : List (List UInt8)} {k : Nat} {t : Bool} {p : List UInt8} (ht : ts[k]? = some t) (hp : ps[k]? = some p) :
    foldH x (ts.drop k) (ps.drop k) = foldH (if t then nodeF p x else nodeF x p) (ts.drop (k + 1)) (ps.drop (k + 1)) := by
  obtain ⟨h1, rfl⟩ := List.getElem?_eq_some_iff.1 ht
  obtain ⟨h2, rfl⟩ := List.getElem?_eq_some_iff.1 hp
  rw [List.drop_eq_getElem_cons h1, List.drop_eq_getElem_cons h2]
  rfl
theorem results_blk2 {P : Program} {fn : Func} {p u : Tmp} {ty : TypeId} (h : fn.results = #[.cell p ty, .tmp u]) (tmps : Array Value) (w : World) (g : Nat) (t : TypeId) (cs : List Value) (d : TypeDesc)
    (hp : tmps.getD p undef = .pointer (some ⟨g, 0, none⟩)) (hg : Blk w g t cs)
    (hu : P.underlying ty = some d) (hd : (match d with | .struct _ => true | .array _ _ => true | _ => false) = true) (hi : (P.info? ty).map (·.size) = some cs.length) :
    (results fn tmps).run P w = .ok (.tuple #[.agg cs.toArray, tmps.getD u undef]) w := by
  rw [results_cell_tmp h, hp]
  have hl := run_load_agg (P := P) hu hd hi w ⟨g, 0, none⟩ cs rfl (fun j u hj => by rw [add_plain, Nat.zero_add]; exact hg.cellD j u hj)
  simp [asAddr, hl, Result.andThen]
def FoldInv (w : World) (x : List UInt8) (ts : List Bool) (At : Option Addr) (ps : List (List UInt8)) (i : Value) (wr : World) : Prop :=
  ∃ (k : Nat) (cur : List UInt8), i = .int .i64 k ∧ k ≤ ps.length ∧ cur.length = 32 ∧ foldH cur (ts.reverse.drop k) (ps.drop k) = foldH x ts.reverse ps ∧ Blk wr w.heap.size 28 (cur.map B) ∧ Blk wr (w.heap.size + 1) 28 (List.replicate 32 (B 0)) ∧ Rd wr At (ts.map Value.bool) ∧ Below w.heap.size w wr
set_option maxRecDepth 100000 in
set_option maxHeartbeats 2000000 in
theorem fold_any (x : List UInt8) (i n : Nat) (A : Option Addr) (c : Nat) (ps : List (List UInt8)) (w : World) (hx : x.length = 32) (hi : i < n) (hn : n ≤ 1000000) (hl : ps.length = (turnsG i n).length) (hc : ps.length ≤ c) (h32 : All32 ps) (hr : Rd w A (cellsH ps)) (ht : TabLaid w) :
    Calls Tryd.prog 29 #[HV x, .int .i64 i, .int .i64 n, .slice A ps.length c] w fun e w' => e = .returned (.tuple #[HV (foldH x (turnsG i n).reverse ps), .nilIface]) ∧ Below w.heap.size w w' := by
  have HT := Lib.hid (And.intro hx (And.intro hi (And.intro hn (And.intro hl (And.intro hc (And.intro h32 (And.intro hr ht)))))))
  have hi0 : ¬ (i : Int) < 0 := by omega
  have hin : ¬ (n : Int) ≤ (i : Int) := by omega
  clear hx hn hl hc h32 hr ht hi
  go_enter Tryd.func29, Tryd.ntmps29
  go_wp2_with fail
  have hb0 : Below w.heap.size w ((w.alloc (.cells (x.map B).toArray 28)).alloc (.cells (List.replicate 32 (B 0)).toArray 28)) := ((Below.refl _ _).alloc (Nat.le_refl _) _).alloc (by simp) _
  have hz1 : Blk ((w.alloc (.cells (x.map B).toArray 28)).alloc (.cells (List.replicate 32 (B 0)).toArray 28)) w.heap.size 28 (x.map B) := (Blk_new w _ _).alloc _
  have hz2 : Blk ((w.alloc (.cells (x.map B).toArray 28)).alloc (.cells (List.replicate 32 (B 0)).toArray 28)) (w.heap.size + 1) 28 (List.replicate 32 (B 0)) := by
    have h := Blk_new (w.alloc (.cells (x.map B).toArray 28)) (List.replicate 32 (B 0)) 28
    rwa [World.size_alloc] at h
  have hz3 : ((w.alloc (.cells (x.map B).toArray 28)).alloc (.cells (List.replicate 32 (B 0)).toArray 28)).heap.size = w.heap.size + 2 := by simp
  change Calls _ _ _ ((w.alloc (.cells (x.map B).toArray 28)).alloc (.cells (List.replicate 32 (B 0)).toArray 28)) _
  generalize ((w.alloc (.cells (x.map B).toArray 28)).alloc (.cells (List.replicate 32 (B 0)).toArray 28)) = w0 at *
  refine (turns_any i n HT.out.2.1 HT.out.2.2.1 w0).mono ?_
  rintro e w1 ⟨vt, rfl, ho, hb1⟩
  have hlen := HT.out.2.2.2.1
  generalize hts : turnsG i n = ts at *
  obtain ⟨At, ct, rfl, _, hrt, _, hat⟩ := own_slice ho
  rw [hz3] at hat
  have H1 := Lib.hid (And.intro (below_then hb0 hb0.size hb1) (And.intro (hz1.below hb1) (And.intro (hz2.below hb1) (And.intro hrt hat))))
  have hz1' := hz1.lt
  have HLEN := Lib.hid hlen
  have hbeq : ((ts.length : Int) != (ps.length : Int)) = false := by rw [hlen]; simp
  clear hb0 hz1 hz2 hz3 hb1 hrt hat hz1' hlen ho
  go_wp2_with fail
  clear hbeq hi0 hin
  have HG := Lib.hid hts
  clear hts
  go_loopw [40] (fun i wr => FoldInv w x ts At ps i wr) (fun i _ => ps.length - (intOf i).toNat)
  case atStart => exact ⟨0, x, rfl, Nat.zero_le _, HT.out.1, by simp, H1.out.2.1, H1.out.2.2.1, H1.out.2.2.2.1, H1.out.1⟩
  case round =>
    obtain ⟨k, cur, rfl, hk, h32, heq, hb4, hb8, hrt, hB⟩ := hrel
    by_cases hlt : k < ps.length
    · obtain ⟨b, o, rfl⟩ := rdH_some HT.out.2.2.2.2.2.2.1 HT.out.2.2.2.2.2.1 (by omega)
      obtain ⟨p, hp⟩ : ∃ p, ps[k]? = some p := ⟨_, List.getElem?_eq_getElem hlt⟩
      have htl : ts.length - 1 - k < ts.length := by have := HLEN.out; omega
      obtain ⟨t, htt⟩ : ∃ t, ts[ts.length - 1 - k]? = some t := ⟨_, List.getElem?_eq_getElem htl⟩
      have htr : ts.reverse[k]? = some t := by rw [List.getElem?_reverse (by have := HLEN.out; omega)]; exact htt
      have hld := load_hash (P := Tryd.prog) Tryd.underlying28 rfl (by kernel_rfl) (HT.out.2.2.2.2.2.2.1.below hB) HT.out.2.2.2.2.2.1 hp
      obtain ⟨bt, ot, rfl, hcells⟩ := hrt (by rw [List.length_map]; omega)
      have hp32 : p.length = 32 := HT.out.2.2.2.2.2.1 p (List.mem_of_getElem? hp)
      have hct := hcells (ts.length - 1 - k) (.bool t) (by simp [htt])
      have hbt := H1.out.2.2.2.2 _ rfl
      have hbl := World.block_lt_of_cell? wr _ hct
      have HS := Lib.hid (And.intro hlt (And.intro h32 (And.intro heq (And.intro hb4 (And.intro hb8 (And.intro (show Rd wr (some ⟨bt, ot, none⟩) (ts.map Value.bool) from fun _ => ⟨bt, ot, rfl, hcells⟩) (And.intro hB (And.intro hp (And.intro htr (And.intro hld (And.intro hp32 hct)))))))))))
      have HBT := Lib.hid (And.intro hbt hbl)
      have hki : (k : Int) < (ps.length : Int) := by omega
      have HLP := Lib.hid (show (some 32 : Option Nat) = some (p.map B).length by rw [List.length_map, hp32])
      clear hk h32 heq hb4 hb8 hrt hB hp htl htt htr hld hcells hp32 hct hbt hbl hlt
      have hidx : wrap64 (wrap64 ((ts.length : Int) - 1) - (k : Int)) = ((ts.length - 1 - k : Nat) : Int) := by
        have h1 := HLEN.out
        have h2 := HS.out.1
        have h3 := turnsG_le n i
        rw [HG.out] at h3
        have h4 := HT.out.2.2.1
        rw [IntWalk.wrap64_in ((ts.length : Int) - 1) ⟨by omega, by omega⟩, IntWalk.wrap64_in _ ⟨by omega, by omega⟩]
        omega
      have hk64 : wrap64 ((k : Int) + 1) = ((k + 1 : Nat) : Int) := by
        have h1 := HLEN.out
        have h2 := HS.out.1
        have h3 := turnsG_le n i
        rw [HG.out] at h3
        have h4 := HT.out.2.2.1
        rw [IntWalk.wrap64_in _ ⟨by omega, by omega⟩]; omega
      have hlt3 : ((ts.length - 1 - k : Nat) : Int) < (ts.length : Int) := by have h1 := HLEN.out; have h2 := HS.out.1; omega
      have HLC := Lib.hid (show (some 32 : Option Nat) = some (cur.map B).length by rw [List.length_map, HS.out.2.1])
      cases t
      · go_wp2_with (first
          | refine wpList_load rfl (.tmp 43) rfl _ _ rfl HS.out.2.2.2.2.2.2.2.2.2.1 ?_
          | (refine wpList_store_blk rfl 28 (.tmp 12) (.tmp 44) rfl wr.heap.size (p.map B) rfl rfl 28 _ (heap_alloc_new wr _) (Eq.trans (by kernel_rfl) HLP.out) (by rw [List.length_map, HS.out.2.2.2.2.2.2.2.2.2.2.1]; rfl) one_bytes ?_; intro w5 hw5 hg5
             have hb5 : Below wr.heap.size wr w5 := ((Below.refl wr.heap.size wr).alloc (Nat.le_refl _) _).grown hg5 (by simp) (fun q e => by injection e with e; omega)
             have hc5 : w5.cell? ⟨bt, ot + (ts.length - 1 - k), none⟩ = some (.bool false) := (hb5.cell (p := ⟨bt, ot + (ts.length - 1 - k), none⟩) HBT.out.2).trans HS.out.2.2.2.2.2.2.2.2.2.2.2
             have H5 := Lib.hid (And.intro hb5 (And.intro hw5 (HS.out.2.2.2.1.below hb5)))
             clear hw5 hg5 hb5)
          | refine wpList_load_blk rfl 28 (.tmp 12) rfl wr.heap.size rfl 28 (p.map B) _ H5.out.2.1 Tryd.underlying28 rfl (Eq.trans (by kernel_rfl) HLP.out) ?_
          | refine wpList_load_blk rfl 28 (.tmp 4) rfl w.heap.size rfl 28 (cur.map B) _ H5.out.2.2 Tryd.underlying28 rfl (Eq.trans (by kernel_rfl) HLC.out) ?_)
        refine (node_any cur p HS.out.2.1 HS.out.2.2.2.2.2.2.2.2.2.2.1 w5 (HT.out.2.2.2.2.2.2.2.below (below_then HS.out.2.2.2.2.2.2.1 HS.out.2.2.2.2.2.2.1.size H5.out.1) HT.out.2.2.2.2.2.2.2.lt)).mono ?_
        rintro e w6 ⟨rfl, hb6⟩
        have H6 := Lib.hid (And.intro (H5.out.1.trans (hb6.mono H5.out.1.size)) (H5.out.2.2.below hb6))
        have HLN := Lib.hid (show (some 32 : Option Nat) = some ((nodeF cur p).map B).length by rw [List.length_map, nodeF_length])
        clear hb6 hc5
        go_wp2_with (refine wpList_store_blk rfl 28 (.tmp 4) (.tmp 58) rfl w.heap.size ((nodeF cur p).map B) rfl rfl 28 _ H6.out.2 (Eq.trans (by kernel_rfl) HLN.out) (by rw [List.length_map, List.length_map, nodeF_length, HS.out.2.1]) one_bytes ?_; intro w7 hw7 hg7; have H7 := Lib.hid (And.intro hw7 hg7); clear hw7 hg7)
        go_roundw
        case rel =>
          refine ⟨k + 1, nodeF cur p, by first | rw [hk64] | rfl, HS.out.1, nodeF_length _ _, ?_, H7.out.1, ?_, ?_, ?_⟩
          · rw [← HS.out.2.2.1, foldH_step cur HS.out.2.2.2.2.2.2.2.2.1 HS.out.2.2.2.2.2.2.2.1]; rfl
          · exact (HS.out.2.2.2.2.1.below H6.out.1).grown H7.out.2 (by simp)
          · exact (HS.out.2.2.2.2.2.1.below H6.out.1).grown H7.out.2 (fun ad e => by injection e with e; subst e; have := HBT.out.1.1; simp; omega)
          · exact (HS.out.2.2.2.2.2.2.1.trans (H6.out.1.mono HS.out.2.2.2.2.2.2.1.size)).grown H7.out.2 (by have := HS.out.2.2.2.2.2.2.1.size; have := H6.out.1.size; omega) (fun q e => by injection e with e; omega)
        case measure => have := HS.out.1; first | rw [hk64] | skip
                        show ps.length - ((k + 1 : Nat) : Int).toNat < ps.length - ((k : Nat) : Int).toNat; omega
      · go_wp2_with (first
          | refine wpList_load rfl (.tmp 43) rfl _ _ rfl HS.out.2.2.2.2.2.2.2.2.2.1 ?_
          | (refine wpList_store_blk rfl 28 (.tmp 12) (.tmp 44) rfl wr.heap.size (p.map B) rfl rfl 28 _ (heap_alloc_new wr _) (Eq.trans (by kernel_rfl) HLP.out) (by rw [List.length_map, HS.out.2.2.2.2.2.2.2.2.2.2.1]; rfl) one_bytes ?_; intro w5 hw5 hg5
             have hb5 : Below wr.heap.size wr w5 := ((Below.refl wr.heap.size wr).alloc (Nat.le_refl _) _).grown hg5 (by simp) (fun q e => by injection e with e; omega)
             have hc5 : w5.cell? ⟨bt, ot + (ts.length - 1 - k), none⟩ = some (.bool true) := (hb5.cell (p := ⟨bt, ot + (ts.length - 1 - k), none⟩) HBT.out.2).trans HS.out.2.2.2.2.2.2.2.2.2.2.2
             have H5 := Lib.hid (And.intro hb5 (And.intro hw5 (HS.out.2.2.2.1.below hb5)))
             clear hw5 hg5 hb5)
          | refine wpList_load_blk rfl 28 (.tmp 12) rfl wr.heap.size rfl 28 (p.map B) _ H5.out.2.1 Tryd.underlying28 rfl (Eq.trans (by kernel_rfl) HLP.out) ?_
          | refine wpList_load_blk rfl 28 (.tmp 4) rfl w.heap.size rfl 28 (cur.map B) _ H5.out.2.2 Tryd.underlying28 rfl (Eq.trans (by kernel_rfl) HLC.out) ?_)
        refine (node_any p cur HS.out.2.2.2.2.2.2.2.2.2.2.1 HS.out.2.1 w5 (HT.out.2.2.2.2.2.2.2.below (below_then HS.out.2.2.2.2.2.2.1 HS.out.2.2.2.2.2.2.1.size H5.out.1) HT.out.2.2.2.2.2.2.2.lt)).mono ?_
        rintro e w6 ⟨rfl, hb6⟩
        have H6 := Lib.hid (And.intro (H5.out.1.trans (hb6.mono H5.out.1.size)) (H5.out.2.2.below hb6))
        have HLN := Lib.hid (show (some 32 : Option Nat) = some ((nodeF p cur).map B).length by rw [List.length_map, nodeF_length])
        clear hb6 hc5
        go_wp2_with (refine wpList_store_blk rfl 28 (.tmp 4) (.tmp 55) rfl w.heap.size ((nodeF p cur).map B) rfl rfl 28 _ H6.out.2 (Eq.trans (by kernel_rfl) HLN.out) (by rw [List.length_map, List.length_map, nodeF_length, HS.out.2.1]) one_bytes ?_; intro w7 hw7 hg7; have H7 := Lib.hid (And.intro hw7 hg7); clear hw7 hg7)
        go_roundw
        case rel =>
          refine ⟨k + 1, nodeF p cur, by first | rw [hk64] | rfl, HS.out.1, nodeF_length _ _, ?_, H7.out.1, ?_, ?_, ?_⟩
          · rw [← HS.out.2.2.1, foldH_step cur HS.out.2.2.2.2.2.2.2.2.1 HS.out.2.2.2.2.2.2.2.1]; rfl
          · exact (HS.out.2.2.2.2.1.below H6.out.1).grown H7.out.2 (by simp)
          · exact (HS.out.2.2.2.2.2.1.below H6.out.1).grown H7.out.2 (fun ad e => by injection e with e; subst e; have := HBT.out.1.1; simp; omega)
          · exact (HS.out.2.2.2.2.2.2.1.trans (H6.out.1.mono HS.out.2.2.2.2.2.2.1.size)).grown H7.out.2 (by have := HS.out.2.2.2.2.2.2.1.size; have := H6.out.1.size; omega) (fun q e => by injection e with e; omega)
        case measure => have := HS.out.1; first | rw [hk64] | skip
                        show ps.length - ((k + 1 : Nat) : Int).toNat < ps.length - ((k : Nat) : Int).toNat; omega
    · obtain rfl : k = ps.length := by omega
      have hrl : ts.reverse.drop ps.length = [] := by rw [List.drop_eq_nil_iff, List.length_reverse, HLEN.out]; exact Nat.le_refl _
      rw [hrl, List.drop_length] at heq
      have heq' : cur = foldH x ts.reverse ps := heq
      have HS := Lib.hid (And.intro h32 (And.intro heq' (And.intro hb4 (And.intro hb8 hB))))
      have HLC := Lib.hid (show (some 32 : Option Nat) = some (cur.map B).length by rw [List.length_map, h32])
      clear hk h32 heq heq' hb4 hb8 hrt hB hlt hrl
      go_wp2_with (first
        | refine wpList_load_blk rfl 28 (.tmp 4) rfl w.heap.size rfl 28 (cur.map B) _ HS.out.2.2.1 Tryd.underlying28 rfl (Eq.trans (by kernel_rfl) HLC.out) ?_
        | (refine wpList_store_blk rfl 28 (.tmp 8) (.tmp 60) rfl (w.heap.size + 1) (cur.map B) rfl rfl 28 _ HS.out.2.2.2.1 (Eq.trans (by kernel_rfl) HLC.out) (by rw [List.length_map, HS.out.1, List.length_replicate]) one_bytes ?_; intro w5 hw5 hg5))
      refine bodyPost_ret (results_blk2 rfl _ _ (w.heap.size + 1) 28 (cur.map B) _ rfl hw5 Tryd.underlying28 rfl (Eq.trans (by kernel_rfl) HLC.out)) rfl ⟨?_, ?_⟩
      · rw [HG.out, ← HS.out.2.1]; rfl
      · exact HS.out.2.2.2.2.grown hg5 HS.out.2.2.2.2.size (fun q e => by injection e with e; omega)
#print axioms fold_any
end Go.Proofs.YtcgdojdiihdkeaaDoor
