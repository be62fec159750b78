/- WotsBack: the walk where a leaf or a digest cannot be. -/
import Derived.Test.YtcgdojdiihdkeaaDoorWots7
import Derived.Deep.RegionHeld3
namespace Go.Proofs.YtcgdojdiihdkeaaDoor
open Go Go.RowKit Go.Isth

/-- A case's cells. -/
abbrev caseCells (seed : List UInt8) (leaf : Int) (sl : Value) : List Value := seed.map B ++ [.int .i64 leaf, sl]
structure CaseAt (w : World) (p : Nat) (csd : List Value) (leaf : Int) (sl : Value) : Prop where
  rg : w.rangeAt p 0 csd
  leaf : w.cell? ⟨p, 32, none⟩ = some (.int .i64 leaf)
  sl : w.cell? ⟨p, 33, none⟩ = some sl
theorem CaseAt.of_blk {w : World} {p : Nat} {t : TypeId} {seed : List UInt8} {leaf : Int} {sl : Value} (h : Blk w p t (caseCells seed leaf sl)) (hs : seed.length = 32) : CaseAt w p (seed.map B) leaf sl :=
  ⟨fun j v hv => by rw [Nat.zero_add]; exact h.cellD j v (by rw [List.getElem?_append_left (List.getElem?_eq_some_iff.1 hv).1]; exact hv),
   h.cellD 32 _ (by rw [List.getElem?_append_right (by simp; omega)]; simp [hs]), h.cellD 33 _ (by rw [List.getElem?_append_right (by simp; omega)]; simp [hs])⟩
theorem CaseAt.below {w w' : World} {p : Nat} {csd : List Value} {leaf : Int} {sl : Value} (h : CaseAt w p csd leaf sl) (hb : Below w.heap.size w w') (hp : p < w.heap.size) : CaseAt w' p csd leaf sl :=
  ⟨fun j v hv => (hb.cell (p := ⟨p, 0 + j, none⟩) hp).trans (h.rg j v hv), (hb.cell (p := ⟨p, 32, none⟩) hp).trans h.leaf, (hb.cell (p := ⟨p, 33, none⟩) hp).trans h.sl⟩
theorem CaseAt.grown {w w' : World} {p g : Nat} {csd : List Value} {leaf : Int} {sl : Value} (h : CaseAt w p csd leaf sl) (hg : w.grownBy w' (some g)) (hp : p < w.heap.size) (hne : g ≠ p) : CaseAt w' p csd leaf sl := by
  have e := hg.block p hp (by intro e; injection e with e; exact hne e.symm)
  exact ⟨fun j v hv => by rw [World.cell?_of_block (w := w) (a := ⟨p, 0 + j, none⟩) e]; exact h.rg j v hv, by rw [World.cell?_of_block (w := w) (a := ⟨p, 32, none⟩) e]; exact h.leaf, by rw [World.cell?_of_block (w := w) (a := ⟨p, 33, none⟩) e]; exact h.sl⟩
theorem CaseAt.drew {w : World} {p : Nat} {csd : List Value} {leaf : Int} {sl : Value} (h : CaseAt w p csd leaf sl) : CaseAt w.drew p csd leaf sl := ⟨h.rg, h.leaf, h.sl⟩
theorem CaseAt.drewN {w : World} {p : Nat} {csd : List Value} {leaf : Int} {sl : Value} (h : CaseAt w p csd leaf sl) (n : Nat) : CaseAt (w.drewN n) p csd leaf sl := ⟨h.rg, h.leaf, h.sl⟩

theorem sign_no' (cs : List Value) (seed : List UInt8) (leaf : Int) (A : Option Addr) (n c : Nat) (w : World) (hcs : cs = seed.map B) (h : Bad05 leaf n) :
    Calls Tryd.prog 19 #[.agg cs.toArray, .int .i64 leaf, .slice A n c] w fun e w' => ∃ v, e = .returned (.tuple #[.slice none 0 0, v]) ∧ FaultIs w' v 1 ∧ Below w.heap.size w w' := by
  subst hcs
  exact sign_no seed leaf A n c w h
theorem public_no' (cs : List Value) (seed : List UInt8) (leaf n : Int) (w : World) (hcs : cs = seed.map B) (hs : seed.length = 32) (h : Bad05 leaf n) :
    Calls Tryd.prog 21 #[.agg cs.toArray, .int .i64 leaf, .int .i64 n] w fun e w' => ∃ v, e = .returned (.tuple #[HV Z32, v]) ∧ FaultIs w' v 1 ∧ Below w.heap.size w w' := by
  subst hcs
  exact public_no seed leaf n w hs h
set_option maxRecDepth 100000 in
set_option maxHeartbeats 2000000 in
theorem back_no (seed : List UInt8) (leaf : Int) (A : Option Addr) (n c : Nat) (d : List UInt8) (oth : Value) (w : World) (hs : seed.length = 32) (hn : d.length = n) (hm : n ≤ 140737488355328) (hbad : Bad05 leaf n) (hr : Rd w A (d.map B)) (ht : TabLaid w) :
    Calls Tryd.prog 4 #[.agg (caseCells seed leaf (.slice A n c)).toArray, oth] w fun e w' => e = .returned (.bool true) ∧ Below w.heap.size w w' := by
  have HT := Lib.hid (And.intro hs (And.intro hn (And.intro hm (And.intro hbad (And.intro hr ht)))))
  clear hs hn hm hbad hr ht
  go_enter Tryd.func4, Tryd.ntmps4
  go_wp2_with fail
  have hz0 := CaseAt.of_blk (Blk_new w (caseCells seed leaf (.slice A n c)) 34) HT.out.1
  have hb0 : Below w.heap.size w (w.alloc (.cells (caseCells seed leaf (.slice A n c)).toArray 34)) := (Below.refl _ _).alloc (Nat.le_refl _) _
  have hlt0 : w.heap.size < (w.alloc (.cells (caseCells seed leaf (.slice A n c)).toArray 34)).heap.size := by simp
  generalize w.alloc (.cells (caseCells seed leaf (.slice A n c)).toArray 34) = w0 at *
  obtain ⟨csd, hcsd⟩ : ∃ cs, cs = seed.map B := ⟨_, rfl⟩
  rw [← hcsd] at hz0
  have hcl : csd.length = 32 := by rw [hcsd, List.length_map]; exact HT.out.1
  have hi28 : (Tryd.prog.info? 28).map (·.size) = some csd.length := by rw [hcl]; kernel_rfl
  have hu28 := Tryd.underlying28
  have HCS := Lib.hid hcsd
  have H0 := Lib.hid (And.intro hz0 (And.intro hb0 hlt0))
  clear hcsd hz0 hb0 hlt0
  go_region_held3 (fun w' => w'.rangeAt w.heap.size 0 csd ∧ w'.cell? ⟨w.heap.size, 32, none⟩ = some (.int .i64 leaf) ∧ w'.cell? ⟨w.heap.size, 33, none⟩ = some (.slice A n c))
    (first | exact ⟨H0.out.1.rg, H0.out.1.leaf, H0.out.1.sl⟩ | exact ⟨H1.out.1.rg, H1.out.1.leaf, H1.out.1.sl⟩ | exact ⟨H2.out.1.rg, H2.out.1.leaf, H2.out.1.sl⟩)
    (first
      | (go_at_call 20; have h := twin05_any A c d w0.drew (by have := HT.out.2; omega) (HT.out.2.2.2.2.1.below H0.out.2.1.drew); rw [HT.out.2.1] at h; refine h.mono ?_
         rintro e w1 ⟨v1, rfl, ho1, hb1⟩
         obtain ⟨A1, c1, rfl, _⟩ := own_slice ho1
         have H1 := Lib.hid (And.intro (H0.out.1.drew.below hb1 H0.out.2.2) (And.intro (below_then H0.out.2.1.drew H0.out.2.1.drew.size hb1) (Nat.lt_of_lt_of_le H0.out.2.2 hb1.size)))
         clear ho1 hb1)
      | (go_at_call 19; refine (sign_no' csd seed leaf A1 n c1 w1 HCS.out HT.out.2.2.2.1).mono ?_
         rintro e w2 ⟨v2, rfl, hv2, hb2⟩
         have H2 := Lib.hid (And.intro (H1.out.1.below hb2 H1.out.2.2) (And.intro (below_then H1.out.2.1 H1.out.2.1.size hb2) (And.intro (Nat.lt_of_lt_of_le H1.out.2.2 hb2.size) hv2)))
         obtain ⟨b2, rfl⟩ := hv2.shape
         clear hb2 hv2))
  have e33 := H2.out.1.sl
  have e32 := H2.out.1.leaf
  have hld : (loadVar 28 ⟨w.heap.size, 0, none⟩).run Tryd.prog w2 = .ok (.agg csd.toArray) w2 := run_load_agg (P := Tryd.prog) hu28 rfl hi28 w2 ⟨w.heap.size, 0, none⟩ csd rfl (fun j u hj => by rw [add_plain]; exact H2.out.1.rg j u hj)
  have HLD := Lib.hid hld
  clear hld
  go_wp2_with (refine wpList_load rfl (.tmp 28) rfl _ _ rfl HLD.out ?_)
  refine (public_no' csd seed leaf n w2 HCS.out HT.out.1 HT.out.2.2.2.1).mono ?_
  rintro e w3 ⟨v3, rfl, hv3, hb3⟩
  obtain ⟨b3, rfl⟩ := hv3.shape
  obtain ⟨csz, hcsz⟩ : ∃ cs, cs = Z32.map B := ⟨_, rfl⟩
  have H3 := Lib.hid (below_then H2.out.2.1 H2.out.2.1.size hb3)
  rw [show HV Z32 = .agg csz.toArray by rw [hcsz]]
  have hzl : csz.length = 32 := by rw [hcsz]; rfl
  have hz1 : ∀ u ∈ csz, u.oneCell' = true := by rw [hcsz]; exact one_bytes
  have heq : ∀ wx, (binOp .eql 28 (.agg csz.toArray) (.agg #[.int .u8 0, .int .u8 0, .int .u8 0, .int .u8 0, .int .u8 0, .int .u8 0, .int .u8 0, .int .u8 0, .int .u8 0, .int .u8 0, .int .u8 0, .int .u8 0, .int .u8 0, .int .u8 0, .int .u8 0, .int .u8 0, .int .u8 0, .int .u8 0, .int .u8 0, .int .u8 0, .int .u8 0, .int .u8 0, .int .u8 0, .int .u8 0, .int .u8 0, .int .u8 0, .int .u8 0, .int .u8 0, .int .u8 0, .int .u8 0, .int .u8 0, .int .u8 0])).run Tryd.prog wx = .ok (.bool true) wx := by
    intro wx
    have h := run_eql_bytes aHash5 wx Z32 Z32 rfl rfl
    rw [hcsz]
    exact h
  have HZ := Lib.hid (And.intro hcsz (show (some 32 : Option Nat) = some csz.length by rw [hzl]))
  clear hb3 hv3 hcsz e33 e32
  go_wp2_with (first
    | (refine wpList_store_blk rfl 28 (.tmp 7) (.tmp 36) rfl w3.heap.size csz rfl rfl 28 _ (heap_alloc_new w3 _) (Eq.trans (by kernel_rfl) HZ.out.2) (by rw [hzl]; rfl) hz1 ?_; intro w4 hw4 hg4
       have hb4 : Below w3.heap.size w3 w4 := ((Below.refl w3.heap.size w3).alloc (Nat.le_refl _) _).grown hg4 (by simp) (fun r e => by injection e with e; omega)
       have H4 := Lib.hid (And.intro hw4 (below_then H3.out H3.out.size hb4))
       clear hw4 hg4 hb4)
    | (refine wpList_load_want (by kernel_rfl) 28 (.tmp 7) rfl w3.heap.size rfl 28 csz _ H4.out.1 Tryd.underlying28 rfl (Eq.trans (by kernel_rfl) HZ.out.2) ?_)
    | (go_at_call 22; refine (sure05_any _ (HT.out.2.2.2.2.2.below H4.out.2 HT.out.2.2.2.2.2.lt)).mono ?_; rintro e w5 ⟨rfl, hb5⟩; have H5 := Lib.hid (below_then H4.out.2 H4.out.2.size hb5); clear hb5))
  go_ret
  exact ⟨rfl, H5.out⟩
#print axioms back_no
end Go.Proofs.YtcgdojdiihdkeaaDoor
