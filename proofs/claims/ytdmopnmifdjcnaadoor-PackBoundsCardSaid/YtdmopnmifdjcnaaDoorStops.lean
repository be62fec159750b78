/- The walk of PackStops. -/
import Derived.Test.YtdmopnmifdjcnaaDoorPackH
import Derived.Test.YtdmopnmifdjcnaaDoorThing
import Derived.Test.YtdmopnmifdjcnaaDoorBlk
import Derived.Test.YtdmopnmifdjcnaaDoorNum
import Derived.Deep.Cut
import Derived.Deep.RegionHeld3
namespace Go.Proofs.YtdmopnmifdjcnaaDoor
open Go Go.RowKit Go.Isth

def u64N (n : Int) : Nat := (IntKind.u64.wrap n).toNat
theorem u64N_eq (n : Int) : IntKind.u64.wrap n = ((u64N n : Nat) : Int) ∧ u64N n < 18446744073709551616 := by
  unfold u64N
  simp only [IntKind.wrap, IntKind.bits, IntKind.signed, Bool.false_and, Bool.false_eq_true, if_false]
  omega

theorem fault_grown {w w' : World} {r : Nat} {s : RS} {v : Value} {k : Int} (h : FaultIs w v k) (hR : RIs w r s) (hg : w.grownBy w' (some r)) : FaultIs w' v k := by
  obtain ⟨b, t, e, hc⟩ := h
  refine ⟨b, t, e, ?_⟩
  rw [hg.block b (Array.getElem?_eq_some_iff.1 hc).1 ?_]
  · exact hc
  · intro e'
    injection e' with e'
    subst e'
    obtain ⟨A, c, ev, hcr, _⟩ := hR.of
    rw [hcr] at hc
    injection hc with hc
    injection hc with _ h2 _
    exact absurd h2 (by decide)
theorem fault_below {w w' : World} {v : Value} {k : Int} (h : FaultIs w v k) (hb : Below w.heap.size w w') : FaultIs w' v k := by
  obtain ⟨b, t, e, hc⟩ := h
  exact ⟨b, t, e, by rw [hb.block b (Array.getElem?_eq_some_iff.1 hc).1]; exact hc⟩

theorem some_uint {s : RS} {k : Int} (h : s.err = some k) (m : Nat) : s.uint m = (0, s) := by unfold RS.uint; rw [if_pos (by rw [h]; simp)]
theorem some_bool {s : RS} {k : Int} (h : s.err = some k) : s.bool = (false, s) := by
  unfold RS.bool
  rw [show s.boolS = s by unfold RS.boolS; rw [if_neg (fun h' => by rw [h] at h'; cases h'.1)], take_none h]
  rfl
theorem some_bytes {s : RS} {k : Int} (h : s.err = some k) (m : Int) : bytesS s m = ([], s) := by
  unfold bytesS
  have e : (if m < 0 then s.fail 1 else s) = s := by split; · exact fail_some h 1
                                                     · rfl
  simp only [e, h]
  rfl

/-- The first error, as it is held. -/
def HeldErr (w : World) (v : Value) (s : RS) : Prop := (s.err = none → v = .nilIface) ∧ ∀ k, s.err = some k → FaultIs w v k

def StInv (w : World) (N r : Nat) (fv i : Value) (wr : World) : Prop :=
  ∃ (j : Nat) (s : RS), i = .int .i64 j ∧ j ≤ N ∧ j ≤ 40 ∧ RIs wr r s ∧ HeldErr wr fv s ∧ Below w.heap.size w wr

set_option maxRecDepth 100000 in
set_option maxHeartbeats 4000000 in
theorem stops_any (A : Option Addr) (c : Nat) (bs : List UInt8) (A0 : Option Addr) (ts : List ThingV) (cap : Nat) (w : World) (hr : Rd w A (bs.map B)) (hc : bs.length ≤ c) (hm : bs.length ≤ 140737488351232) (hl : ThingsAt w A0 ts) (hn : ts.length ≤ 140737488351232) (hg : TypeLaid w) :
    Calls Tryd.prog 5 #[.slice A bs.length c, .slice A0 ts.length cap] w fun e w' => e = .returned (.bool true) ∧ Below w.heap.size w w' := by
  have HN := Lib.hid hn
  have HL := Lib.hid hl
  have HR := Lib.hid (And.intro hr (And.intro hc hm))
  have HG := Lib.hid hg
  clear hn hl hr hc hm hg
  go_enter Tryd.func5, Tryd.ntmps5
  go_wp2_with fail
  refine (read_any A c bs w HR.out.1 HR.out.2.1 HR.out.2.2).mono ?_
  rintro e w1 ⟨rfl, hr1, hb1⟩
  have H1 := Lib.hid (And.intro hr1 hb1)
  clear hr1 hb1
  have hrr : w.heap.size ≤ w.heap.size := Nat.le_refl _
  generalize hreq : w.heap.size = r at hrr H1 ⊢
  have HRQ := Lib.hid hreq
  clear hrr hreq
  go_wp2_with fail
  go_loopw [6, 7, 8, 9, 10, 11, 12] (fun fv i _ _ _ _ _ wr => StInv w ts.length r fv i wr) (fun _ i _ _ _ _ _ _ => 40 - (intOf i).toNat)
  case atStart => exact ⟨0, ⟨bs, none⟩, rfl, Nat.zero_le _, Nat.zero_le _, H1.out.1, ⟨fun _ => rfl, fun k h => by cases h⟩, by rw [HRQ.out]; exact H1.out.2⟩
  case round =>
    obtain ⟨j, s, rfl, hj, hj40, hR, hE, hB⟩ := hrel
    have hrw : w.heap.size ≤ r := by rw [HRQ.out]; exact Nat.le_refl _
    by_cases hend : j < ts.length ∧ j < 40
    · obtain ⟨hjl, hj4⟩ := hend
      obtain ⟨b0, o0, rfl, hblk, A', c', hcells, hh, hk0, hk1⟩ := HL.out j hjl
      generalize ts[j] = t at *
      have hld : (loadVar 54 ⟨b0, o0 + j * 35, none⟩).run Tryd.prog wr = .ok (.agg (thingCells t.k t.n (.slice A' t.xs.length c') t.hs).toArray) wr := run_load_agg (n := 35) Tryd.underlying54 rfl (by kernel_rfl) wr _ (thingCells t.k t.n (.slice A' t.xs.length c') t.hs) (by simp [thingCells, hh]) (fun i u hu => by rw [add_plain]; exact (hB.cell (p := ⟨b0, o0 + j * 35 + i, none⟩) hblk).trans (hcells i u hu))
      have hjl' : (j : Int) < (ts.length : Int) := by omega
      have hj4' : (j : Int) < 40 := by omega
      have HSZ := Lib.hid (show (some 35 : Option Nat) = some (thingCells t.k t.n (.slice A' t.xs.length c') t.hs).length by simp [thingCells, hh])
      have HOL := Lib.hid (show ((35 : Nat) = (thingCells t.k t.n (.slice A' t.xs.length c') t.hs).length) by simp [thingCells, hh])
      have HOC := Lib.hid (show ∀ u ∈ thingCells t.k t.n (.slice A' t.xs.length c') t.hs, u.oneCell' = true by
        intro u hu
        simp only [thingCells, List.mem_cons] at hu
        rcases hu with rfl | rfl | rfl | hu
        · rfl
        · rfl
        · rfl
        · exact one_bytes u hu)
      have HS := Lib.hid (And.intro hR (And.intro hE hB))
      have HK := Lib.hid (And.intro hjl (And.intro hj4 (And.intro hk0 hk1)))
      have HRW := Lib.hid hrw
      clear hR hE hB hjl hj4 hk0 hk1 hblk hcells hh hj hj40 hrw
      go_upto_region 9 with (first
        | refine wpList_load rfl (.tmp 29) rfl _ _ rfl hld ?_
        | (refine wpList_store_blk rfl 54 (.tmp 8) (.tmp 30) rfl wr.heap.size (thingCells t.k t.n (.slice A' t.xs.length c') t.hs) rfl rfl 54 _ (heap_alloc_new wr _) (Eq.trans (by kernel_rfl) HSZ.out) (Eq.trans rfl HOL.out) HOC.out ?_; intro w3 hw3 hg3))
      have hb3 : Below wr.heap.size wr w3 := ((Below.refl wr.heap.size wr).alloc (Nat.le_refl _) _).grown hg3 (by rw [World.size_alloc]; omega) (fun k' e => by injection e with e; omega)
      have hR3 := HS.out.1.below hb3
      have hrp := HS.out.1.lt
      have hB3 := below_trans HS.out.2.2 hb3
      have hE3 : HeldErr w3 u6 s := ⟨HS.out.2.1.1, fun k hk => fault_below (HS.out.2.1.2 k hk) hb3⟩
      clear hg3 hld hb3
      generalize wr.heap.size = p at *
      obtain ⟨hwn, hwl⟩ := u64N_eq t.n
      obtain ⟨n1, s1, hu1⟩ : ∃ n1 s1, s.uint (u64N t.n) = (n1, s1) := ⟨_, _, rfl⟩
      obtain ⟨n2, s2, hu2⟩ : ∃ n2 s2, s1.uint 18446744073709551615 = (n2, s2) := ⟨_, _, rfl⟩
      obtain ⟨b3, s3, hu3⟩ : ∃ b3 s3, s2.bool = (b3, s3) := ⟨_, _, rfl⟩
      obtain ⟨x4, s4, hu4⟩ : ∃ x4 s4, bytesS s3 t.k = (x4, s4) := ⟨_, _, rfl⟩
      have hTS : ∀ w', Blk w' p 54 (thingCells t.k t.n (.slice A' t.xs.length c') t.hs) → (w'.cell? ⟨p, 0, none⟩ = some (.int .i64 t.k) ∧ w'.cell? ⟨p, 1, none⟩ = some (.int .i64 t.n)) := fun w' hk => ⟨hk.cellD 0 _ rfl, hk.cellD 1 _ rfl⟩
      have HTS := Lib.hid hTS
      have HU1 := Lib.hid hu1
      have HU2 := Lib.hid hu2
      have HU3 := Lib.hid hu3
      have HU4 := Lib.hid hu4
      have HRB : Hid (w.heap.size ≤ r ∧ (some r : Option Nat) ≠ some p) := Lib.hid ⟨HRW.out, by simp; omega⟩
      have KB : Hid (∀ wa wb : World, Below w.heap.size w wa → wa.grownBy wb (some r) → Below w.heap.size w wb) := Lib.hid (fun wa wb hb hg => hb.grown hg hb.size (fun k' e => by injection e with e; rw [← e]; exact HRB.out.1))
      have KE : Hid (∀ (wa wb : World) (sa : RS), RIs wa r sa → (∀ k, s.err = some k → FaultIs wa u6 k) → wa.grownBy wb (some r) → ∀ k, s.err = some k → FaultIs wb u6 k) := Lib.hid (fun wa wb sa hr hf hg k hk => fault_grown (hf k hk) hr hg)
      have HW3 := Lib.hid (And.intro hR3 (And.intro hB3 (And.intro hw3 (And.intro hE3.1 hE3.2))))
      clear hTS hu1 hu2 hu3 hu4 hwl hR3 hrp hB3 hw3 hE3
      go_region_held3 (fun w' => w'.cell? ⟨p, 0, none⟩ = some (.int .i64 t.k) ∧ w'.cell? ⟨p, 1, none⟩ = some (.int .i64 t.n))
        (first | exact HTS.out _ HW3.out.2.2.1.drew | exact HTS.out _ G7.out.2.2.1 | exact HTS.out _ G6.out.2.2.1 | exact HTS.out _ G5.out.2.2.1 | exact HTS.out _ G4.out.2.2.1)
        (first
          | (go_at_call 21; refine (ruint_any r _ (u64N t.n) _ (HW3.out.1.below (refl_drewN _ 1))).mono ?_; rintro e w4 ⟨rfl, h4, g4⟩; rw [HU1.out] at h4; rw [HU1.out]; have G4 := Lib.hid (And.intro h4 (And.intro (KB.out _ _ (below_drewN HW3.out.2.1 1) g4) (And.intro (HW3.out.2.2.1.drew.grown g4 HRB.out.2) (KE.out _ _ _ (HW3.out.1.below (refl_drewN _ 1)) HW3.out.2.2.2.2 g4)))); clear h4 g4)
          | (go_at_call 22; refine (rint_any r _ _ G4.out.1).mono ?_; rintro e w5 ⟨rfl, h5, g5⟩; rw [HU2.out] at h5; rw [HU2.out]; have G5 := Lib.hid (And.intro h5 (And.intro (KB.out _ _ G4.out.2.1 g5) (And.intro (G4.out.2.2.1.grown g5 HRB.out.2) (KE.out _ _ _ G4.out.1 G4.out.2.2.2 g5)))); clear h5 g5)
          | (go_at_call 23; refine (rbool_any r _ _ G5.out.1).mono ?_; rintro e w6 ⟨rfl, h6, g6⟩; rw [HU3.out] at h6; rw [HU3.out]; have G6 := Lib.hid (And.intro h6 (And.intro (KB.out _ _ G5.out.2.1 g6) (And.intro (G5.out.2.2.1.grown g6 HRB.out.2) (KE.out _ _ _ G5.out.1 G5.out.2.2.2 g6)))); clear h6 g6)
          | (go_at_call 24; refine (rtext_any r _ t.k _ G6.out.1 HK.out.2.2.2).mono ?_; rintro e w7 ⟨rfl, h7, g7⟩; rw [HU4.out] at h7; rw [HU4.out]; have G7 := Lib.hid (And.intro h7 (And.intro (KB.out _ _ G6.out.2.1 g7) (And.intro (G6.out.2.2.1.grown g7 HRB.out.2) (KE.out _ _ _ G6.out.1 G6.out.2.2.2 g7)))); clear h7 g7))
      have hjb : (j : Int) ≤ 40 := by omega
      rcases he : s.err with _ | k
      · obtain rfl := HW3.out.2.2.2.1 he
        clear he
        go_wp2_with fail
        refine (err_any r s4 w7 G7.out.1).mono ?_
        rintro e w8 ⟨v8, rfl, rfl, hv0, hv1⟩
        have HV := Lib.hid (And.intro hv0 hv1)
        clear hv0 hv1
        go_wp2
        go_roundw
        case rel => exact ⟨j + 1, s4, by go_num, HK.out.1, HK.out.2.1, G7.out.1, ⟨HV.out.1, HV.out.2⟩, G7.out.2.1⟩
        case measure => have := HK.out.2.1; simp [intOf]; omega
      · have e1 := HU1.out
        rw [some_uint he] at e1
        obtain ⟨rfl, rfl⟩ := Prod.mk.inj e1
        have e2 := HU2.out
        rw [some_uint he] at e2
        obtain ⟨rfl, rfl⟩ := Prod.mk.inj e2
        have e3 := HU3.out
        rw [some_bool he] at e3
        obtain ⟨rfl, rfl⟩ := Prod.mk.inj e3
        have e4 := HU4.out
        rw [some_bytes he] at e4
        obtain ⟨rfl, rfl⟩ := Prod.mk.inj e4
        rw [show unzig 0 = 0 from rfl]
        have hf := G7.out.2.2.2 k he
        have HF := Lib.hid hf
        obtain ⟨bk, sk, rfl, hck⟩ := hf
        have HE := Lib.hid he
        clear he e1 e2 e3 e4 hck
        go_wp2_with fail
        refine (err_any r s w7 G7.out.1).mono ?_
        rintro e w8 ⟨v8, rfl, rfl, hv0, hv1⟩
        have HV := Lib.hid (And.intro hv0 hv1)
        clear hv0 hv1
        go_wp2_with fail
        refine (num02_any v8 k w8 (HV.out.2 k HE.out) (HG.out.below G7.out.2.1 HG.out.lt)).mono ?_
        rintro e w9 ⟨rfl, hb9⟩
        have H9 := Lib.hid hb9
        clear hb9
        go_wp2_with fail
        refine (num02_any _ k w9 (fault_below HF.out H9.out) (HG.out.below (below_trans G7.out.2.1 H9.out) HG.out.lt)).mono ?_
        rintro e w10 ⟨rfl, hb10⟩
        have H10 := Lib.hid (below_trans H9.out hb10)
        clear hb10
        go_wp2_with fail
        refine (err_any r s w10 (G7.out.1.below H10.out)).mono ?_
        rintro e w11 ⟨v11, rfl, rfl, hv0, hv1⟩
        have HV11 := Lib.hid (And.intro hv0 hv1)
        clear hv0 hv1
        go_wp2
        go_roundw
        case rel => exact ⟨j + 1, s, by go_num, HK.out.1, HK.out.2.1, G7.out.1.below H10.out, ⟨HV11.out.1, HV11.out.2⟩, below_trans G7.out.2.1 H10.out⟩
        case measure => have := HK.out.2.1; simp [intOf]; omega
    · have HB := Lib.hid hB
      have hor : (ts.length : Int) ≤ (j : Int) ∨ ((j : Int) < (ts.length : Int) ∧ (40 : Int) ≤ (j : Int)) := by omega
      clear hend hR hE hB hj hj40
      rcases hor with hc | ⟨hc, hc2⟩
      all_goals
        go_wp2_with fail
        refine (packSure_any _).mono ?_
        rintro e w10 ⟨rfl, hb10⟩
        go_wp2
        go_ret
        exact ⟨rfl, below_trans HB.out hb10⟩
#print axioms stops_any
end Go.Proofs.YtdmopnmifdjcnaaDoor
