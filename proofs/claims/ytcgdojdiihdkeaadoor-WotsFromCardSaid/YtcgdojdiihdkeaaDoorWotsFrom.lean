/- WotsFrom: the contracts' cases, the walk, the card (one text: a claim holds 60 files at most). -/
import Derived.Test.YtcgdojdiihdkeaaDoorRef5E
import Derived.Test.YtcgdojdiihdkeaaDoorBack2
import Derived.Test.YtcgdojdiihdkeaaDoorNum5
import Derived.Test.YtcgdojdiihdkeaaDoorWots8
import Derived.Test.YtcgdojdiihdkeaaDoorArrC
/- WotsFrom: both From's and num by one contract each, whatever the input. -/
namespace Go.Proofs.YtcgdojdiihdkeaaDoor
open Go Go.RowKit Go.Isth

/-- What a failed or a good call leaves as its error. -/
def NumIs (w : World) (v : Value) (k : Nat) : Prop := (k = 0 ∧ v = .nilIface) ∨ FaultIs w v (k : Int)
theorem NumIs.below {w w' : World} {v : Value} {k : Nat} (h : NumIs w v k) (hb : Below w.heap.size w w') : NumIs w' v k := h.imp id (fun h => h.below hb)
theorem num05_all (v : Value) (k : Nat) (w : World) (h : NumIs w v k) (hg : TypeLaid w) : Calls Tryd.prog 39 #[v] w fun e w' => e = .returned (I k) ∧ Below w.heap.size w w' := by
  rcases h with ⟨rfl, rfl⟩ | h
  · exact num05_nil w
  · exact num05_any v k w h hg
/-- What From answers. -/
def FromIs (leaf : Int) (n : Nat) (sign d : List UInt8) (o : List UInt8) (k : Nat) : Prop :=
  (Bad05 leaf n ∧ o = Z32 ∧ k = 1) ∨ (¬ Bad05 leaf n ∧ sign.length ≠ 32 * (2 * n + 3) ∧ o = Z32 ∧ k = 2) ∨ (¬ Bad05 leaf n ∧ sign.length = 32 * (2 * n + 3) ∧ o = fromF sign leaf.toNat d ∧ k = 0)
theorem FromIs.any (leaf : Int) (n : Nat) (sign d : List UInt8) : ∃ o k, FromIs leaf n sign d o k := by
  by_cases hb : Bad05 leaf n
  · exact ⟨_, _, .inl ⟨hb, rfl, rfl⟩⟩
  · by_cases hl : sign.length = 32 * (2 * n + 3)
    · exact ⟨_, _, .inr (.inr ⟨hb, hl, rfl, rfl⟩)⟩
    · exact ⟨_, _, .inr (.inl ⟨hb, hl, rfl, rfl⟩)⟩
theorem FromIs.length {leaf : Int} {n : Nat} {sign d o : List UInt8} {k : Nat} (h : FromIs leaf n sign d o k) : o.length = 32 := by
  rcases h with ⟨_, rfl, _⟩ | ⟨_, _, rfl, _⟩ | ⟨_, _, rfl, _⟩
  · rfl
  · rfl
  · exact fromF_length _ _ _
theorem good05 {leaf : Int} {n : Nat} (h : ¬ Bad05 leaf n) : ∃ l : Nat, leaf = (l : Int) ∧ l < 1024 ∧ 1 ≤ n ∧ n ≤ 32 := by
  unfold Bad05 at h
  exact ⟨leaf.toNat, by omega, by omega, by omega, by omega⟩
theorem frm_all (cp : List Value) (As Ad : Option Addr) (m cs n cd : Nat) (leaf : Int) (sign d o : List UInt8) (k : Nat) (w w0 : World) (hF : FromIs leaf n sign d o k) (hcp : cp = o.map B) (hn : d.length = n) (hsl : sign.length = m) (hcs : m ≤ cs) (hrs : Rd w As (sign.map B)) (hrd : Rd w Ad (d.map B)) (hw : Below w0.heap.size w0 w) (ht : TabLaid w0) :
    Calls Tryd.prog 23 #[.slice As m cs, .int .i64 leaf, .slice Ad n cd] w fun e w' => ∃ v, e = .returned (.tuple #[.agg cp.toArray, v]) ∧ NumIs w' v k ∧ Below w.heap.size w w' := by
  subst hcp
  rcases hF with ⟨hb, rfl, rfl⟩ | ⟨hb, hl, rfl, rfl⟩ | ⟨hb, hl, rfl, rfl⟩
  · exact (frm_no As Ad m cs n cd leaf w hb).mono (by rintro e w' ⟨v, rfl, hf, hb⟩; exact ⟨v, rfl, .inr hf, hb⟩)
  · obtain ⟨l, rfl, h1, h2, h3⟩ := good05 hb
    exact (frm_long As Ad m cs n cd l w h1 h2 h3 (by omega)).mono (by rintro e w' ⟨v, rfl, hf, hb⟩; exact ⟨v, rfl, .inr hf, hb⟩)
  · obtain ⟨l, rfl, h1, h2, h3⟩ := good05 hb
    subst hn
    exact (frm_yes As Ad cs cd m l sign d w h1 h2 h3 (by omega) hsl hcs hrs hrd (ht.below hw ht.lt)).mono (by rintro e w' ⟨rfl, hb⟩; exact ⟨_, rfl, .inl ⟨rfl, rfl⟩, hb⟩)
theorem rfrm_all (cp : List Value) (As Ad : Option Addr) (m cs n cd : Nat) (leaf : Int) (sign d o : List UInt8) (k : Nat) (w : World) (hF : FromIs leaf n sign d o k) (hcp : cp = o.map B) (hn : d.length = n) (hsl : sign.length = m) (hcs : m ≤ cs) (hrs : Rd w As (sign.map B)) (hrd : Rd w Ad (d.map B)) :
    Calls Tryd.prog 37 #[.slice As m cs, .int .i64 leaf, .slice Ad n cd] w fun e w' => e = .returned (.tuple #[.agg cp.toArray, I k]) ∧ Below w.heap.size w w' := by
  subst hcp
  subst hn
  rcases hF with ⟨hb, rfl, rfl⟩ | ⟨hb, hl, rfl, rfl⟩ | ⟨hb, hl, rfl, rfl⟩
  · exact rfrom_no As Ad m cs _ cd leaf w hb
  · obtain ⟨l, rfl, h1, h2, h3⟩ := good05 hb
    exact rfrom_long As Ad m cs cd l d w h1 h2 h3 (by omega) hrd
  · obtain ⟨l, rfl, h1, h2, h3⟩ := good05 hb
    exact rfrom_yes As Ad cs cd m l sign d w h1 h2 h3 (by omega) hsl hcs hrs hrd
theorem step_to5 (cs cs' : List Value) (v : List UInt8) (leaf chain f t : Int) (w w0 : World) (hcs : cs = v.map B) (hv : v.length = 32) (hcs' : cs' = (stepF (u64N leaf) (u64N chain) f.toNat t.toNat v).map B) (hw : Below w0.heap.size w0 w) (ht : TabLaid w0) :
    Calls Tryd.prog 26 #[.agg cs.toArray, .int .i64 leaf, .int .i64 chain, .int .i64 f, .int .i64 t] w fun e w' => e = .returned (.agg cs'.toArray) ∧ Below w.heap.size w w' := by
  subst hcs
  subst hcs'
  exact step_any v leaf chain f t (u64N leaf) (u64N chain) w hv (u64N_wrap _) (u64N_lt _) (u64N_wrap _) (u64N_lt _) (ht.below hw ht.lt)
theorem rstep_to5 (cs cs' : List Value) (v : List UInt8) (leaf chain f t : Int) (w : World) (hcs : cs = v.map B) (hv : v.length = 32) (hcs' : cs' = (stepF (u64N leaf) (u64N chain) f.toNat t.toNat v).map B) :
    Calls Tryd.prog 38 #[.agg cs.toArray, .int .i64 leaf, .int .i64 chain, .int .i64 f, .int .i64 t] w fun e w' => e = .returned (.agg cs'.toArray) ∧ Below w.heap.size w w' := by
  subst hcs'
  exact (rstep_any v cs leaf chain f t (u64N leaf) (u64N chain) w hcs hv (u64N_wrap _) (u64N_lt _) (u64N_wrap _) (u64N_lt _)).mono (by rintro e w' ⟨cv, rfl, rfl, _, hb⟩; exact ⟨rfl, hb⟩)
end Go.Proofs.YtcgdojdiihdkeaaDoor

/- WotsFrom: the walk. -/
namespace Go.Proofs.YtcgdojdiihdkeaaDoor
open Go Go.RowKit Go.Isth

theorem NumIs.grown {w w' : World} {v : Value} {k g : Nat} {t : TypeId} {cs : List Value} (h : NumIs w v k) (hB : Blk w g t cs) (ht : t ≠ 97) (hg : w.grownBy w' (some g)) : NumIs w' v k := h.imp id (fun h => h.grown hB ht hg)
/-- What stands all along. -/
structure GoodF (w : World) (p q : Nat) (csd : List Value) (leaf : Int) (sl : Value) (a0 a1 a2 : Int) (wc : World) : Prop where
  cs : CaseAt wc p csd leaf sl
  b3 : Blk wc q 48 [.int .i64 a0, .int .i64 a1, .int .i64 a2]
  lt : p < wc.heap.size
  bl : Below w.heap.size w wc
theorem GoodF.below {w wc w' : World} {p q : Nat} {csd : List Value} {leaf : Int} {sl : Value} {a0 a1 a2 : Int} (h : GoodF w p q csd leaf sl a0 a1 a2 wc) (hb : Below wc.heap.size wc w') : GoodF w p q csd leaf sl a0 a1 a2 w' :=
  ⟨h.cs.below hb h.lt, h.b3.below hb, Nat.lt_of_lt_of_le h.lt hb.size, below_then h.bl h.bl.size hb⟩
set_option maxRecDepth 100000 in
set_option maxHeartbeats 4000000 in
theorem from_any (seed : List UInt8) (leaf a0 a1 a2 : Int) (n m : Nat) (A Ao : Option Addr) (c co : Nat) (d sign : List UInt8) (w : World) (hs : seed.length = 32) (hn : d.length = n) (hm : sign.length = m) (hco : m ≤ co) (hnb : n ≤ 140737488355328) (hmb : m ≤ 140737488355328) (hr : Rd w A (d.map B)) (hro : Rd w Ao (sign.map B)) (ht : TabLaid w) (htl : TypeLaid w) :
    Calls Tryd.prog 10 #[.slice Ao m co, .agg (caseCells seed leaf (.slice A n c)).toArray, .agg #[.int .i64 a0, .int .i64 a1, .int .i64 a2]] w fun e w' => e = .returned (.bool true) ∧ Below w.heap.size w w' := by
  have HT := Lib.hid (And.intro hs (And.intro hn (And.intro hm (And.intro hco (And.intro hnb (And.intro hmb (And.intro hr hro)))))))
  have ht : Hid (TabLaid w ∧ TypeLaid w) := Lib.hid ⟨ht, htl⟩
  clear hs hn hm hco hnb hmb hr hro htl
  obtain ⟨o, kf, HF⟩ := FromIs.any leaf n sign d
  have HF := Lib.hid HF
  obtain ⟨csd, hcsd⟩ : ∃ cs, cs = seed.map B := ⟨_, rfl⟩
  obtain ⟨csp, hcsp⟩ : ∃ cs, cs = o.map B := ⟨_, rfl⟩
  obtain ⟨cst, hcst⟩ : ∃ cs, cs = (stepF (u64N leaf) (u64N a0) a1.toNat a2.toNat seed).map B := ⟨_, rfl⟩
  go_enter Tryd.func10, Tryd.ntmps10
  have hz0 := CaseAt.of_blk (Blk_new w (caseCells seed leaf (.slice A n c)) 34) HT.out.1
  have hb0 : Below w.heap.size w (w.alloc (.cells (caseCells seed leaf (.slice A n c)).toArray 34)) := (Below.refl _ _).alloc (Nat.le_refl _) _
  have hlt0 : w.heap.size < (w.alloc (.cells (caseCells seed leaf (.slice A n c)).toArray 34)).heap.size := by simp
  have hq := Blk_new (w.alloc (.cells (caseCells seed leaf (.slice A n c)).toArray 34)) [.int .i64 a0, .int .i64 a1, .int .i64 a2] 48
  have hbq := (Below.refl _ (w.alloc (.cells (caseCells seed leaf (.slice A n c)).toArray 34))).alloc (Nat.le_refl _) (.cells #[.int .i64 a0, .int .i64 a1, .int .i64 a2] 48)
  have hG : GoodF w w.heap.size (w.heap.size + 1) (seed.map B) leaf (.slice A n c) a0 a1 a2 ((w.alloc (.cells (caseCells seed leaf (.slice A n c)).toArray 34)).alloc (.cells #[.int .i64 a0, .int .i64 a1, .int .i64 a2] 48)) :=
    ⟨hz0.below hbq hlt0, by simpa using hq, by simp; omega, below_then hb0 hb0.size hbq⟩
  clear hz0 hb0 hlt0 hq hbq
  go_upto_region 1 with fail
  change Code.wp _ _ _ _ ((w.alloc (.cells (caseCells seed leaf (.slice A n c)).toArray 34)).alloc (.cells #[.int .i64 a0, .int .i64 a1, .int .i64 a2] 48))
  generalize ((w.alloc (.cells (caseCells seed leaf (.slice A n c)).toArray 34)).alloc (.cells #[.int .i64 a0, .int .i64 a1, .int .i64 a2] 48)) = w0 at *
  rw [← hcsd] at hG
  have hcl : csd.length = 32 := by rw [hcsd, List.length_map]; exact HT.out.1
  have hpl : csp.length = 32 := by rw [hcsp, List.length_map]; exact HF.out.length
  have htl : cst.length = 32 := by rw [hcst, List.length_map]; exact stepF_length _ _ _ _ _ HT.out.1
  have hp1 : ∀ u ∈ csp, u.oneCell' = true := by rw [hcsp]; exact one_bytes
  have ht1 : ∀ u ∈ cst, u.oneCell' = true := by rw [hcst]; exact one_bytes
  have hi28 : (Tryd.prog.info? 28).map (·.size) = some csd.length := by rw [hcl]; kernel_rfl
  have hip : (Tryd.prog.info? 28).map (·.size) = some csp.length := by rw [hpl]; kernel_rfl
  have hu28 := Tryd.underlying28
  have heq : ∀ wx, (binOp .eql 28 (.agg csp.toArray) (.agg csp.toArray)).run Tryd.prog wx = .ok (.bool true) wx := by
    intro wx
    have h := run_eql_bytes aHash5 wx _ _ HF.out.length HF.out.length
    rw [← hcsp] at h
    simpa using h
  have heqt : ∀ wx, (binOp .eql 28 (.agg cst.toArray) (.agg cst.toArray)).run Tryd.prog wx = .ok (.bool true) wx := by
    intro wx
    have h := run_eql_bytes aHash5 wx _ _ (stepF_length (u64N leaf) (u64N a0) a1.toNat a2.toNat seed HT.out.1) (stepF_length (u64N leaf) (u64N a0) a1.toNat a2.toNat seed HT.out.1)
    rw [← hcst] at h
    simpa using h
  have HCS := Lib.hid (And.intro hcsd (And.intro hcsp hcst))
  have HG := Lib.hid hG
  clear hcsd hcsp hcst hG
  go_cut [7, 8] from 13 (fun v7 v8 wr => ∃ g7 : Nat, v7 = .pointer (some ⟨g7, 0, none⟩) ∧ NumIs wr v8 kf ∧ GoodF w w.heap.size (w.heap.size + 1) csd leaf (.slice A n c) a0 a1 a2 wr ∧ Blk wr g7 28 csp)
  case first =>
    have HG := Lib.hid (HG.out.below (refl_drewN w0 1))
    change Hid (GoodF w w.heap.size (w.heap.size + 1) csd leaf (.slice A n c) a0 a1 a2 w0.drew) at HG
    have HB : Hid (Below w0.drew.heap.size w0.drew w0.drew) := Lib.hid (Below.refl _ _)
    go_region_held3 (fun w' => w'.cell? ⟨w.heap.size, 32, none⟩ = some (.int .i64 leaf) ∧ w'.cell? ⟨w.heap.size, 33, none⟩ = some (.slice A n c))
      (first
        | exact ⟨(HG.out.below HB.out).cs.leaf, (HG.out.below HB.out).cs.sl⟩
        | exact ⟨(HG.out.below (HB.out.alloc HB.out.size _)).cs.leaf, (HG.out.below (HB.out.alloc HB.out.size _)).cs.sl⟩
        | exact ⟨(HG.out.below (HB.out.grown (grown_setCells _ csp 0 _) HB.out.size (fun r e => by injection e with e; have := HA.out.2; have hq : w0.drew.heap.size = w0.heap.size := rfl; omega))).cs.leaf, (HG.out.below (HB.out.grown (grown_setCells _ csp 0 _) HB.out.size (fun r e => by injection e with e; have := HA.out.2; have hq : w0.drew.heap.size = w0.heap.size := rfl; omega))).cs.sl⟩
        | (have hx := HG.out.below ((HB.out.alloc HB.out.size (.cells (List.replicate 32 (B 0)).toArray 28)).grown (grown_setCells wc.heap.size csp 0 _) (HB.out.alloc HB.out.size _).size (fun r e => by injection e with e; have := HB.out.size; omega)); exact ⟨hx.cs.leaf, hx.cs.sl⟩))
      (first
        | (go_at_call 20; refine (twin_to Ao co m sign _ w HT.out.2.2.1 HT.out.2.2.2.2.2.1 HT.out.2.2.2.2.2.2.2 (HG.out.below HB.out).bl).mono ?_
           rintro e wc ⟨v1, rfl, ho1, hb1⟩
           obtain ⟨A8, c8, rfl, hc8, hr8, _⟩ := own_slice ho1
           have HB := Lib.hid (below_then HB.out HB.out.size hb1)
           have HT0 := Lib.hid (And.intro hc8 hr8)
           clear ho1 hb1 hc8 hr8)
        | (go_at_call 20
           have HA := Lib.hid (And.intro (Blk_new w0.drew (List.replicate 32 (B 0)) 28) (Nat.le_refl w0.drew.heap.size))
           have HBA := Lib.hid (HB.out.alloc HB.out.size (.cells (List.replicate 32 (B 0)).toArray 28))
           refine (twin_to Ao co m sign _ w HT.out.2.2.1 HT.out.2.2.2.2.2.1 HT.out.2.2.2.2.2.2.2 (HG.out.below HBA.out).bl).mono ?_
           rintro e wc ⟨v1, rfl, ho1, hb1⟩
           obtain ⟨A8, c8, rfl, hc8, hr8, _⟩ := own_slice ho1
           have HA := Lib.hid (And.intro (HA.out.1.below hb1) HA.out.2)
           have HB := Lib.hid (below_then HBA.out HBA.out.size hb1)
           have HT0 := Lib.hid (And.intro hc8 hr8)
           clear ho1 hb1 hc8 hr8 HBA)
        | (go_at_call 20; have := HT0.out.1; refine (twin_to A c n d _ w HT.out.2.1 HT.out.2.2.2.2.1 HT.out.2.2.2.2.2.2.1 (HG.out.below HB.out).bl).mono ?_
           rintro e wc ⟨v1, rfl, ho1, hb1⟩
           obtain ⟨A9, c9, rfl, _, hr9, _⟩ := own_slice ho1
           have HB := Lib.hid (below_then HB.out HB.out.size hb1)
           have HT0 := Lib.hid (And.intro HT0.out.1 (HT0.out.2.below hb1))
           have HT1 := Lib.hid hr9
           try (have HA := Lib.hid (And.intro (HA.out.1.below hb1) HA.out.2))
           clear ho1 hb1 hr9 this)
        | (go_at_call 20; have := HT0.out.1
           have HA := Lib.hid (And.intro (Blk_new wc (List.replicate 32 (B 0)) 28) HB.out.size)
           have HBA := Lib.hid (HB.out.alloc HB.out.size (.cells (List.replicate 32 (B 0)).toArray 28))
           refine (twin_to A c n d _ w HT.out.2.1 HT.out.2.2.2.2.1 HT.out.2.2.2.2.2.2.1 (HG.out.below HBA.out).bl).mono ?_
           rintro e wc ⟨v1, rfl, ho1, hb1⟩
           obtain ⟨A9, c9, rfl, _, hr9, _⟩ := own_slice ho1
           have HA := Lib.hid (And.intro (HA.out.1.below hb1) HA.out.2)
           have HB := Lib.hid (below_then HBA.out HBA.out.size hb1)
           have HT0 := Lib.hid (And.intro HT0.out.1 ((HT0.out.2.alloc (.cells (List.replicate 32 (B 0)).toArray 28)).below hb1))
           have HT1 := Lib.hid hr9
           clear ho1 hb1 hr9 HBA this)
        | (go_at_call 23; refine (frm_all csp A8 A9 m c8 n c9 leaf sign d o kf _ w HF.out HCS.out.2.1 HT.out.2.1 HT.out.2.2.1 HT0.out.1 HT0.out.2 HT1.out (HG.out.below HB.out).bl ht.out.1).mono ?_
           rintro e wc ⟨v2, rfl, hnum, hb2⟩
           have HB := Lib.hid (below_then HB.out HB.out.size hb2)
           have HN := Lib.hid hnum
           (first
             | (have HA := Lib.hid (And.intro (HA.out.1.below hb2) HA.out.2); have hth := HA.out.1.there (n := 32) (by simp))
             | have hth := (Blk_new wc (List.replicate 32 (B 0)) 28).there (n := 32) (by simp))
           clear hb2 hnum)
        | (go_at_call 23
           have HA := Lib.hid (And.intro (Blk_new wc (List.replicate 32 (B 0)) 28) HB.out.size)
           have HBA := Lib.hid (HB.out.alloc HB.out.size (.cells (List.replicate 32 (B 0)).toArray 28))
           refine (frm_all csp A8 A9 m c8 n c9 leaf sign d o kf _ w HF.out HCS.out.2.1 HT.out.2.1 HT.out.2.2.1 HT0.out.1 (HT0.out.2.alloc _) (HT1.out.alloc _) (HG.out.below HBA.out).bl ht.out.1).mono ?_
           rintro e wc ⟨v2, rfl, hnum, hb2⟩
           have HA := Lib.hid (And.intro (HA.out.1.below hb2) HA.out.2)
           have HB := Lib.hid (below_then HBA.out HBA.out.size hb2)
           have HN := Lib.hid hnum
           have hth := HA.out.1.there (n := 32) (by simp)
           clear hb2 HBA hnum))
    all_goals
      have HFF : Hid (∀ wz g, Below w0.drew.heap.size w0.drew wz → Blk wz g 28 csp → GoodF w w.heap.size (w.heap.size + 1) csd leaf (.slice A n c) a0 a1 a2 wz ∧ Blk wz g 28 csp) := Lib.hid (fun wz g h1 h2 => ⟨HG.out.below h1, h2⟩)
      go_wp2_with fail
      go_meet
      case rel =>
        first
          | exact ⟨wc.heap.size, rfl, (HN.out.below ((Below.refl _ _).alloc (Nat.le_refl _) _)).grown (Blk_new wc (List.replicate 32 (B 0)) 28) (by decide) (grown_setCells wc.heap.size csp 0 _), HFF.out _ wc.heap.size ((HB.out.alloc HB.out.size (.cells (List.replicate 32 (B 0)).toArray 28)).grown (grown_setCells wc.heap.size csp 0 _) (HB.out.alloc HB.out.size _).size (fun r e => by injection e with e; have := HB.out.size; omega)) ((Blk_new wc (List.replicate 32 (B 0)) 28).setCells0 (by rw [hpl, List.length_replicate]))⟩
          | exact ⟨_, rfl, HN.out.grown HA.out.1 (by decide) (grown_setCells _ csp 0 _), HFF.out _ _ (HB.out.grown (grown_setCells _ csp 0 _) HB.out.size (fun r e => by injection e with e; have := HA.out.2; have hq : w0.drew.heap.size = w0.heap.size := rfl; omega)) (HA.out.1.setCells0 (by rw [hpl, List.length_replicate]))⟩
  case rest =>
    obtain ⟨g7, rfl, hnum, hG, hP7⟩ := hcut
    have e33 := hG.cs.sl
    have e32 := hG.cs.leaf
    have H2 := Lib.hid (And.intro hnum (And.intro hG hP7))
    clear hnum hG hP7
    go_wp2_with fail
    refine (rfrm_all csp Ao A m co n c leaf sign d o kf wc HF.out HCS.out.2.1 HT.out.2.1 HT.out.2.2.1 HT.out.2.2.2.1 (HT.out.2.2.2.2.2.2.2.below H2.out.2.1.bl) (HT.out.2.2.2.2.2.2.1.below H2.out.2.1.bl)).mono ?_
    rintro e w3 ⟨rfl, hb3⟩
    have H3 := Lib.hid (And.intro (H2.out.1.below hb3) (And.intro (H2.out.2.1.below hb3) (H2.out.2.2.below hb3)))
    have HIP := Lib.hid (show (some 32 : Option Nat) = some csp.length by rw [hpl])
    clear hb3 e33 e32
    have HITP := Lib.hid (show (some 32 : Option Nat) = some cst.length by rw [htl])
    have HLDF : Hid (∀ wx, GoodF w w.heap.size (w.heap.size + 1) csd leaf (.slice A n c) a0 a1 a2 wx → (loadVar 28 ⟨w.heap.size, 0, none⟩).run Tryd.prog wx = .ok (.agg csd.toArray) wx) := Lib.hid (fun wx hG => run_load_agg (P := Tryd.prog) hu28 rfl hi28 wx ⟨w.heap.size, 0, none⟩ csd rfl (fun j u hj => by rw [add_plain]; exact hG.cs.rg j u hj))
    go_wp2_with (first
      | (refine wpList_store_blk rfl 28 (.tmp 9) (.tmp 31) rfl w3.heap.size csp rfl rfl 28 _ (heap_alloc_new w3 _) (Eq.trans (by kernel_rfl) HIP.out) (by rw [hpl]; rfl) hp1 ?_; intro w4 hw4 hg4
         have hb4 : Below w3.heap.size w3 w4 := ((Below.refl w3.heap.size w3).alloc (Nat.le_refl _) _).grown hg4 (by simp) (fun r e => by injection e with e; omega)
         have H4 := Lib.hid (And.intro (H3.out.1.below hb4) (And.intro (H3.out.2.1.below hb4) (And.intro (H3.out.2.2.below hb4) hw4)))
         have e32 := H4.out.2.1.cs.leaf
         have q0 := H4.out.2.1.b3.cellD 0 _ rfl
         have q1 := H4.out.2.1.b3.cellD 1 _ rfl
         have q2 := H4.out.2.1.b3.cellD 2 _ rfl
         clear hw4 hg4 hb4)
      | (refine wpList_load rfl (.tmp 33) rfl _ _ rfl (HLDF.out _ H4.out.2.1) ?_))
    refine (step_to5 csd cst seed leaf a0 a1 a2 w4 w HCS.out.1 HT.out.1 HCS.out.2.2 H4.out.2.1.bl ht.out.1).mono ?_
    rintro e w5 ⟨rfl, hb5⟩
    have H5 := Lib.hid (And.intro (H4.out.1.below hb5) (And.intro (H4.out.2.1.below hb5) (And.intro (H4.out.2.2.1.below hb5) (H4.out.2.2.2.below hb5))))
    clear hb5 e32 q0 q1 q2
    go_wp2_with (first
      | (refine wpList_store_blk rfl 28 (.tmp 11) (.tmp 43) rfl w5.heap.size cst rfl rfl 28 _ (heap_alloc_new w5 _) (Eq.trans (by kernel_rfl) HITP.out) (by rw [htl]; rfl) ht1 ?_; intro w6 hw6 hg6
         have hb6 : Below w5.heap.size w5 w6 := ((Below.refl w5.heap.size w5).alloc (Nat.le_refl _) _).grown hg6 (by simp) (fun r e => by injection e with e; omega)
         have H6 := Lib.hid (And.intro (H5.out.1.below hb6) (And.intro (H5.out.2.1.below hb6) (And.intro (H5.out.2.2.1.below hb6) (And.intro (H5.out.2.2.2.below hb6) hw6))))
         have e32 := H6.out.2.1.cs.leaf
         have q0 := H6.out.2.1.b3.cellD 0 _ rfl
         have q1 := H6.out.2.1.b3.cellD 1 _ rfl
         have q2 := H6.out.2.1.b3.cellD 2 _ rfl
         clear hw6 hg6 hb6)
      | (refine wpList_load rfl (.tmp 44) rfl _ _ rfl (HLDF.out _ H6.out.2.1) ?_))
    refine (rstep_to5 csd cst seed leaf a0 a1 a2 w6 HCS.out.1 HT.out.1 HCS.out.2.2).mono ?_
    rintro e w7 ⟨rfl, hb7⟩
    have H7 := Lib.hid (And.intro (H6.out.1.below hb7) (And.intro (H6.out.2.1.below hb7) (And.intro (H6.out.2.2.1.below hb7) (And.intro (H6.out.2.2.2.1.below hb7) (H6.out.2.2.2.2.below hb7)))))
    clear hb7 e32 q0 q1 q2
    go_wp2_with (first
      | (refine wpList_store_blk rfl 28 (.tmp 12) (.tmp 54) rfl w7.heap.size cst rfl rfl 28 _ (heap_alloc_new w7 _) (Eq.trans (by kernel_rfl) HITP.out) (by rw [htl]; rfl) ht1 ?_; intro w8 hw8 hg8
         have hb8 : Below w7.heap.size w7 w8 := ((Below.refl w7.heap.size w7).alloc (Nat.le_refl _) _).grown hg8 (by simp) (fun r e => by injection e with e; omega)
         have H8 := Lib.hid (And.intro (H7.out.1.below hb8) (And.intro (H7.out.2.1.below hb8) (And.intro (H7.out.2.2.1.below hb8) (And.intro (H7.out.2.2.2.1.below hb8) (And.intro (H7.out.2.2.2.2.below hb8) hw8)))))
         clear hw8 hg8 hb8)
      | (refine wpList_load_want (by kernel_rfl) 28 (.tmp 7) rfl g7 rfl 28 csp _ H8.out.2.2.1 Tryd.underlying28 rfl (Eq.trans (by kernel_rfl) HIP.out) ?_)
      | (refine wpList_load_want (by kernel_rfl) 28 (.tmp 9) rfl w3.heap.size rfl 28 csp _ H8.out.2.2.2.1 Tryd.underlying28 rfl (Eq.trans (by kernel_rfl) HIP.out) ?_)
      | (refine wpList_load_want (by kernel_rfl) 28 (.tmp 11) rfl w5.heap.size rfl 28 cst _ H9.out.2.2.1 Tryd.underlying28 rfl (Eq.trans (by kernel_rfl) HITP.out) ?_)
      | (refine wpList_load_want (by kernel_rfl) 28 (.tmp 12) rfl w7.heap.size rfl 28 cst _ H9.out.2.2.2 Tryd.underlying28 rfl (Eq.trans (by kernel_rfl) HITP.out) ?_)
      | (go_at_call 39; refine (num05_all _ kf _ H8.out.1 (ht.out.2.below H8.out.2.1.bl ht.out.2.lt)).mono ?_; rintro e w9 ⟨rfl, hb9⟩
         have H9 := Lib.hid (And.intro trivial (And.intro (H8.out.2.1.below hb9) (And.intro (H8.out.2.2.2.2.1.below hb9) (H8.out.2.2.2.2.2.below hb9))))
         clear hb9)
      | (go_at_call 22; refine (sure05_any _ (ht.out.1.below H9.out.2.1.bl ht.out.1.lt)).mono ?_; rintro e w10 ⟨rfl, hb10⟩; have H10 := Lib.hid (below_then H9.out.2.1.bl H9.out.2.1.bl.size hb10); clear hb10))
    go_ret
    exact ⟨rfl, H10.out⟩
end Go.Proofs.YtcgdojdiihdkeaaDoor

/- WotsFrom holds for every input, what the program lays as it is laid. -/
namespace Go.Proofs.YtcgdojdiihdkeaaDoor.wotsFrom
open Go.ChangeShapes Go.WideShapes Go.ChangeAt Go.RowKit Go.Isth Go.Proofs.YtcgdojdiihdkeaaDoor.card

set_option maxRecDepth 100000 in
theorem contract (H : Type) (enc : TypeId × Value → H) (W : World) (base : Nat) (args : Array Value) (ds gs : List (DataW H)) (before : List MemPlace)
    (hval : ∀ (j : Nat) t v, Tryd.f10.params[j]? = some t → args[j]? = some v → Value.okWide Tryd.prog W .any base t v)
    (hW : DataW.Whole enc Tryd.prog Tryd.f10.params.toList Rows.wotsFromSpec.vars false W args.toList ds gs before) (hL : laidMetH Tryd.prog Rows.wotsFromRow.laid W)
    (hsz0 : (DataW.weightsEach Tryd.prog (Tryd.f10.params.toList ++ Rows.wotsFromSpec.plain.varTypes Tryd.prog) (ds ++ gs)).all (· ≤ reachBytes) = true) :
    Calls Tryd.prog 10 args W fun e W' => ∃ v, e = .returned v ∧ Rows.wotsFromSpec.post enc Tryd.prog Tryd.f10 false true false false W args v W' := by
  have hW' := hW
  have hsz := hsz0
  obtain ⟨p, q, hA0, hV, rfl, hfz, hnd⟩ := hW
  have hA : DataW.TrodAll enc Tryd.prog W 0 (fun _ => true) true Tryd.f10.params.toList args.toList ds p := hA0
  rw [Tryd.params10] at hA hval hsz
  obtain ⟨v0, vs0, d0, ds0, p0, q0, hargs, rfl, rfl, h0, r0⟩ := trodAll_cons hA
  obtain ⟨v1, vs1, d1, ds1, p1, q1, rfl, rfl, rfl, h1, r1⟩ := trodAll_cons r0
  obtain ⟨v2, vs2, d2, ds2, p2, q2, rfl, rfl, rfl, h2, r2⟩ := trodAll_cons r1
  obtain ⟨rfl, rfl, rfl⟩ := trodAll_nil r2
  obtain rfl : args = #[v0, v1, v2] := by cases args; simp_all
  obtain ⟨rfl, rfl⟩ := trodVars_none hV
  obtain ⟨A0, len0, cap0, rfl⟩ := okWide_slice Tryd.underlying22 (hval 0 22 v0 rfl rfl)
  have k0 := h0
  have lt0 : ∀ x ∈ p0, x.block < W.heap.size := by obtain ⟨m, hm⟩ := k0; exact DataW.trod_lt m _ _ _ hm
  obtain ⟨fuel0, hf0⟩ := h0
  obtain ⟨bs0, v0, e0, hs0⟩ := o_bytes H enc W true fuel0 _ d0 p0 hf0 (reach_of hsz (j := 0) rfl rfl)
  obtain ⟨A0', c0', rfl, hc0, hr0, hm0, hn0⟩ := bytes_of hs0
  simp only [Value.cells, List.cons.injEq, and_true] at e0
  injection e0 with e1 e2 e3
  subst e1
  subst e2
  subst e3
  have k1 := h1
  have lt1 : ∀ x ∈ p1, x.block < W.heap.size := by obtain ⟨m, hm⟩ := k1; exact DataW.trod_lt m _ _ _ hm
  obtain ⟨bs1, a1, A1, c1, dg1, rfl, hx1⟩ := case_of (hval 1 34 v1 rfl rfl) h1 (reach_of hsz (j := 1) rfl rfl)
  have k2 := h2
  have lt2 : ∀ x ∈ p2, x.block < W.heap.size := by obtain ⟨m, hm⟩ := k2; exact DataW.trod_lt m _ _ _ hm
  obtain ⟨a2, b2, c2, rfl⟩ := int3_of (hval 2 48 v2 rfl rfl) h2
  clear hA0
  have tab : TabLaid W := rounds_of hL.1
  have ty : TypeCell W := type_of hL.2
  refine (from_any bs1 a1 a2 b2 c2 dg1.length bs0.length A1 A0 c1 cap0 dg1 bs0 W hx1.1 rfl rfl hc0 (by have := hx1.2.2.2; omega) (by omega) hx1.2.2.1 hr0 tab ty).mono fun e W' ⟨he, bel⟩ => ?_
  subst he
  exact ⟨_, rfl, _, _, _, [], _, [], hW', trodAll_mk1 (shut_bool Tryd.underlying4 _), (trodAll_cons_mk (Below.trod laidOut (by kernel_rfl) (of_decide_eq_true (by kernel_rfl)) k0 bel lt0) (trodAll_cons_mk (Below.trod laidOut (by kernel_rfl) (of_decide_eq_true (by kernel_rfl)) k1 bel lt1) (trodAll_cons_mk (Below.trod laidOut (by kernel_rfl) (of_decide_eq_true (by kernel_rfl)) k2 bel lt2) trodAll_mk0))), rfl, bel.frame _, fun h => by cases h⟩

abbrev wit : Array Value := #[.slice none 0 0, .agg ((List.replicate 32 (B 0)).toArray ++ #[.int .i64 0, .slice none 0 0]), .agg #[.int .i64 0, .int .i64 0, .int .i64 0]]
theorem laid_met (os : Os) : laidMetH Tryd.prog Rows.wotsFromRow.laid ((laidWorld os).forCall (fun _ _ => 0) ⟨#[], wit, []⟩).memory := laidMetH_of_parts (rounds_met os wit) (by kernel_rfl)
theorem reads (os : Os) {H : Type} (enc : TypeId × Value → H) : ∃ places, DataW.whole enc Tryd.prog ((laidWorld os).forCall (fun _ _ => 0) ⟨#[], wit, []⟩).memory Tryd.f10.params.toList Rows.wotsFromSpec.vars false wit.toList 8 = some ([.nil, .agg [.agg (List.replicate 32 (.lit (.int .u8 0))), .lit (.int .i64 0), .nil], .agg [.lit (.int .i64 0), .lit (.int .i64 0), .lit (.int .i64 0)]], [], places) :=
  ⟨[], by kernel_rfl⟩

set_option maxRecDepth 100000 in
theorem lifted (os : Os) (started : os.Started) (H : Type) (enc : TypeId × Value → H) (F : Stop.Interp) :
    ReturnsInHanded {} Tryd.checked os 10 .any ((OpenSpec.ofChange Rows.wotsFromSpec).preRow enc Tryd.prog Tryd.f10 Rows.wotsFromRow.domain false Rows.wotsFromRow.laid) (((OpenSpec.ofChange Rows.wotsFromSpec).at F).post enc Tryd.prog Tryd.f10 false true false false) := by
  obtain ⟨places, hx⟩ := reads os enc
  refine returnsInHanded_of_row (C := Tryd.checked) (s := OpenSpec.ofChange Rows.wotsFromSpec) own started (by kernel_rfl) Tryd.func10
    (witness_row_atRef (enc := enc) (C := Tryd.checked) false (laidWorld os) wit rfl (by kernel_rfl) (by kernel_rfl) (by kernel_rfl)
      (OpenSpec.preRow_of_cond 8 hx (by kernel_rfl) (fun k hk => by cases hk) (by kernel_rfl) (laid_met os))) ?_
  intro W base args ds gs before hval hW _ _ hsz hL _ _
  exact contract H enc W base args ds gs before hval hW hL hsz

theorem said : Rows.WotsFromSaid :=
  OpenClaim.holds_of_cond 10 Tryd.f10 rfl rfl rfl rfl rfl rfl rfl ⟨rfl, rfl, rfl, rfl, rfl⟩ rfl rfl rfl rfl rfl (by kernel_rfl) Tryd.func10 (by kernel_rfl)
    (of_decide_eq_true (by kernel_rfl)) (by unfold Func.isWrapper; first | (rw [if_pos (by decide +kernel)]; kernel_rfl) | (rw [if_neg (by decide +kernel)]; exact ⟨rfl, rfl⟩))
    (fun os started H enc _ F => by rw [OpenClaim.pre_eq_preRow]; exact lifted os started H enc F)

theorem plain (f : FuncId) (fn : Func) (hf : Tryd.pinned.checked.prog.funcNamed "isthmus/isthmuslaw05.WotsFrom" = some f) (hfn : Tryd.pinned.checked.prog.funcs[f]? = some fn) :
    true = Tryd.pinned.checked.prog.looks [] ∧ ∀ (j : Nat) t, fn.params[j]? = some t → Tryd.pinned.checked.prog.wantsStandIn t = false := by
  obtain rfl : f = 10 := Option.some.inj ((show Tryd.prog.funcNamed "isthmus/isthmuslaw05.WotsFrom" = some 10 by kernel_rfl).symm.trans hf) |>.symm
  obtain rfl : fn = Tryd.f10 := (Option.some.inj (Tryd.func10.symm.trans hfn)).symm
  refine ⟨by kernel_rfl, fun j t ht => ?_⟩
  rw [Tryd.params10] at ht
  have hm := Array.mem_of_getElem? ht
  simp only [List.mem_toArray, List.mem_cons, List.not_mem_nil, or_false] at hm
  rcases hm with rfl | rfl | rfl
  · exact (show Tryd.prog.wantsStandIn 22 = false by kernel_rfl)
  · exact (show Tryd.prog.wantsStandIn 34 = false by kernel_rfl)
  · exact (show Tryd.prog.wantsStandIn 48 = false by kernel_rfl)

theorem card : Rows.WotsFromCardSaid :=
  Claim7.holds_tied_plain_at .later [] _ _ _ _ said (fun _ h => by cases h) (by kernel_rfl) (fun _ h => by cases h) wotsFrom_row_tie rfl ⟨rfl, rfl⟩ (by kernel_rfl) rfl plain (by kernel_rfl)
#print axioms card
end Go.Proofs.YtcgdojdiihdkeaaDoor.wotsFrom
