/- WotsBack: the walk where a leaf and a digest may be. -/
import Derived.Test.YtcgdojdiihdkeaaDoorBack1
import Derived.Test.YtcgdojdiihdkeaaDoorWots9
namespace Go.Proofs.YtcgdojdiihdkeaaDoor
open Go Go.RowKit Go.Isth

section
variable {ops : Array Oper} {o : Oper} {a : Act} {w : World} {K : Act → World → Prop} {Q : Exit → Act → World → Prop} {E : Prop}
/-- 'var h api.Hash', a step of a drawing region; the world behind it has a name. -/
theorem step_alloc28 (hgd : o.guard = none) (ho : o.op = .alloc 28)
    (h : ∀ w', Blk w' w.heap.size 28 (List.replicate 32 (B 0)) → Below w.heap.size w w' → K (a.put o.dst (.pointer (some ⟨w.heap.size, 0, none⟩))) w') :
    if Region.wanted o (yielded ops a.tmps) = true then Oper.wp Tryd.prog o a w K Q else E := by
  have hw : Region.wanted o (yielded ops a.tmps) = true := by simp [Region.wanted, hgd]
  rw [if_pos hw]
  have hrun : (Instr.alloc 28 true (.tuple #[])).run Tryd.prog w = .ok (.pointer (some ⟨w.heap.size, 0, none⟩)) (w.alloc (.cells (List.replicate 32 (B 0)).toArray 28)) := by kernel_rfl
  unfold Oper.wp execOp
  simp only [ho, Sem.run_bind, Sem.run_pure, Result.andThen_ok, hrun]
  exact h _ (Blk_new w _ _) ((Below.refl _ _).alloc (Nat.le_refl _) _)
/-- A whole array into a block, a step of a drawing region. -/
theorem step_store_blk {P : Program} (hgd : o.guard = none) (ty : TypeId) (x y : Operand) (ho : o.op = .store ty x y)
    (g : Nat) (cs : List Value) (hx : a.eval x = .pointer (some ⟨g, 0, none⟩)) (hy : a.eval y = .agg cs.toArray)
    (t : TypeId) (old : List Value) (hg : Blk w g t old) (hi : (P.info? ty).map (·.size) = some cs.length)
    (hold : old.length = cs.length) (h1 : ∀ v ∈ cs, v.oneCell' = true)
    (h : ∀ w', Blk w' g t cs → w.grownBy w' (some g) → K (a.put o.dst undef) w') :
    if Region.wanted o (yielded ops a.tmps) = true then Oper.wp P o a w K Q else E := by
  have hw : Region.wanted o (yielded ops a.tmps) = true := by simp [Region.wanted, hgd]
  rw [if_pos hw]
  exact wp_store_row ty x y ho g cs.toArray hx hy t old.toArray hg (by simpa using hi) (by simpa using hold) (all_one h1) (h _ (setRow_heap w g _ _ t _ hg) (grown_setRow _))
end
theorem sign_yes' (cs : List Value) (seed : List UInt8) (leaf n : Nat) (A : Option Addr) (c : Nat) (d : List UInt8) (w w0 : World) (hcs : cs = seed.map B) (hn : d.length = n) (hs : seed.length = 32) (hl : leaf < 1024) (h1 : 1 ≤ n) (h2 : n ≤ 32) (hr : Rd w A (d.map B)) (hw : Below w0.heap.size w0 w) (ht : TabLaid w0) :
    Calls Tryd.prog 19 #[.agg cs.toArray, .int .i64 leaf, .slice A n c] w fun e w' => ∃ v, e = .returned (.tuple #[v, .nilIface]) ∧ w'.ownsRow w.heap.size 5 1 v (32 * (2 * n + 3)) ((signF seed leaf d).map B) ∧ Below w.heap.size w w' := by
  subst hcs
  subst hn
  have h := sign_yes seed leaf A c d w hs hl h1 h2 hr (ht.below hw ht.lt)
  rw [signF_length] at h
  exact h
theorem public_yes' (cs cp : List Value) (seed : List UInt8) (leaf n : Nat) (w w0 : World) (hcs : cs = seed.map B) (hcp : cp = (publicF seed leaf n).map B) (hs : seed.length = 32) (hl : leaf < 1024) (h1 : 1 ≤ n) (h2 : n ≤ 32) (hw : Below w0.heap.size w0 w) (ht : TabLaid w0) :
    Calls Tryd.prog 21 #[.agg cs.toArray, .int .i64 leaf, .int .i64 n] w fun e w' => e = .returned (.tuple #[.agg cp.toArray, .nilIface]) ∧ Below w.heap.size w w' := by
  subst hcs
  subst hcp
  exact public_yes seed leaf n w hs hl h1 h2 (ht.below hw ht.lt)
theorem frm_yes' (cp : List Value) (As Ad : Option Addr) (cs cd m n leaf : Nat) (sign d : List UInt8) (w w0 : World) (hcp : cp = (fromF sign leaf d).map B) (hl : leaf < 1024) (hn : d.length = n) (h1 : 1 ≤ n) (h2 : n ≤ 32) (hm : m = 32 * (2 * n + 3)) (hsl : sign.length = m) (hcs : m ≤ cs) (hrs : Rd w As (sign.map B)) (hrd : Rd w Ad (d.map B)) (hw : Below w0.heap.size w0 w) (ht : TabLaid w0) :
    Calls Tryd.prog 23 #[.slice As m cs, .int .i64 leaf, .slice Ad n cd] w fun e w' => e = .returned (.tuple #[.agg cp.toArray, .nilIface]) ∧ Below w.heap.size w w' := by
  subst hcp
  subst hn
  exact frm_yes As Ad cs cd m leaf sign d w hl h1 h2 hm hsl hcs hrs hrd (ht.below hw ht.lt)
theorem twin_to (A : Option Addr) (c n : Nat) (bs : List UInt8) (w w0 : World) (hn : bs.length = n) (hm : n ≤ 140737488355328) (hr : Rd w0 A (bs.map B)) (hw : Below w0.heap.size w0 w) :
    Calls Tryd.prog 20 #[.slice A n c] w fun e w' => ∃ v, e = .returned v ∧ w'.ownsRow w.heap.size 5 1 v n (bs.map B) ∧ Below w.heap.size w w' := by
  subst hn
  exact twin05_any A c bs w hm (hr.below hw)

theorem digits_to (A : Option Addr) (c n N : Nat) (d : List UInt8) (w : World) (hn : d.length = n) (hN : N = 2 * n + 3) (h1 : 1 ≤ n) (h2 : n ≤ 32) (hr : Rd w A (d.map B)) :
    Calls Tryd.prog 25 #[.slice A n c] w fun e w' => ∃ v, e = .returned v ∧ w'.ownsRow w.heap.size 3 1 v N ((digitsW d).map I) ∧ Below w.heap.size w w' := by
  subst hn
  have h := digits_any A c d w h1 h2 hr
  rw [digitsW_length, ← hN] at h
  exact h
def MoreInv (w9 : World) (N : Nat) (a b : List Nat) (v13 v14 v15 : Value) (wr : World) : Prop :=
  ∃ (k : Nat) (mo le : Bool), k ≤ N ∧ v15 = I k ∧ v13 = .bool mo ∧ v14 = .bool le ∧ (∀ (j x y : Nat), j < k → a[j]? = some x → b[j]? = some y → y < x → mo = true) ∧ (∀ (j x y : Nat), j < k → a[j]? = some x → b[j]? = some y → x < y → le = true) ∧ Below w9.heap.size w9 wr
/-- What stands from the third call on. -/
structure Good5 (w : World) (p pb : Nat) (csd csp : List Value) (leaf : Int) (sl : Value) (A5 : Option Addr) (S : List UInt8) (wc : World) : Prop where
  cs : CaseAt wc p csd leaf sl
  lt : p < wc.heap.size
  bl : Below w.heap.size w wc
  pu : Blk wc pb 28 csp
  rd : Rd wc A5 (S.map B)
theorem Good5.below {w wc w' : World} {p pb : Nat} {csd csp : List Value} {leaf : Int} {sl : Value} {A5 : Option Addr} {S : List UInt8} (h : Good5 w p pb csd csp leaf sl A5 S wc) (hb : Below wc.heap.size wc w') : Good5 w p pb csd csp leaf sl A5 S w' :=
  ⟨h.cs.below hb h.lt, Nat.lt_of_lt_of_le h.lt hb.size, below_then h.bl h.bl.size hb, h.pu.below hb, h.rd.below hb⟩
set_option maxRecDepth 100000 in
set_option maxHeartbeats 4000000 in
theorem back_yes (seed : List UInt8) (leaf n m : Nat) (A Ao : Option Addr) (c co : Nat) (d oth : List UInt8) (w : World) (hs : seed.length = 32) (hl : leaf < 1024) (h1 : 1 ≤ n) (h2 : n ≤ 32) (hn : d.length = n) (hm : oth.length = m) (hmb : m ≤ 140737488355328) (hr : Rd w A (d.map B)) (hro : Rd w Ao (oth.map B)) (ht : TabLaid w) :
    Calls Tryd.prog 4 #[.agg (caseCells seed leaf (.slice A n c)).toArray, .slice Ao m co] w fun e w' => e = .returned (.bool true) ∧ Below w.heap.size w w' := by
  have HT := Lib.hid (And.intro hs (And.intro hl (And.intro h1 (And.intro h2 (And.intro hn (And.intro hm (And.intro hmb (And.intro hr (And.intro hro ht)))))))))
  have ht : Hid (TabLaid w) := Lib.hid ht
  clear hs hl h1 h2 hn hm hmb hr hro
  go_enter Tryd.func4, Tryd.ntmps4
  go_wp2_with fail
  have hz0 := CaseAt.of_blk (Blk_new w (caseCells seed leaf (.slice A n c)) 34) HT.out.1
  have hb0 : Below w.heap.size w (w.alloc (.cells (caseCells seed leaf (.slice A n c)).toArray 34)) := (Below.refl _ _).alloc (Nat.le_refl _) _
  have hlt0 : w.heap.size < (w.alloc (.cells (caseCells seed leaf (.slice A n c)).toArray 34)).heap.size := by simp
  generalize w.alloc (.cells (caseCells seed leaf (.slice A n c)).toArray 34) = w0 at *
  obtain ⟨csd, hcsd⟩ : ∃ cs, cs = seed.map B := ⟨_, rfl⟩
  obtain ⟨csp, hcsp⟩ : ∃ cs, cs = (publicF seed leaf n).map B := ⟨_, rfl⟩
  rw [← hcsd] at hz0
  have hcl : csd.length = 32 := by rw [hcsd, List.length_map]; exact HT.out.1
  have hpl : csp.length = 32 := by rw [hcsp, List.length_map]; exact publicF_length _ _ _
  have hp1 : ∀ u ∈ csp, u.oneCell' = true := by rw [hcsp]; exact one_bytes
  have hi28 : (Tryd.prog.info? 28).map (·.size) = some csd.length := by rw [hcl]; kernel_rfl
  have hip : (Tryd.prog.info? 28).map (·.size) = some csp.length := by rw [hpl]; kernel_rfl
  have hu28 := Tryd.underlying28
  have hneq : ∀ wx, (binOp .neq 28 (.agg csp.toArray) (.agg csp.toArray)).run Tryd.prog wx = .ok (.bool false) wx := by
    intro wx
    have h := run_neq_bytes aHash5 wx _ _ (publicF_length seed leaf n) (publicF_length seed leaf n)
    rw [← hcsp] at h
    simpa using h
  obtain ⟨M, hM⟩ : ∃ M, M = 32 * (2 * n + 3) := ⟨_, rfl⟩
  obtain ⟨S, hS⟩ : ∃ S, signF seed leaf d = S := ⟨_, rfl⟩
  have hfs : csp = (fromF S leaf d).map B := by rw [← hS, from_sign, HT.out.2.2.2.2.1, hcsp]
  have hSl : S.length = M := by rw [← hS, signF_length, HT.out.2.2.2.2.1, hM]
  have HCS := Lib.hid (And.intro hcsd (And.intro hcsp (And.intro hfs (And.intro hM (And.intro hS hSl)))))
  have H0 := Lib.hid (And.intro hz0 (And.intro hb0 hlt0))
  clear hcsd hcsp hz0 hb0 hlt0 hfs hM hS hSl
  go_region_held3 (fun w' => w'.rangeAt w.heap.size 0 csd ∧ w'.cell? ⟨w.heap.size, 32, none⟩ = some (.int .i64 leaf) ∧ w'.cell? ⟨w.heap.size, 33, none⟩ = some (.slice A n c))
    (first | exact ⟨H0.out.1.rg, H0.out.1.leaf, H0.out.1.sl⟩ | exact ⟨H1.out.1.rg, H1.out.1.leaf, H1.out.1.sl⟩ | exact ⟨H2.out.1.rg, H2.out.1.leaf, H2.out.1.sl⟩)
    (first
      | (go_at_call 20; refine (twin_to A c n d w0.drew w HT.out.2.2.2.2.1 (by have := HT.out.2.2.2.1; omega) HT.out.2.2.2.2.2.2.2.1 H0.out.2.1.drew).mono ?_
         rintro e w1 ⟨v1, rfl, ho1, hb1⟩
         obtain ⟨A1, c1, rfl, _, hr1, _⟩ := own_slice ho1
         have H1 := Lib.hid (And.intro (H0.out.1.drew.below hb1 H0.out.2.2) (And.intro (below_then H0.out.2.1.drew H0.out.2.1.drew.size hb1) (And.intro (Nat.lt_of_lt_of_le H0.out.2.2 hb1.size) hr1)))
         clear ho1 hb1 hr1)
      | (go_at_call 19; refine (sign_yes' csd seed leaf n A1 c1 d w1 w HCS.out.1 HT.out.2.2.2.2.1 HT.out.1 HT.out.2.1 HT.out.2.2.1 HT.out.2.2.2.1 H1.out.2.2.2 H1.out.2.1 ht.out).mono ?_
         rintro e w2 ⟨v2, rfl, ho2, hb2⟩
         rw [HCS.out.2.2.2.2.1, ← HCS.out.2.2.2.1] at ho2
         obtain ⟨A5, c5, rfl, hc5, hr5, _⟩ := own_slice ho2
         have H2 := Lib.hid (And.intro (H1.out.1.below hb2 H1.out.2.2.1) (And.intro (below_then H1.out.2.1 H1.out.2.1.size hb2) (And.intro (Nat.lt_of_lt_of_le H1.out.2.2.1 hb2.size) (And.intro hc5 hr5))))
         clear hb2 ho2 hc5 hr5))
  have e33 := H2.out.1.sl
  have e32 := H2.out.1.leaf
  have hld : (loadVar 28 ⟨w.heap.size, 0, none⟩).run Tryd.prog w2 = .ok (.agg csd.toArray) w2 := run_load_agg (P := Tryd.prog) hu28 rfl hi28 w2 ⟨w.heap.size, 0, none⟩ csd rfl (fun j u hj => by rw [add_plain]; exact H2.out.1.rg j u hj)
  have HLD := Lib.hid hld
  clear hld
  go_wp2_with (refine wpList_load rfl (.tmp 28) rfl _ _ rfl HLD.out ?_)
  refine (public_yes' csd csp seed leaf n w2 w HCS.out.1 HCS.out.2.1 HT.out.1 HT.out.2.1 HT.out.2.2.1 HT.out.2.2.2.1 H2.out.2.1 ht.out).mono ?_
  rintro e w3 ⟨rfl, hb3⟩
  have H3 := Lib.hid (And.intro (H2.out.1.below hb3 H2.out.2.2.1) (And.intro (Nat.lt_of_lt_of_le H2.out.2.2.1 hb3.size) (And.intro (below_then H2.out.2.1 H2.out.2.1.size hb3) (H2.out.2.2.2.2.below hb3))))
  have HIP := Lib.hid (show (some 32 : Option Nat) = some csp.length by rw [hpl])
  clear hb3 e33 e32
  go_wp2_with (refine wpList_store_blk rfl 28 (.tmp 7) (.tmp 36) rfl w3.heap.size csp rfl rfl 28 _ (heap_alloc_new w3 _) (Eq.trans (by kernel_rfl) HIP.out) (by rw [hpl]; rfl) hp1 ?_; intro w4 hw4 hg4
               have hb4 : Below w3.heap.size w3 w4 := ((Below.refl w3.heap.size w3).alloc (Nat.le_refl _) _).grown hg4 (by simp) (fun r e => by injection e with e; omega)
               have HG : Hid (Good5 w w.heap.size w3.heap.size csd csp leaf (.slice A n c) A5 S w4) := Lib.hid ⟨H3.out.1.below hb4 H3.out.2.1, Nat.lt_of_lt_of_le H3.out.2.1 hb4.size, below_then H3.out.2.2.1 H3.out.2.2.1.size hb4, hw4, H3.out.2.2.2.below hb4⟩
               clear hw4 hg4 hb4)
  go_cut [9, 10] from 63 (fun v9 v10 wr => ∃ g9 : Nat, v9 = .pointer (some ⟨g9, 0, none⟩) ∧ v10 = .nilIface ∧ Good5 w w.heap.size w3.heap.size csd csp leaf (.slice A n c) A5 S wr ∧ Blk wr g9 28 csp)
  case first =>
    have HG := Lib.hid (HG.out.below (refl_drewN w4 1))
    change Hid (Good5 w w.heap.size w3.heap.size csd csp leaf (.slice A n c) A5 S w4.drew) at HG
    have HB : Hid (Below w4.drew.heap.size w4.drew w4.drew) := Lib.hid (Below.refl _ _)
    go_region_held3 (fun w' => w'.cell? ⟨w.heap.size, 32, none⟩ = some (.int .i64 leaf) ∧ w'.cell? ⟨w.heap.size, 33, none⟩ = some (.slice A n c))
      (first
        | exact ⟨(HG.out.below HB.out).cs.leaf, (HG.out.below HB.out).cs.sl⟩
        | exact ⟨(HG.out.below (HB.out.alloc HB.out.size _)).cs.leaf, (HG.out.below (HB.out.alloc HB.out.size _)).cs.sl⟩
        | exact ⟨(HG.out.below (HB.out.grown (grown_setCells _ csp 0 _) HB.out.size (fun r e => by injection e with e; have := HA.out.2; have hq : w4.drew.heap.size = w4.heap.size := rfl; omega))).cs.leaf, (HG.out.below (HB.out.grown (grown_setCells _ csp 0 _) HB.out.size (fun r e => by injection e with e; have := HA.out.2; have hq : w4.drew.heap.size = w4.heap.size := rfl; omega))).cs.sl⟩
        | (have hx := HG.out.below ((HB.out.alloc HB.out.size (.cells (List.replicate 32 (B 0)).toArray 28)).grown (grown_setCells wc.heap.size csp 0 _) (HB.out.alloc HB.out.size _).size (fun r e => by injection e with e; have := HB.out.size; omega)); exact ⟨hx.cs.leaf, hx.cs.sl⟩))
      (first
        | (go_at_call 20; refine (twin_to A c n d _ w HT.out.2.2.2.2.1 (by have := HT.out.2.2.2.1; omega) HT.out.2.2.2.2.2.2.2.1 (HG.out.below HB.out).bl).mono ?_
           rintro e wc ⟨v1, rfl, ho1, hb1⟩
           obtain ⟨A9, c9, rfl, _, hr1, _⟩ := own_slice ho1
           have HB := Lib.hid (below_then HB.out HB.out.size hb1)
           have HT1 := Lib.hid hr1
           clear ho1 hb1 hr1)
        | (go_at_call 20
           have HA := Lib.hid (And.intro (Blk_new w4.drew (List.replicate 32 (B 0)) 28) (Nat.le_refl w4.drew.heap.size))
           have HBA := Lib.hid (HB.out.alloc HB.out.size (.cells (List.replicate 32 (B 0)).toArray 28))
           refine (twin_to A c n d _ w HT.out.2.2.2.2.1 (by have := HT.out.2.2.2.1; omega) HT.out.2.2.2.2.2.2.2.1 (HG.out.below HBA.out).bl).mono ?_
           rintro e wc ⟨v1, rfl, ho1, hb1⟩
           obtain ⟨A9, c9, rfl, _, hr1, _⟩ := own_slice ho1
           have HA := Lib.hid (And.intro (HA.out.1.below hb1) HA.out.2)
           have HB := Lib.hid (below_then HBA.out HBA.out.size hb1)
           have HT1 := Lib.hid hr1
           clear ho1 hb1 hr1 HBA)
        | (go_at_call 23; refine (frm_yes' csp A5 A9 c5 c9 M n leaf S d _ w HCS.out.2.2.1 HT.out.2.1 HT.out.2.2.2.2.1 HT.out.2.2.1 HT.out.2.2.2.1 HCS.out.2.2.2.1 HCS.out.2.2.2.2.2 H2.out.2.2.2.1 (HG.out.below HB.out).rd HT1.out (HG.out.below HB.out).bl ht.out).mono ?_
           rintro e wc ⟨rfl, hb2⟩
           have HB := Lib.hid (below_then HB.out HB.out.size hb2)
           (first
             | (have HA := Lib.hid (And.intro (HA.out.1.below hb2) HA.out.2); have hth := HA.out.1.there (n := 32) (by simp))
             | have hth := (Blk_new wc (List.replicate 32 (B 0)) 28).there (n := 32) (by simp))
           clear hb2)
        | (go_at_call 23
           have HA := Lib.hid (And.intro (Blk_new wc (List.replicate 32 (B 0)) 28) HB.out.size)
           have HBA := Lib.hid (HB.out.alloc HB.out.size (.cells (List.replicate 32 (B 0)).toArray 28))
           refine (frm_yes' csp A5 A9 c5 c9 M n leaf S d _ w HCS.out.2.2.1 HT.out.2.1 HT.out.2.2.2.2.1 HT.out.2.2.1 HT.out.2.2.2.1 HCS.out.2.2.2.1 HCS.out.2.2.2.2.2 H2.out.2.2.2.1 (HG.out.below HBA.out).rd (HT1.out.alloc _) (HG.out.below HBA.out).bl ht.out).mono ?_
           rintro e wc ⟨rfl, hb2⟩
           have HA := Lib.hid (And.intro (HA.out.1.below hb2) HA.out.2)
           have HB := Lib.hid (below_then HBA.out HBA.out.size hb2)
           have hth := HA.out.1.there (n := 32) (by simp)
           clear hb2 HBA))
    all_goals
      have HF : Hid (∀ wz g, Below w4.drew.heap.size w4.drew wz → Blk wz g 28 csp → Good5 w w.heap.size w3.heap.size csd csp leaf (.slice A n c) A5 S wz ∧ Blk wz g 28 csp) := Lib.hid (fun wz g h1 h2 => ⟨HG.out.below h1, h2⟩)
      go_wp2_with fail
      go_meet
      case rel =>
        first
          | exact ⟨wc.heap.size, rfl, rfl, HF.out _ wc.heap.size ((HB.out.alloc HB.out.size (.cells (List.replicate 32 (B 0)).toArray 28)).grown (grown_setCells wc.heap.size csp 0 _) (HB.out.alloc HB.out.size _).size (fun r e => by injection e with e; have := HB.out.size; omega)) ((Blk_new wc (List.replicate 32 (B 0)) 28).setCells0 (by rw [hpl, List.length_replicate]))⟩
          | exact ⟨_, rfl, rfl, HF.out _ _ (HB.out.grown (grown_setCells _ csp 0 _) HB.out.size (fun r e => by injection e with e; have := HA.out.2; have hq : w4.drew.heap.size = w4.heap.size := rfl; omega)) (HA.out.1.setCells0 (by rw [hpl, List.length_replicate]))⟩
  case rest =>
    obtain ⟨g9, rfl, rfl, hG, hP9⟩ := hcut
    have e33 := hG.cs.sl
    obtain ⟨N, hN⟩ : ∃ N, N = 2 * n + 3 := ⟨_, rfl⟩
    have hneM : ((M : Int) != 32 * (N : Int)) = false := by have := HCS.out.2.2.2.1; simp; omega
    have hz7 := hG.pu
    have HR := Lib.hid (And.intro hG (And.intro hP9 hN))
    have hcd : (convert 22 9 (.slice A n c)).run Tryd.prog wc = .ok (.string ⟨d.toArray⟩) wc := run_str Tryd.underlying22 Tryd.underlying5 Tryd.underlying9 A n c d wc HT.out.2.2.2.2.1.symm (HT.out.2.2.2.2.2.2.2.1.below hG.bl)
    have hco : (convert 22 9 (.slice Ao m co)).run Tryd.prog wc = .ok (.string ⟨oth.toArray⟩) wc := run_str Tryd.underlying22 Tryd.underlying5 Tryd.underlying9 Ao m co oth wc HT.out.2.2.2.2.2.1.symm (HT.out.2.2.2.2.2.2.2.2.1.below hG.bl)
    have hN67 : N ≤ 67 := by have := HT.out.2.2.2.1; omega
    clear hN hG
    by_cases hmn : m = n
    · by_cases hod : oth = d
      · have hb : ((m : Int) != (n : Int)) = false := by rw [hmn]; exact bne_self_eq_false _
        have he : (oth == d) = true := by rw [hod]; exact beq_self_eq_true _
        have HM := Lib.hid (And.intro hmn hod)
        clear hmn hod
        go_wp2_with (first
          | (refine wpList_load_want (by kernel_rfl) 28 (.tmp 7) rfl w3.heap.size rfl 28 csp _ hz7 Tryd.underlying28 rfl (Eq.trans (by kernel_rfl) HIP.out) ?_)
          | (refine wpList_load_want (by kernel_rfl) 28 (.tmp 9) rfl g9 rfl 28 csp _ HR.out.2.1 Tryd.underlying28 rfl (Eq.trans (by kernel_rfl) HIP.out) ?_)
          | (go_at_call 24; refine (len_to n N _ HT.out.2.2.1 HT.out.2.2.2.1 HR.out.2.2).mono ?_; rintro e w' ⟨rfl, rfl⟩)
          | (go_at_call 22; refine (sure05_any _ (ht.out.below HR.out.1.bl ht.out.lt)).mono ?_; rintro e w5 ⟨rfl, hb5⟩; have H5 := Lib.hid (below_then HR.out.1.bl HR.out.1.bl.size hb5); clear hb5))
        go_ret
        exact ⟨rfl, H5.out⟩
      · have hb : ((m : Int) != (n : Int)) = false := by rw [hmn]; exact bne_self_eq_false _
        have he : (oth == d) = false := beq_eq_false_iff_ne.2 hod
        have HM := Lib.hid (And.intro hmn hod)
        clear hmn hod
        go_wp2_with (first
          | (refine wpList_load_want (by kernel_rfl) 28 (.tmp 7) rfl w3.heap.size rfl 28 csp _ hz7 Tryd.underlying28 rfl (Eq.trans (by kernel_rfl) HIP.out) ?_)
          | (refine wpList_load_want (by kernel_rfl) 28 (.tmp 9) rfl g9 rfl 28 csp _ HR.out.2.1 Tryd.underlying28 rfl (Eq.trans (by kernel_rfl) HIP.out) ?_)
          | (go_at_call 24; refine (len_to n N _ HT.out.2.2.1 HT.out.2.2.2.1 HR.out.2.2).mono ?_; rintro e w' ⟨rfl, rfl⟩)
          | (go_at_call 22; refine (sure05_any _ (ht.out.below HR.out.1.bl ht.out.lt)).mono ?_; rintro e w5 ⟨rfl, hb5⟩; have H5 := Lib.hid (below_then HR.out.1.bl HR.out.1.bl.size hb5); clear hb5))
        have hB := HR.out.1.bl
        refine (twin_to A c n d wc w HT.out.2.2.2.2.1 (by have := HT.out.2.2.2.1; omega) HT.out.2.2.2.2.2.2.2.1 hB).mono ?_
        rintro e w5 ⟨v5, rfl, ho5, hb5⟩
        obtain ⟨A15, c15, rfl, _, hr5, _⟩ := own_slice ho5
        have H5 := Lib.hid (And.intro (below_then hB hB.size hb5) hr5)
        clear ho5 hb5 hr5 hB hcd hco e33 hneM hz7 hb he
        go_wp2_with fail
        refine (digits_to A15 c15 n N d w5 HT.out.2.2.2.2.1 HR.out.2.2 HT.out.2.2.1 HT.out.2.2.2.1 H5.out.2).mono ?_
        rintro e w6 ⟨v6, rfl, ho6, hb6⟩
        obtain ⟨A16, c16, rfl, _, hr6, _⟩ := own_slice ho6
        have H6 := Lib.hid (And.intro (below_then H5.out.1 H5.out.1.size hb6) hr6)
        clear ho6 hb6 hr6
        go_wp2_with fail
        refine (twin_to Ao co m oth w6 w HT.out.2.2.2.2.2.1 HT.out.2.2.2.2.2.2.1 HT.out.2.2.2.2.2.2.2.2.1 H6.out.1).mono ?_
        rintro e w7 ⟨v7, rfl, ho7, hb7⟩
        obtain ⟨A17, c17, rfl, _, hr7, _⟩ := own_slice ho7
        have H7 := Lib.hid (And.intro (below_then H6.out.1 H6.out.1.size hb7) (And.intro hr7 (H6.out.2.below hb7)))
        clear ho7 hb7 hr7
        go_wp2_with fail
        refine (digits_to A17 c17 m N oth w7 HT.out.2.2.2.2.2.1 (by rw [HM.out.1]; exact HR.out.2.2) (by rw [HM.out.1]; exact HT.out.2.2.1) (by rw [HM.out.1]; exact HT.out.2.2.2.1) H7.out.2.1).mono ?_
        rintro e w8 ⟨v8, rfl, ho8, hb8⟩
        obtain ⟨A18, c18, rfl, _, hr8, _⟩ := own_slice ho8
        have hla := digitsW_length d
        have hlb := digitsW_length oth
        rw [HT.out.2.2.2.2.1, ← HR.out.2.2] at hla
        rw [HT.out.2.2.2.2.2.1, HM.out.1, ← HR.out.2.2] at hlb
        have hmore := digits_more d oth (by rw [HT.out.2.2.2.2.1, HT.out.2.2.2.2.2.1, HM.out.1]) (by rw [HT.out.2.2.2.2.1]; exact HT.out.2.2.2.1) (fun e => HM.out.2 e.symm)
        have hless := digits_more oth d (by rw [HT.out.2.2.2.2.1, HT.out.2.2.2.2.2.1, HM.out.1]) (by rw [HT.out.2.2.2.2.2.1, HM.out.1]; exact HT.out.2.2.2.1) HM.out.2
        have hr8a := H7.out.2.2.below hb8
        generalize digitsW d = da at *
        generalize digitsW oth = db at *
        obtain ⟨b1, o1, rfl, hb1, hc1⟩ := hr8a.at_ (by rw [List.length_map, hla]; have := HR.out.2.2; omega)
        obtain ⟨b2, o2, rfl, hb2, hc2⟩ := hr8.at_ (by rw [List.length_map, hlb]; have := HR.out.2.2; omega)
        have H8 := Lib.hid (And.intro (below_then H7.out.1 H7.out.1.size hb8) (And.intro hla (And.intro hlb (And.intro hmore (And.intro hless (And.intro hb1 (And.intro hc1 (And.intro hb2 hc2))))))))
        clear ho8 hb8 hr8 hr8a hla hlb hmore hless hb1 hc1 hb2 hc2
        go_wp2_with fail
        go_loopw [13, 14, 15] (fun v13 v14 v15 wr => MoreInv w8 N da db v13 v14 v15 wr) (fun _ _ v15 _ => N - (intOf v15).toNat)
        case atStart => exact ⟨0, false, false, Nat.zero_le _, rfl, rfl, rfl, fun j x y h => by omega, fun j x y h => by omega, Below.refl _ _⟩
        case round =>
          obtain ⟨k, mo, le, hk, rfl, rfl, rfl, hmo, hle, hB8⟩ := hrel
          by_cases hlt : k < N
          · obtain ⟨x, hx⟩ : ∃ x, da[k]? = some x := ⟨_, List.getElem?_eq_getElem (by rw [H8.out.2.1]; exact hlt)⟩
            obtain ⟨y, hy⟩ : ∃ y, db[k]? = some y := ⟨_, List.getElem?_eq_getElem (by rw [H8.out.2.2.1]; exact hlt)⟩
            have e1 : wr.cell? ⟨b1, o1 + k, none⟩ = some (I x) := by
              rw [(hB8.cell (p := ⟨b1, o1 + k, none⟩) H8.out.2.2.2.2.2.1), H8.out.2.2.2.2.2.2.1 k (by rw [List.length_map, H8.out.2.1]; exact hlt)]
              have := (List.getElem?_eq_some_iff.1 hx).2
              simp [this]
            have e2 : wr.cell? ⟨b2, o2 + k, none⟩ = some (I y) := by
              rw [(hB8.cell (p := ⟨b2, o2 + k, none⟩) H8.out.2.2.2.2.2.2.2.1), H8.out.2.2.2.2.2.2.2.2 k (by rw [List.length_map, H8.out.2.2.1]; exact hlt)]
              have := (List.getElem?_eq_some_iff.1 hy).2
              simp [this]
            have HV := Lib.hid (And.intro hmo (And.intro hle (And.intro hB8 (And.intro hx hy))))
            clear hmo hle hB8 hx hy
            cases mo <;> cases le
            all_goals
              go_wp2_with fail
              go_quiet (fail)
              go_wp2_with fail
              go_quiet (fail)
              go_wp2_with fail
            all_goals
              refine ⟨⟨k + 1, _, _, hlt, by go_num, rfl, rfl, ?_, ?_, below_drewN HV.out.2.2.1 _⟩, by simp [intOf]; omega⟩
              · first
                  | exact fun _ _ _ _ _ _ _ => rfl
                  | (intro j x' y' hj hx' hy' hl'
                     by_cases hjk : j < k
                     · exact absurd (HV.out.1 j x' y' hjk hx' hy' hl') (by decide)
                     · obtain rfl : j = k := by omega
                       rw [HV.out.2.2.2.1] at hx'
                       rw [HV.out.2.2.2.2] at hy'
                       injection hx' with hx'
                       injection hy' with hy'
                       subst hx'; subst hy'
                       exact decide_eq_true hl')
              · first
                  | exact fun _ _ _ _ _ _ _ => rfl
                  | (intro j x' y' hj hx' hy' hl'
                     by_cases hjk : j < k
                     · exact absurd (HV.out.2.1 j x' y' hjk hx' hy' hl') (by decide)
                     · obtain rfl : j = k := by omega
                       rw [HV.out.2.2.2.1] at hx'
                       rw [HV.out.2.2.2.2] at hy'
                       injection hx' with hx'
                       injection hy' with hy'
                       subst hx'; subst hy'
                       exact decide_eq_true hl')
          · obtain rfl : k = N := by omega
            obtain ⟨i1, x1, y1, hx1, hy1, hl1⟩ := H8.out.2.2.2.1
            obtain ⟨i2, x2, y2, hx2, hy2, hl2⟩ := H8.out.2.2.2.2.1
            have hi1 : i1 < k := by have := (List.getElem?_eq_some_iff.1 hx1).1; rw [H8.out.2.1] at this; exact this
            have hi2 : i2 < k := by have := (List.getElem?_eq_some_iff.1 hy2).1; rw [H8.out.2.1] at this; exact this
            have hm1 := hmo i1 x1 y1 hi1 hx1 hy1 hl1
            have hm2 := hle i2 y2 x2 hi2 hy2 hx2 hl2
            subst hm1
            subst hm2
            have HB9 := Lib.hid (below_then H8.out.1 H8.out.1.size hB8)
            clear hx1 hy1 hl1 hx2 hy2 hl2 hi1 hi2 hmo hle hB8
            go_wp2_with (go_at_call 22; refine (sure05_any _ (ht.out.below HB9.out ht.out.lt)).mono ?_; rintro e w10 ⟨rfl, hb10⟩; have H10 := Lib.hid (below_then HB9.out HB9.out.size hb10); clear hb10)
            go_ret
            exact ⟨rfl, H10.out⟩
    · have hb : ((m : Int) != (n : Int)) = true := by rw [bne_iff_ne]; omega
      have HM := Lib.hid hmn
      clear hmn
      go_wp2_with (first
          | (refine wpList_load_want (by kernel_rfl) 28 (.tmp 7) rfl w3.heap.size rfl 28 csp _ hz7 Tryd.underlying28 rfl (Eq.trans (by kernel_rfl) HIP.out) ?_)
          | (refine wpList_load_want (by kernel_rfl) 28 (.tmp 9) rfl g9 rfl 28 csp _ HR.out.2.1 Tryd.underlying28 rfl (Eq.trans (by kernel_rfl) HIP.out) ?_)
          | (go_at_call 24; refine (len_to n N _ HT.out.2.2.1 HT.out.2.2.2.1 HR.out.2.2).mono ?_; rintro e w' ⟨rfl, rfl⟩)
          | (go_at_call 22; refine (sure05_any _ (ht.out.below HR.out.1.bl ht.out.lt)).mono ?_; rintro e w5 ⟨rfl, hb5⟩; have H5 := Lib.hid (below_then HR.out.1.bl HR.out.1.bl.size hb5); clear hb5))
      go_ret
      exact ⟨rfl, H5.out⟩
#print axioms back_yes
theorem back_any (seed : List UInt8) (leaf : Int) (A Ao : Option Addr) (c co : Nat) (d oth : List UInt8) (w : World) (hs : seed.length = 32) (hm : d.length ≤ 140737488355328) (hmb : oth.length ≤ 140737488355328) (hr : Rd w A (d.map B)) (hro : Rd w Ao (oth.map B)) (ht : TabLaid w) :
    Calls Tryd.prog 4 #[.agg (caseCells seed leaf (.slice A d.length c)).toArray, .slice Ao oth.length co] w fun e w' => e = .returned (.bool true) ∧ Below w.heap.size w w' := by
  by_cases h : 0 ≤ leaf ∧ leaf < 1024 ∧ 1 ≤ d.length ∧ d.length ≤ 32
  · obtain ⟨l, rfl⟩ := Int.eq_ofNat_of_zero_le h.1
    exact back_yes seed l d.length oth.length A Ao c co d oth w hs (by omega) h.2.2.1 h.2.2.2 rfl rfl hmb hr hro ht
  · exact back_no seed leaf A d.length c d _ w hs rfl hm (by unfold Bad05; omega) hr ht
end Go.Proofs.YtcgdojdiihdkeaaDoor
