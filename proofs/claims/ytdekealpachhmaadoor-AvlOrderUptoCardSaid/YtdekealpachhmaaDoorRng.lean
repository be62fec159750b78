/- Layer 7: from, its iterator by their contracts. -/
import Derived.Test.YtdekealpachhmaaDoorAvAt2
import Derived.Test.YtdekealpachhmaaDoorRngP
import Derived.Test.YtdekealpachhmaaDoorSeqBox
import Derived.Shelf.Abstract
import Derived.WalkKit
import Derived.OwnWalkIn
import Derived.TacticsInMore
import Derived.LoopNIn
import Derived.LoopIn
namespace Go.Proofs.YtdekealpachhmaaDoor
open Go Go.RowKit Go.Isth Go.Shelf
attribute [local go_sem] Oper.semAt_some

theorem from_any (p : Option Addr) (i : Int) (w : World) : Calls Tryd.prog 57 #[.pointer p, .int .i64 i] w fun e w' =>
    e = .returned (.func (.func 88) #[] #[.pointer (some ⟨w.heap.size + 1, 0, none⟩), .pointer (some ⟨w.heap.size, 0, none⟩)]) ∧ w' = (w.alloc (.cells #[.pointer p] 23)).alloc (.cells #[.int .i64 i] 3) := by
  go_enter Tryd.func57, Tryd.ntmps57
  go_wp2
  go_ret
  exact ⟨rfl, rfl⟩
def cntAt (w : World) (b : Nat) : Nat := match w.cell? ⟨b, 0, none⟩ with | some v => (intOf v).toNat | none => 0
theorem cntAt_eq {w : World} {b k : Nat} (h : w.cell? ⟨b, 0, none⟩ = some (.int .i64 (k : Nat))) : cntAt w b = k := by unfold cntAt; rw [h]; rfl
/-- What stands at the begin of a round of the iterator. -/
structure IterIs (w0 : World) (t : Option Av) (p : Option Addr) (k0 bi bt : Nat) (J : List (Str × Str) → World → Prop) (k : Nat) (wr : World) : Prop where
  cnt : wr.cell? ⟨bi, 0, none⟩ = some (.int .i64 (k : Nat))
  frz : wr.frozen? ⟨bi, 0, none⟩ = false
  tre : wr.cell? ⟨bt, 0, none⟩ = some (.pointer p)
  lo : k0 ≤ k
  hi : k ≤ manyO t
  bl : Below w0.heap.size w0 wr
  inv : J (((pairsO t).drop k0).take (k - k0)) wr
theorem grown_of_below {w w' : World} {r : Option Nat} (h : Below w.heap.size w w') : w.grownBy w' r := ⟨h.os, h.tape, h.output, h.size, fun k hk _ => h.block k hk⟩
theorem IterIs.step {w0 : World} {t : Option Av} {p : Option Addr} {k0 bi bt : Nat} {J : List (Str × Str) → World → Prop} {k : Nat} {wr w' : World} (h : IterIs w0 t p k0 bi bt J k wr) (hJ : Isth.Lets bi J) (hb : Below wr.heap.size wr w') : IterIs w0 t p k0 bi bt J k w' := by
  have hib := World.block_lt_of_cell? wr _ h.cnt
  exact ⟨cell_below h.cnt hb, (World.frozen?_of_block (hb.block _ hib)).trans h.frz, cell_below h.tre hb, h.lo, h.hi, below_then h.bl h.bl.size hb, hJ _ _ _ h.inv (grown_of_below hb)⟩
theorem take_drop_next {l : List (Str × Str)} {k0 k : Nat} {x : Str × Str} (hk : k0 ≤ k) (h : l[k]? = some x) : (l.drop k0).take (k + 1 - k0) = (l.drop k0).take (k - k0) ++ [x] := by
  rw [show k + 1 - k0 = (k - k0) + 1 by omega, List.take_add_one, List.getElem?_drop, show k0 + (k - k0) = k by omega, h]
  rfl
set_option maxRecDepth 100000 in
set_option maxHeartbeats 4000000 in
theorem iter_gives (t : Option Av) (p : Option Addr) (w0 w : World) (k0 bi bt : Nat) (ht : TreeO w0 t (.pointer p)) (hb : Below w0.heap.size w0 w) (hm : manyO t ≤ 900000) (hk : k0 ≤ manyO t)
    (h1 : w0.heap.size ≤ bi) (h2 : w0.heap.size ≤ bt) (hne : bi ≠ bt) (hi : w.cell? ⟨bi, 0, none⟩ = some (.int .i64 (k0 : Nat))) (hf : w.frozen? ⟨bi, 0, none⟩ = false) (hc : w.cell? ⟨bt, 0, none⟩ = some (.pointer p)) :
    Gives Tryd.prog 88 #[.pointer (some ⟨bi, 0, none⟩), .pointer (some ⟨bt, 0, none⟩)] (fun x : Str × Str => #[.agg #[S8 x.1, S8 x.2]]) (fun k => k < w0.heap.size ∨ k = bi ∨ k = bt) bi (manyO t) (fun xs => xs = (pairsO t).drop k0) (fun pre => pre <+: (pairsO t).drop k0) w := by
  intro l J Jx W hW hJ hJx hY h0
  have hib := World.block_lt_of_cell? w _ hi
  have hcb := World.block_lt_of_cell? w _ hc
  have HS := Lib.hid (show IterIs w0 t p k0 bi bt J k0 W from ⟨(hW.cell (p := ⟨bi, 0, none⟩) hib).trans hi, (World.frozen?_of_block (hW.block _ hib)).trans hf, (hW.cell (p := ⟨bt, 0, none⟩) hcb).trans hc, Nat.le_refl _, hk, hb.trans (hW.mono hb.size), by rw [Nat.sub_self, List.take_zero]; exact h0⟩)
  have HH := Lib.hid (And.intro ht (And.intro hm (And.intro h1 (And.intro h2 hne))))
  have HY := Lib.hid hY
  have HJ := Lib.hid hJ
  clear hib hcb ht hm h1 h2 hne hW hJ hJx hY h0 hi hf hc hb hk
  refine callsIn_wide.2 ?_
  go_enter Tryd.func88, Tryd.ntmps88
  go_wp2_with fail
  go_loopw [5] (fun v5 wr => ∃ k, IterIs w0 t p k0 bi bt J k wr) (fun _ wr => manyO t - cntAt wr bi)
  case atStart => exact ⟨k0, HS.out⟩
  case round =>
    obtain ⟨k, hI⟩ := hrel
    have c1 := hI.cnt
    have c2 := hI.tre
    have HI := Lib.hid hI
    have HTR := Lib.hid (HH.out.1.below hI.bl)
    clear hI
    go_upto_region 0 with fail
    go_quiet ((go_at_call 24; refine Calls.quiet_of_same (len_any t (.pointer p) _ (TreeO.below (refl_drewN wr _) HTR.out))))
    have HI := Lib.hid (HI.out.step HJ.out (refl_drewN wr nq))
    have HCW := Lib.hid (cntAt_eq c1)
    have c1 := HI.out.cnt
    have c2 := HI.out.tre
    have HTR := Lib.hid (HH.out.1.below HI.out.bl)
    generalize wr.drewN nq = wd at *
    by_cases hlt : k < manyO t
    · have hlt' : (k : Int) < (manyO t : Int) := by omega
      rcases t with _ | t
      · exact absurd hlt (Nat.not_lt_zero _)
      obtain ⟨g, hp, hT⟩ := HTR.out
      injection hp with hp
      subst hp
      have hlt2 : k < t.many := hlt
      have hmm : t.many ≤ 900000 := HH.out.2.1
      obtain ⟨pk, pv, hpp⟩ : ∃ a b, t.at_ k = (a, b) := ⟨_, _, rfl⟩
      have HP := Lib.hid (And.intro hpp (And.intro hlt2 hmm))
      have HT := Lib.hid hT
      have hkk : ((k : Nat) : Int) < ((t.many : Nat) : Int) := by omega
      clear hlt hlt2 hmm hpp hT HTR
      go_wp2_with fail
      refine (at_any t g k _ HT.out HP.out.2.1 HP.out.2.2).mono ?_
      rintro e w5 ⟨rfl, hb5⟩
      rw [HP.out.1, show (pairC (pk, pv)).toArray = #[S8 pk, S8 pv] from rfl]
      have HI := Lib.hid (HI.out.step HJ.out hb5)
      clear hb5 c1 c2
      go_upto_region 3 with fail
      obtain ⟨w6, hw6⟩ : ∃ w6, w6 = w5.alloc (.cells #[S8 pk, S8 pv] 38) := ⟨_, rfl⟩
      obtain ⟨xp, hxp⟩ : ∃ n, n = w5.heap.size := ⟨_, rfl⟩
      have b6 : Below w5.heap.size w5 w6 := by rw [hw6]; exact (Below.refl _ _).alloc (Nat.le_refl _) _
      have z6 : Blk w6 xp 38 [S8 pk, S8 pv] := by rw [hw6, hxp]; exact Blk_new w5 [S8 pk, S8 pv] 38
      rw [← hw6, ← hxp]
      have HI := Lib.hid (HI.out.step HJ.out b6)
      have e0 := z6.cellD 0 _ rfl
      have e1 := z6.cellD 1 _ rfl
      have HX := Lib.hid (show (pairsO (some t))[k]? = some (pk, pv) by rw [← HP.out.1]; exact t.at_pairs k HP.out.2.1)
      obtain ⟨fn, tmps, assign, body, hy, hR⟩ := HY.out _ (pk, pv) w6 HI.out.inv (by rw [List.length_take]; have := HP.out.2.1; have : manyO (some t) = t.many := rfl; omega)
      have HR := Lib.hid hR
      clear hw6 hxp b6 z6 hR
      refine (wpIn_wide (n := 0)).1 ?_
      gi_wp2
      have HE := Lib.hid HI.out
      refine ⟨rfl, HR.out.mono ?_⟩
      rintro e W3 (⟨rfl, hJ3, hk3⟩ | ⟨rfl, hJx3⟩)
      · have d1 := (World.cell?_of_block (hk3.block bi (.inr (.inl rfl)))).trans HE.out.cnt
        have d2 := (World.frozen?_of_block (hk3.block bi (.inr (.inl rfl)))).trans HE.out.frz
        have d3 := (World.cell?_of_block (hk3.block bt (.inr (.inr rfl)))).trans HE.out.tre
        have hbl : Below w0.heap.size w0 W3 := HE.out.bl.trans (hk3.below fun j hj => .inl hj)
        have h64 : wrap64 ((k : Int) + 1) = ((k + 1 : Nat) : Int) := by have := HP.out.2; rw [IntWalk.wrap64_in _ ⟨by omega, by omega⟩]; omega
        have H3 := Lib.hid (And.intro hJ3 (And.intro d1 (And.intro d2 (And.intro d3 (And.intro hbl h64)))))
        clear hk3 hJ3 hbl h64 d3 e0 e1 hy
        gi_wp2
        go_wp2
        go_roundw
        case rel =>
          refine ⟨k + 1, ?_, ?_, ?_, ?_, ?_, ?_, ?_⟩
          · rw [← H3.out.2.2.2.2.2]; exact World.cell?_setCell_same' _ _ _ (by rw [H3.out.2.1]; rfl)
          · rw [World.frozen?_setCell]; exact H3.out.2.2.1
          · exact cell_grown H3.out.2.2.2.1 (grownBy_setCell' W3 bi _) (fun e => HH.out.2.2.2.2 (by injection e))
          · have := HE.out.lo; omega
          · exact HP.out.2.1
          · exact H3.out.2.2.2.2.1.setCell (p := ⟨bi, 0, none⟩) HH.out.2.2.1 _
          · rw [take_drop_next HE.out.lo HX.out]
            exact HJ.out _ _ _ H3.out.1 (grownBy_setCell' W3 bi _)
        case measure =>
          rw [HCW.out, H3.out.2.2.2.2.2, cntAt_eq (World.cell?_setCell_same' _ _ _ (by rw [H3.out.2.1]; rfl))]
          have := HP.out.2.1
          have : manyO (some t) = t.many := rfl
          omega
      · have HJX := Lib.hid hJx3
        clear hJx3 e0 e1 hy
        gi_wp2
        go_wp2
        refine bodyPost_ret (results_none rfl _ _ _) rfl ⟨⟨_, rfl⟩, .inr ⟨_, ?_, HJX.out⟩⟩
        rw [← take_drop_next HE.out.lo HX.out]
        exact List.take_prefix _ _
    · have hlt' : ¬ (k : Int) < (manyO t : Int) := by omega
      have hkm : k = manyO t := by have := HI.out.hi; omega
      have hinv := HI.out.inv
      rw [List.take_of_length_le (by rw [List.length_drop, show (pairsO t).length = manyO t by cases t; rfl; exact Av.pairs_length _]; omega)] at hinv
      have HV := Lib.hid hinv
      clear hlt hkm hinv c1 c2
      go_wp2
      go_end0
      exact ⟨⟨_, rfl⟩, .inl HV.out⟩
end Go.Proofs.YtdekealpachhmaaDoor
