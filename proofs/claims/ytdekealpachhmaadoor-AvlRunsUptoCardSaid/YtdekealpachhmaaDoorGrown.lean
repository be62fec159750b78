/- Laws 7: sure, grown by their contracts. -/
import Derived.Test.YtdekealpachhmaaDoorRvD
namespace Go.Isth
open Go Go.RowKit
theorem wp_ld {P : Program} {w : World} {o : Oper} {a : Act} {K : Act → World → Prop} {Q : Exit → Act → World → Prop} {t : TypeId}
    (x : Operand) (ho : o.op = .load t x) (A : Addr) (v : Value) (hx : a.eval x = .pointer (some A)) (hl : (loadVar t A).run P w = .ok v w)
    (h : K (a.put o.dst v) w) : Oper.wp P o a w K Q := by
  unfold Oper.wp execOp
  simp [ho, hx, Instr.loadAt, Instr.sureAddr, hl, Oper.upon]
  exact h
theorem results_tc {P : Program} {fn : Func} {p u : Tmp} {ty : TypeId} (h : fn.results = #[.tmp u, .cell p ty]) (tmps : Array Value) (w : World) (g : Nat) (t : TypeId) (cs : List Value) (d : TypeDesc)
    (hp : tmps.getD p undef = .pointer (some ⟨g, 0, none⟩)) (hg : Blk w g t cs)
    (hu : P.underlying ty = some d) (hd : (match d with | .struct _ => true | .array _ _ => true | _ => false) = true) (hi : (P.info? ty).map (·.size) = some cs.length) :
    (results fn tmps).run P w = .ok (.tuple #[tmps.getD u undef, .agg cs.toArray]) w := by
  have hl := run_load_agg (P := P) hu hd hi w ⟨g, 0, none⟩ cs rfl (fun j u hj => by rw [add_plain, Nat.zero_add]; exact hg.cellD j u hj)
  have hp2 : tmps[p]?.getD undef = .pointer (some ⟨g, 0, none⟩) := by simpa using hp
  simp [results, h, hp2, asAddr, hl, Result.andThen]
end Go.Isth
namespace Go.Proofs.YtdekealpachhmaaDoor
open Go Go.RowKit Go.Isth

theorem ld_tree {w : World} {x : Nat} {cs : List Value} (h : Blk w x 26 cs) (hl : cs.length = 4) : (loadVar 26 ⟨x, 0, none⟩).run Tryd.prog w = .ok (.agg cs.toArray) w :=
  run_load_agg (P := Tryd.prog) Tryd.underlying26 rfl (by kernel_rfl) w ⟨x, 0, none⟩ cs hl (fun j u hj => by rw [add_plain, Nat.zero_add]; exact h.cellD j u hj)
theorem RC.store4 {w w' : World} {x : Nat} {old : List Value} (hl : old.length = 4) (hx : Blk w x 26 old) (hg : w.grownBy w' (some x)) : ∀ {t : Av} {cs : List Value}, RC w t cs → RC w' t cs
  | .leaf _ _, _, h => h
  | .node _ _, _, h => by
    obtain ⟨g, ca, cb, e, h1, h2, h3⟩ := h
    refine ⟨g, ca, cb, e, h1.grown hg (fun e => ?_), RC.store4 hl hx hg h2, RC.store4 hl hx hg h3⟩
    injection e with e
    subst e
    have h := hx.symm.trans h1
    have hl' : old.length = (ca ++ cb).length := by
      injection h with h
      injection h with h
      have := congrArg Array.size h
      simpa using this
    rw [List.length_append, h2.len, h3.len, hl] at hl'
    cases hl'
theorem RO.store4 {w w' : World} {x : Nat} {old : List Value} (hl : old.length = 4) (hx : Blk w x 26 old) (hg : w.grownBy w' (some x)) {t : Option Av} {cs : List Value} (h : RO w t cs) : RO w' t cs := by
  cases t with
  | none => exact h
  | some t => exact RC.store4 hl hx hg h
theorem TreeAt.store {ty : TypeId} (hty : 127 ≠ ty) {w w' : World} {x : Nat} {old : List Value} (hx : Blk w x ty old) (hg : w.grownBy w' (some x)) : ∀ {t : Av} {g : Nat}, TreeAt w t g → TreeAt w' t g
  | .leaf _ _, _, h => Blk.grown h hg (fun e => Blk.type_ne h hx hty (by injection e with e; exact e.symm))
  | .node _ _, _, h => by
    obtain ⟨ga, gb, h1, h2, h3⟩ := h
    exact ⟨ga, gb, h1.grown hg (fun e => h1.type_ne hx hty (by injection e with e; exact e.symm)), TreeAt.store hty hx hg h2, TreeAt.store hty hx hg h3⟩
theorem TreeO.store {ty : TypeId} (hty : 127 ≠ ty) {w w' : World} {x : Nat} {old : List Value} (hx : Blk w x ty old) (hg : w.grownBy w' (some x)) {t : Option Av} {v : Value} (h : TreeO w t v) : TreeO w' t v := by
  cases t with
  | none => exact h
  | some t =>
    obtain ⟨g, e, h⟩ := h
    exact ⟨g, e, TreeAt.store hty hx hg h⟩
set_option maxRecDepth 100000 in
set_option maxHeartbeats 1000000 in
theorem sure07_any (w : World) (ht : TabLaid w) : Calls Tryd.prog 25 #[] w fun e w' => e = .returned (.bool true) ∧ Below w.heap.size w w' := by
  have HT := Lib.hid ht
  clear ht
  go_enter Tryd.func25, Tryd.ntmps25
  go_wp2_with fail
  refine (set_any none (.pointer none) [98] [49] w rfl (by decide) (by decide) (by decide) HT.out).mono ?_
  rintro e w1 ⟨g1, rfl, h1, hb1⟩
  have H1 := Lib.hid (And.intro h1 hb1)
  clear h1 hb1
  go_wp2_with fail
  refine (set_any (some (setO [98] [49] none)) (Ptr g1) [97] [50] w1 ⟨g1, rfl, H1.out.1⟩ (by decide) (by decide) (by decide) (HT.out.below H1.out.2 HT.out.lt)).mono ?_
  rintro e w2 ⟨g2, rfl, h2, hb2⟩
  have H2 := Lib.hid (And.intro h2 (below_then H1.out.2 H1.out.2.size hb2))
  clear h2 hb2
  go_wp2_with fail
  refine (set_any (some (setO [97] [50] (some (setO [98] [49] none)))) (Ptr g2) [99] [51] w2 ⟨g2, rfl, H2.out.1⟩ (by decide) (by decide) (by decide) (HT.out.below H2.out.2 HT.out.lt)).mono ?_
  rintro e w3 ⟨g3, rfl, h3, hb3⟩
  obtain ⟨t, htt⟩ : ∃ t, t = setO [99] [51] (some (setO [97] [50] (some (setO [98] [49] none)))) := ⟨_, rfl⟩
  rw [← htt] at h3
  have hq : t.many = 3 ∧ t.height = 3 ∧ getO [97] (some t) = some [50] := by rw [htt]; decide
  have H3 := Lib.hid (And.intro h3 (And.intro (below_then H2.out.2 H2.out.2.size hb3) hq))
  clear h3 hb3 hq htt
  go_wp2_with fail
  refine (get_any (some t) (Ptr g3) [97] w3 ⟨g3, rfl, H3.out.1⟩).mono ?_
  rintro e w4 ⟨rfl, rfl⟩
  rw [H3.out.2.2.2.2]
  unfold getVal
  go_wp2_with fail
  refine (len_any (some t) (Ptr g3) _ ⟨g3, rfl, H3.out.1⟩).mono ?_
  rintro e w5 ⟨rfl, rfl⟩
  have hm3 : manyO (some t) = 3 := H3.out.2.2.1
  rw [hm3]
  go_wp2_with fail
  refine (height_any (some t) (Ptr g3) _ ⟨g3, rfl, H3.out.1⟩).mono ?_
  rintro e w6 ⟨rfl, rfl⟩
  have hh3 : heightO (some t) = 3 := H3.out.2.2.2.1
  rw [hh3]
  go_wp2
  go_ret
  exact ⟨rfl, H3.out.2.1⟩
/-- What is set, or dropped. -/
structure ActV where
  k : Int
  key : Str
  val : Str
deriving Inhabited
def actC (a : ActV) : List Value := [.int .i64 a.k, S8 a.key, S8 a.val]
def stepA (t : Option Av) (a : ActV) : Option Av := if wrap64 ((IntKind.u64.wrap a.k).tmod 4) = 3 then dropO a.key t else some (setO a.key a.val t)
def grownA (l : List ActV) : Option Av := (l.take 60).foldl stepA none
theorem good_step {t : Option Av} (a : ActV) (h : Isth.Good t) : Isth.Good (stepA t a) := by
  unfold stepA
  split
  · exact good_drop _ h
  · exact good_set _ _ h
theorem many_step (t : Option Av) (a : ActV) : manyO (stepA t a) ≤ manyO t + 1 := by
  unfold stepA
  split
  · have := many_dropO a.key t; omega
  · exact many_setO a.key a.val t
theorem good_fold : ∀ (l : List ActV) (t : Option Av), Isth.Good t → Isth.Good (l.foldl stepA t) ∧ manyO (l.foldl stepA t) ≤ manyO t + l.length
  | [], t, h => ⟨h, Nat.le_refl _⟩
  | a :: l, t, h => by
    have := good_fold l (stepA t a) (good_step a h)
    have h2 := many_step t a
    simp only [List.foldl_cons, List.length_cons]
    exact ⟨this.1, by omega⟩
theorem take_next {l : List ActV} {k : Nat} {a : ActV} (h : l[k]? = some a) : l.take (k + 1) = l.take k ++ [a] := by
  rw [List.take_add_one, h]
  rfl
theorem acts_cells : ∀ (l : List ActV) (k : Nat) (a : ActV), l[k]? = some a → (l.flatMap actC)[k * 3]? = some (.int .i64 a.k) ∧ (l.flatMap actC)[k * 3 + 1]? = some (S8 a.key) ∧ (l.flatMap actC)[k * 3 + 2]? = some (S8 a.val)
  | [], k, p, h => by simp at h
  | x :: l, 0, p, h => by
    simp only [List.getElem?_cons_zero, Option.some.injEq] at h
    subst h
    exact ⟨rfl, rfl, rfl⟩
  | x :: l, k + 1, p, h => by
    simp only [List.getElem?_cons_succ] at h
    have := acts_cells l k p h
    have e : (x :: l).flatMap actC = .int .i64 x.k :: S8 x.key :: S8 x.val :: l.flatMap actC := rfl
    have e1 : (k + 1) * 3 = k * 3 + 1 + 1 + 1 := by omega
    rw [e, e1]
    refine ⟨?_, ?_, ?_⟩
    · rw [List.getElem?_cons_succ, List.getElem?_cons_succ, List.getElem?_cons_succ]; exact this.1
    · rw [show k * 3 + 1 + 1 + 1 + 1 = k * 3 + 1 + 1 + 1 + 1 from rfl, List.getElem?_cons_succ, List.getElem?_cons_succ, List.getElem?_cons_succ]; exact this.2.1
    · rw [show k * 3 + 1 + 1 + 1 + 2 = k * 3 + 2 + 1 + 1 + 1 from by omega, List.getElem?_cons_succ, List.getElem?_cons_succ, List.getElem?_cons_succ]; exact this.2.2
def GrownInv (w : World) (xr : Nat) (l : List ActV) (v4 v6 : Value) (wr : World) : Prop :=
  ∃ (k : Nat) (t : Option Av) (v : Value) (cs : List Value), v4 = v ∧ v6 = .int .i64 (k : Nat) ∧ k ≤ l.length ∧ k ≤ 60 ∧ t = (l.take k).foldl stepA none ∧ TreeO wr t v ∧ RO wr t cs ∧ Blk wr xr 26 cs ∧ Blk wr w.heap.size 26 emptyC ∧ Below w.heap.size w wr
theorem RC.drew {w : World} {t : Av} {cs : List Value} (h : RC w t cs) : RC w.drew t cs := RC.below (refl_drewN w 1) h
theorem RO.drew {w : World} {t : Option Av} {cs : List Value} (h : RO w t cs) : RO w.drew t cs := RO.below (refl_drewN w 1) h
theorem TreeO.drew {w : World} {t : Option Av} {v : Value} (h : TreeO w t v) : TreeO w.drew t v := TreeO.below (refl_drewN w 1) h
set_option maxRecDepth 100000 in
set_option maxHeartbeats 4000000 in
theorem grown07_any (A : Option Addr) (c : Nat) (l : List ActV) (w : World) (hc : l.length ≤ c) (hr : Rd w A (l.flatMap actC)) (hl : ∀ a ∈ l, a.key.length ≤ 2000000 ∧ a.val.length ≤ 2000000) (hn : l.length ≤ 4611686018427387904) (ht : TabLaid w) :
    Calls Tryd.prog 21 #[.slice A l.length c] w fun e w' => ∃ v cs, e = .returned (.tuple #[v, .agg cs.toArray]) ∧ TreeO w' (grownA l) v ∧ RO w' (grownA l) cs ∧ Below w.heap.size w w' := by
  have HT := Lib.hid (And.intro hr (And.intro hl (And.intro hn (And.intro ht hc))))
  obtain ⟨w1, hw1⟩ : ∃ w1, w1 = w.alloc (.cells emptyC.toArray 26) := ⟨_, rfl⟩
  obtain ⟨w2, hw2⟩ : ∃ w2, w2 = w1.alloc (.cells emptyC.toArray 26) := ⟨_, rfl⟩
  have s1 : w1.heap.size = w.heap.size + 1 := by rw [hw1, World.size_alloc]
  have b1 : Below w.heap.size w w1 := by rw [hw1]; exact (Below.refl _ _).alloc (Nat.le_refl _) _
  have b2 : Below w.heap.size w w2 := by rw [hw2]; exact b1.alloc b1.size _
  have z1 : Blk w2 w.heap.size 26 emptyC := by rw [hw2, hw1]; exact (Blk_new w emptyC 26).alloc _
  have z2 : Blk w2 (w.heap.size + 1) 26 emptyC := by rw [← s1, hw2]; exact Blk_new w1 emptyC 26
  have H2 := Lib.hid (And.intro b2 (And.intro z1 z2))
  obtain ⟨xr, hxr⟩ : ∃ n, n = w.heap.size + 1 := ⟨_, rfl⟩
  go_enter Tryd.func21, Tryd.ntmps21
  clear hr hl hn ht hc
  go_wp2_with fail
  change Code.wp _ _ _ _ ((w.alloc (.cells emptyC.toArray 26)).alloc (.cells emptyC.toArray 26))
  rw [← hw1, ← hw2]
  have H3 := Lib.hid (And.intro z2 (And.intro z1 b2))
  have HXR := Lib.hid hxr
  rw [← hxr]
  clear hw1 hw2 s1 b1 b2 z1 z2 hxr
  go_loopw [4, 6] (fun v4 v6 wr => GrownInv w xr l v4 v6 wr) (fun _ v6 _ => 60 - (intOf v6).toNat)
  case atStart => exact ⟨0, none, .pointer none, emptyC, rfl, rfl, Nat.zero_le _, Nat.zero_le _, rfl, rfl, rfl, by rw [HXR.out]; exact H3.out.1, H3.out.2.1, H3.out.2.2⟩
  case round =>
    obtain ⟨k, t, v, cs, rfl, rfl, hk, hk6, htf, htr, hro, hbx, hb3, hB⟩ := hrel
    have hgd := good_fold (l.take k) none trivial
    rw [← htf] at hgd
    have hm60 : manyO t ≤ 60 := by have h2 := hgd.2; have h3 := List.length_take_le k l; have h0 : manyO (none : Option Av) = 0 := rfl; omega
    have HG := Lib.hid (And.intro hgd.1 hm60)
    have HR := Lib.hid (And.intro htr hro)
    have HBL := Lib.hid (And.intro hbx (And.intro hb3 (And.intro HXR.out hro.len)))
    have HW := Lib.hid hB
    have HTF := Lib.hid htf
    have hlcs := hro.len
    clear hgd hm60 htr hro hbx hb3 hB htf
    by_cases hkl : k < l.length
    · by_cases hk60 : k < 60
      · obtain ⟨ac, hac⟩ : ∃ ac, l[k]? = some ac := ⟨_, List.getElem?_eq_getElem hkl⟩
        have hla := HT.out.2.1 ac (List.mem_of_getElem? hac)
        obtain ⟨b, o, rfl, hcl⟩ := HT.out.1 (by have h := (acts_cells l k ac hac).1; have := (List.getElem?_eq_some_iff.1 h).1; omega)
        obtain ⟨q0, q1, q2⟩ := acts_cells l k ac hac
        have e0 := cell_below (hcl _ _ q0) HW.out
        have e1 := cell_below (hcl _ _ q1) HW.out
        have e2 := cell_below (hcl _ _ q2) HW.out
        have hbw : b < w.heap.size := World.block_lt_of_cell? w _ (hcl _ _ q0)
        rw [← Nat.add_assoc] at e1 e2
        have HAC := Lib.hid (And.intro hac hla)
        have hk1 : (k : Int) < (l.length : Int) := by omega
        have hk2 : (k : Int) < 60 := by omega
        clear hac hla hcl q0 q1 q2
        have hkb : (wrap64 ((IntKind.u64.wrap ac.k).tmod 4) == 3) = true ∨ (wrap64 ((IntKind.u64.wrap ac.k).tmod 4) == 3) = false := by
          cases (wrap64 ((IntKind.u64.wrap ac.k).tmod 4) == 3)
          · exact .inr rfl
          · exact .inl rfl
        rcases hkb with hkb | hkb
        · have HD := Lib.hid (show stepA t ac = dropO ac.key t by unfold stepA; rw [if_pos (by simpa using hkb)])
          go_wp2_with fail
          refine (drop_any t u4 ac.key wr HR.out.1 (by have := HG.out; omega) (HT.out.2.2.2.1.below HW.out HT.out.2.2.2.1.lt)).mono ?_
          rintro e wc ⟨v, rfl, hn, hb⟩
          have HV := Lib.hid hn
          have HTS : Hid (∀ w', Off wc xr w' → w'.cell? ⟨b, o + k * 3 + 1, none⟩ = some (S8 ac.key)) := Lib.hid fun w' h => cell_off (cell_below e1 hb) h (by have := HBL.out.2.2.1; omega)
          have HR := Lib.hid (And.intro (HR.out.1.below hb) (HR.out.2.below hb))
          have HBL := Lib.hid (And.intro (HBL.out.1.below hb) (And.intro (HBL.out.2.1.below hb) HBL.out.2.2))
          have HW := Lib.hid (below_then HW.out HW.out.size hb)
          have HB : Hid (Below wc.heap.size wc (wc.drewN 1)) := Lib.hid (refl_drewN wc 1)
          clear hn hb e0 e1 e2 hbw hk hk6 hlcs
          go_wp2_with fail
          refine wp_region_held_drew (S := (fun w' => w'.cell? ⟨b, o + k * 3 + 1, none⟩ = some (S8 ac.key))) (by kernel_rfl) ?qs0 (fun hHeld => ?_)
          case qs0 => exact HTS.out _ (off_below HB.out)
          refine held_take (i := 1) (v := ?q1v) rfl (by kernel_rfl) (by kernel_rfl) (by kernel_rfl) (fun _ _ _ h => h) (by rfl) ?q1y hHeld ?_
          case q1y => ((intro w _hSw; (try dsimp only at _hSw); go_simp); try (with_reducible rfl))
          try simp only [Act.put, List.setIfInBounds_toArray, List.set_cons_zero, List.set_cons_succ]
          refine held_take (i := 2) (v := ?q2v) rfl (by kernel_rfl) (by kernel_rfl) (by kernel_rfl) (fun _ _ _ h => h) (by rfl) ?q2y hHeld ?_
          case q2y => ((intro w _hSw; (try dsimp only at _hSw); go_simp); try (with_reducible rfl))
          try simp only [Act.put, List.setIfInBounds_toArray, List.set_cons_zero, List.set_cons_succ]
          refine held_take (i := 3) (v := ?q3v) rfl (by kernel_rfl) (by kernel_rfl) (by kernel_rfl) (fun _ _ _ h => h) (by rfl) ?q3y hHeld ?_
          case q3y => ((intro w _hSw; (try dsimp only at _hSw); go_simp); try (with_reducible rfl))
          try simp only [Act.put, List.setIfInBounds_toArray, List.set_cons_zero, List.set_cons_succ]
          refine held_take (i := 4) (v := ?q4v) rfl (by kernel_rfl) (by kernel_rfl) (by kernel_rfl) (fun _ _ _ h => h) (by rfl) ?q4y hHeld ?_
          case q4y => ((intro w _hSw; (try dsimp only at _hSw); go_simp); try (with_reducible rfl))
          try simp only [Act.put, List.setIfInBounds_toArray, List.set_cons_zero, List.set_cons_succ]
          refine held_take (i := 5) (v := ?q5v) rfl (by kernel_rfl) (by kernel_rfl) (by kernel_rfl) (fun _ _ _ h => h) (by rfl) ?q5y hHeld ?_
          case q5y => ((intro w _hSw; (try dsimp only at _hSw); go_simp); try (with_reducible rfl))
          try simp only [Act.put, List.setIfInBounds_toArray, List.set_cons_zero, List.set_cons_succ]
          refine held_step (i := 0) rfl (by kernel_rfl) (by rfl) (fun K hK => ?_)
          refine wp_ld (.tmp 5) rfl ⟨xr, 0, none⟩ (.agg cs.toArray) rfl (ld_tree (HBL.out.1.below HB.out) HBL.out.2.2.2) ?_
          have hHeld := HTS.out _ (off_below HB.out)
          refine hK.out _ _ (HTS.out _ (off_below HB.out)) ?_
          clear hK K
          (try simp only [Act.put]); (try simp only [List.setIfInBounds_toArray]); (try simp only [List.set_cons_succ]); (try simp only [List.set_cons_zero])
          refine held_step (i := 6) rfl (by kernel_rfl) (by rfl) (fun K hK => ?_)
          go_simp
          refine (rdrop_any t ac.key cs _ (HR.out.2.below HB.out) HG.out.1 (by have := HG.out; omega)).mono ?_
          rintro e wc ⟨cs', rfl, hn, hb⟩
          have HN := Lib.hid hn
          have HB := Lib.hid (below_then HB.out HB.out.size hb)
          clear hn hb
          go_wp2_with fail
          have hHeld := HTS.out _ (off_below HB.out)
          refine hK.out _ _ (HTS.out _ (off_below HB.out)) ?_
          clear hK K
          try simp only [Act.put, List.setIfInBounds_toArray, List.set_cons_zero, List.set_cons_succ]
          refine held_step (i := 7) rfl (by kernel_rfl) (by rfl) (fun K hK => ?_)
          refine wp_store_blk 26 (.tmp 5) (.tmp 40) rfl xr cs' rfl rfl 26 _ (HBL.out.1.below HB.out) (by rw [HN.out.len]; kernel_rfl) (by rw [HN.out.len, HBL.out.2.2.2]) HN.out.one ?_
          intro w9 hz hg
          have H9 := Lib.hid (And.intro hz (And.intro ((below_then HW.out HW.out.size HB.out).grown hg (below_then HW.out HW.out.size HB.out).size (fun q e => by injection e with e; have := HBL.out.2.2.1; omega)) (And.intro (RO.store4 HBL.out.2.2.2 (HBL.out.1.below HB.out) hg HN.out) (And.intro (TreeO.store (by decide) (HBL.out.1.below HB.out) hg (HV.out.below HB.out)) ((HBL.out.2.1.below HB.out).grown hg (by intro e; injection e with e; have := HBL.out.2.2.1; omega))))))
          have HS9 := Lib.hid (off_store HB.out hg)
          clear hz hg
          have hHeld := HTS.out _ HS9.out
          refine hK.out _ _ (HTS.out _ HS9.out) ?_
          clear hK K
          (try simp only [Act.put]); (try simp only [List.setIfInBounds_toArray]); (try simp only [List.set_cons_succ]); (try simp only [List.set_cons_zero])
          refine wpAnyH_done (by kernel_rfl) ?_ _
          go_wp2
          refine ⟨⟨k + 1, dropO ac.key t, v, cs', rfl, by simp, hkl, hk60, ?_, H9.out.2.2.2.1, H9.out.2.2.1, H9.out.1, H9.out.2.2.2.2, H9.out.2.1⟩, ?_⟩
          · rw [take_next HAC.out.1, List.foldl_append, ← HTF.out]
            exact HD.out.symm
          · show 60 - Int.toNat ((k : Int) + 1) < 60 - Int.toNat (k : Int)
            omega
        · have HD := Lib.hid (show stepA t ac = some (setO ac.key ac.val t) by unfold stepA; rw [if_neg (by simpa using hkb)])
          have HTS : Hid (∀ w', Off wr xr w' → w'.cell? ⟨b, o + k * 3 + 1, none⟩ = some (S8 ac.key) ∧ w'.cell? ⟨b, o + k * 3 + 2, none⟩ = some (S8 ac.val)) := Lib.hid fun w' h => ⟨cell_off e1 h (by have := HBL.out.2.2.1; omega), cell_off e2 h (by have := HBL.out.2.2.1; omega)⟩
          have HB : Hid (Below wr.heap.size wr (wr.drewN 1)) := Lib.hid (refl_drewN wr 1)
          clear hbw hk hk6 hlcs
          go_wp2_with fail
          clear e0 e1 e2
          refine wp_region_held_drew (S := (fun w' => w'.cell? ⟨b, o + k * 3 + 1, none⟩ = some (S8 ac.key) ∧ w'.cell? ⟨b, o + k * 3 + 2, none⟩ = some (S8 ac.val))) (by kernel_rfl) ?rs0 (fun hHeld => ?_)
          case rs0 => exact HTS.out _ (off_below HB.out)
          refine held_take (i := 0) (v := ?r1v) rfl (by kernel_rfl) (by kernel_rfl) (by kernel_rfl) (fun _ _ _ h => h) (by rfl) ?r1y hHeld ?_
          case r1y => ((intro w _hSw; (try dsimp only at _hSw); go_simp); try (with_reducible rfl))
          try simp only [Act.put, List.setIfInBounds_toArray, List.set_cons_zero, List.set_cons_succ]
          refine held_take (i := 1) (v := ?r2v) rfl (by kernel_rfl) (by kernel_rfl) (by kernel_rfl) (fun _ _ _ h => h) (by rfl) ?r2y hHeld ?_
          case r2y => ((intro w _hSw; (try dsimp only at _hSw); go_simp); try (with_reducible rfl))
          try simp only [Act.put, List.setIfInBounds_toArray, List.set_cons_zero, List.set_cons_succ]
          refine held_take (i := 2) (v := ?r3v) rfl (by kernel_rfl) (by kernel_rfl) (by kernel_rfl) (fun _ _ _ h => h) (by rfl) ?r3y hHeld ?_
          case r3y => ((intro w _hSw; (try dsimp only at _hSw); go_simp); try (with_reducible rfl))
          try simp only [Act.put, List.setIfInBounds_toArray, List.set_cons_zero, List.set_cons_succ]
          refine held_take (i := 3) (v := ?r4v) rfl (by kernel_rfl) (by kernel_rfl) (by kernel_rfl) (fun _ _ _ h => h) (by rfl) ?r4y hHeld ?_
          case r4y => ((intro w _hSw; (try dsimp only at _hSw); go_simp); try (with_reducible rfl))
          try simp only [Act.put, List.setIfInBounds_toArray, List.set_cons_zero, List.set_cons_succ]
          refine held_take (i := 4) (v := ?r5v) rfl (by kernel_rfl) (by kernel_rfl) (by kernel_rfl) (fun _ _ _ h => h) (by rfl) ?r5y hHeld ?_
          case r5y => ((intro w _hSw; (try dsimp only at _hSw); go_simp); try (with_reducible rfl))
          try simp only [Act.put, List.setIfInBounds_toArray, List.set_cons_zero, List.set_cons_succ]
          refine held_take (i := 5) (v := ?r6v) rfl (by kernel_rfl) (by kernel_rfl) (by kernel_rfl) (fun _ _ _ h => h) (by rfl) ?r6y hHeld ?_
          case r6y => ((intro w _hSw; (try dsimp only at _hSw); go_simp); try (with_reducible rfl))
          try simp only [Act.put, List.setIfInBounds_toArray, List.set_cons_zero, List.set_cons_succ]
          refine held_take (i := 6) (v := ?r7v) rfl (by kernel_rfl) (by kernel_rfl) (by kernel_rfl) (fun _ _ _ h => h) (by rfl) ?r7y hHeld ?_
          case r7y => ((intro w _hSw; (try dsimp only at _hSw); go_simp); try (with_reducible rfl))
          try simp only [Act.put, List.setIfInBounds_toArray, List.set_cons_zero, List.set_cons_succ]
          refine held_take (i := 7) (v := ?r8v) rfl (by kernel_rfl) (by kernel_rfl) (by kernel_rfl) (fun _ _ _ h => h) (by rfl) ?r8y hHeld ?_
          case r8y => ((intro w _hSw; (try dsimp only at _hSw); go_simp); try (with_reducible rfl))
          try simp only [Act.put, List.setIfInBounds_toArray, List.set_cons_zero, List.set_cons_succ]
          refine held_take (i := 8) (v := ?r9v) rfl (by kernel_rfl) (by kernel_rfl) (by kernel_rfl) (fun _ _ _ h => h) (by rfl) ?r9y hHeld ?_
          case r9y => ((intro w _hSw; (try dsimp only at _hSw); go_simp); try (with_reducible rfl))
          try simp only [Act.put, List.setIfInBounds_toArray, List.set_cons_zero, List.set_cons_succ]
          refine held_take (i := 9) (v := ?r10v) rfl (by kernel_rfl) (by kernel_rfl) (by kernel_rfl) (fun _ _ _ h => h) (by rfl) ?r10y hHeld ?_
          case r10y => ((intro w _hSw; (try dsimp only at _hSw); go_simp); try (with_reducible rfl))
          try simp only [Act.put, List.setIfInBounds_toArray, List.set_cons_zero, List.set_cons_succ]
          refine held_take (i := 10) (v := ?r11v) rfl (by kernel_rfl) (by kernel_rfl) (by kernel_rfl) (fun _ _ _ h => h) (by rfl) ?r11y hHeld ?_
          case r11y => ((intro w _hSw; (try dsimp only at _hSw); go_simp); try (with_reducible rfl))
          try simp only [Act.put, List.setIfInBounds_toArray, List.set_cons_zero, List.set_cons_succ]
          refine held_step (i := 11) rfl (by kernel_rfl) (by rfl) (fun K hK => ?_)
          go_simp
          refine (set_any t u4 ac.key ac.val _ (HR.out.1.below HB.out) (by have := HG.out; omega) HAC.out.2.1 HAC.out.2.2 (HT.out.2.2.2.1.below (below_then HW.out HW.out.size HB.out) HT.out.2.2.2.1.lt)).mono ?_
          rintro e wc ⟨gv, rfl, hn, hb⟩
          have HV := Lib.hid hn
          have HB := Lib.hid (below_then HB.out HB.out.size hb)
          clear hn hb
          go_wp2_with fail
          have hHeld := HTS.out _ (off_below HB.out)
          refine hK.out _ _ (HTS.out _ (off_below HB.out)) ?_
          clear hK K
          try simp only [Act.put, List.setIfInBounds_toArray, List.set_cons_zero, List.set_cons_succ]
          refine held_take (i := 12) (v := ?r12v) rfl (by kernel_rfl) (by kernel_rfl) (by kernel_rfl) (fun _ _ _ h => h) (by rfl) ?r12y hHeld ?_
          case r12y => ((intro w _hSw; (try dsimp only at _hSw); go_simp); try (with_reducible rfl))
          try simp only [Act.put, List.setIfInBounds_toArray, List.set_cons_zero, List.set_cons_succ]
          refine wpAnyH_done (by kernel_rfl) ?_ _
          clear hHeld
          go_wp2_with fail
          obtain ⟨v, hv⟩ : ∃ v, v = Ptr gv := ⟨_, rfl⟩
          have HV := Lib.hid (show TreeO wc (some (setO ac.key ac.val t)) v from ⟨gv, hv, HV.out⟩)
          rw [← hv]
          clear hv
          have HB := Lib.hid (below_then HB.out HB.out.size (refl_drewN _ 1))
          have HV := Lib.hid (HV.out.below (refl_drewN _ 1))
          have HR := Lib.hid (And.intro (HR.out.1.below HB.out) (HR.out.2.below HB.out))
          have HBL := Lib.hid (And.intro (HBL.out.1.below HB.out) (And.intro (HBL.out.2.1.below HB.out) HBL.out.2.2))
          have HW := Lib.hid (below_then HW.out HW.out.size HB.out)
          have HTS : Hid (∀ w', Off (wc.drewN 1) xr w' → w'.cell? ⟨b, o + k * 3 + 1, none⟩ = some (S8 ac.key) ∧ w'.cell? ⟨b, o + k * 3 + 2, none⟩ = some (S8 ac.val)) := Lib.hid fun w' h => HTS.out _ (fun b hb hne => (h b (Nat.lt_of_lt_of_le hb HB.out.size) hne).trans (HB.out.block b hb))
          have HB : Hid (Below (wc.drewN 1).heap.size (wc.drewN 1) (wc.drewN 1)) := Lib.hid (Below.refl _ _)
          refine wp_region_held_drew (S := (fun w' => w'.cell? ⟨b, o + k * 3 + 1, none⟩ = some (S8 ac.key) ∧ w'.cell? ⟨b, o + k * 3 + 2, none⟩ = some (S8 ac.val))) (by kernel_rfl) ?ss0 (fun hHeld => ?_)
          case ss0 => exact HTS.out _ (off_below HB.out)
          refine held_take (i := 1) (v := ?s1v) rfl (by kernel_rfl) (by kernel_rfl) (by kernel_rfl) (fun _ _ _ h => h) (by rfl) ?s1y hHeld ?_
          case s1y => ((intro w _hSw; (try dsimp only at _hSw); go_simp); try (with_reducible rfl))
          try simp only [Act.put, List.setIfInBounds_toArray, List.set_cons_zero, List.set_cons_succ]
          refine held_take (i := 2) (v := ?s2v) rfl (by kernel_rfl) (by kernel_rfl) (by kernel_rfl) (fun _ _ _ h => h) (by rfl) ?s2y hHeld ?_
          case s2y => ((intro w _hSw; (try dsimp only at _hSw); go_simp); try (with_reducible rfl))
          try simp only [Act.put, List.setIfInBounds_toArray, List.set_cons_zero, List.set_cons_succ]
          refine held_take (i := 3) (v := ?s3v) rfl (by kernel_rfl) (by kernel_rfl) (by kernel_rfl) (fun _ _ _ h => h) (by rfl) ?s3y hHeld ?_
          case s3y => ((intro w _hSw; (try dsimp only at _hSw); go_simp); try (with_reducible rfl))
          try simp only [Act.put, List.setIfInBounds_toArray, List.set_cons_zero, List.set_cons_succ]
          refine held_take (i := 4) (v := ?s4v) rfl (by kernel_rfl) (by kernel_rfl) (by kernel_rfl) (fun _ _ _ h => h) (by rfl) ?s4y hHeld ?_
          case s4y => ((intro w _hSw; (try dsimp only at _hSw); go_simp); try (with_reducible rfl))
          try simp only [Act.put, List.setIfInBounds_toArray, List.set_cons_zero, List.set_cons_succ]
          refine held_take (i := 5) (v := ?s5v) rfl (by kernel_rfl) (by kernel_rfl) (by kernel_rfl) (fun _ _ _ h => h) (by rfl) ?s5y hHeld ?_
          case s5y => ((intro w _hSw; (try dsimp only at _hSw); go_simp); try (with_reducible rfl))
          try simp only [Act.put, List.setIfInBounds_toArray, List.set_cons_zero, List.set_cons_succ]
          refine held_take (i := 6) (v := ?s6v) rfl (by kernel_rfl) (by kernel_rfl) (by kernel_rfl) (fun _ _ _ h => h) (by rfl) ?s6y hHeld ?_
          case s6y => ((intro w _hSw; (try dsimp only at _hSw); go_simp); try (with_reducible rfl))
          try simp only [Act.put, List.setIfInBounds_toArray, List.set_cons_zero, List.set_cons_succ]
          refine held_take (i := 7) (v := ?s7v) rfl (by kernel_rfl) (by kernel_rfl) (by kernel_rfl) (fun _ _ _ h => h) (by rfl) ?s7y hHeld ?_
          case s7y => ((intro w _hSw; (try dsimp only at _hSw); go_simp); try (with_reducible rfl))
          try simp only [Act.put, List.setIfInBounds_toArray, List.set_cons_zero, List.set_cons_succ]
          refine held_take (i := 8) (v := ?s8v) rfl (by kernel_rfl) (by kernel_rfl) (by kernel_rfl) (fun _ _ _ h => h) (by rfl) ?s8y hHeld ?_
          case s8y => ((intro w _hSw; (try dsimp only at _hSw); go_simp); try (with_reducible rfl))
          try simp only [Act.put, List.setIfInBounds_toArray, List.set_cons_zero, List.set_cons_succ]
          refine held_take (i := 9) (v := ?s9v) rfl (by kernel_rfl) (by kernel_rfl) (by kernel_rfl) (fun _ _ _ h => h) (by rfl) ?s9y hHeld ?_
          case s9y => ((intro w _hSw; (try dsimp only at _hSw); go_simp); try (with_reducible rfl))
          try simp only [Act.put, List.setIfInBounds_toArray, List.set_cons_zero, List.set_cons_succ]
          refine held_take (i := 10) (v := ?s10v) rfl (by kernel_rfl) (by kernel_rfl) (by kernel_rfl) (fun _ _ _ h => h) (by rfl) ?s10y hHeld ?_
          case s10y => ((intro w _hSw; (try dsimp only at _hSw); go_simp); try (with_reducible rfl))
          try simp only [Act.put, List.setIfInBounds_toArray, List.set_cons_zero, List.set_cons_succ]
          refine held_step (i := 0) rfl (by kernel_rfl) (by rfl) (fun K hK => ?_)
          refine wp_ld (.tmp 5) rfl ⟨xr, 0, none⟩ (.agg cs.toArray) rfl (ld_tree (HBL.out.1.below HB.out) HBL.out.2.2.2) ?_
          have hHeld := HTS.out _ (off_below HB.out)
          refine hK.out _ _ (HTS.out _ (off_below HB.out)) ?_
          clear hK K
          (try simp only [Act.put]); (try simp only [List.setIfInBounds_toArray]); (try simp only [List.set_cons_succ]); (try simp only [List.set_cons_zero])
          refine held_step (i := 11) rfl (by kernel_rfl) (by rfl) (fun K hK => ?_)
          go_simp
          refine (rset_any t ac.key ac.val cs _ (HR.out.2.below HB.out) HG.out.1 (by have := HG.out; omega)).mono ?_
          rintro e wc ⟨cs', rfl, hn, hb⟩
          have HN := Lib.hid (show RO wc (some (setO ac.key ac.val t)) cs' from hn)
          have HB := Lib.hid (below_then HB.out HB.out.size hb)
          clear hn hb
          go_wp2_with fail
          have hHeld := HTS.out _ (off_below HB.out)
          refine hK.out _ _ (HTS.out _ (off_below HB.out)) ?_
          clear hK K
          try simp only [Act.put, List.setIfInBounds_toArray, List.set_cons_zero, List.set_cons_succ]
          refine held_step (i := 12) rfl (by kernel_rfl) (by rfl) (fun K hK => ?_)
          refine wp_store_blk 26 (.tmp 5) (.tmp 64) rfl xr cs' rfl rfl 26 _ (HBL.out.1.below HB.out) (by rw [HN.out.len]; kernel_rfl) (by rw [HN.out.len, HBL.out.2.2.2]) HN.out.one ?_
          intro w9 hz hg
          have H9 := Lib.hid (And.intro hz (And.intro ((below_then HW.out HW.out.size HB.out).grown hg (below_then HW.out HW.out.size HB.out).size (fun q e => by injection e with e; have := HBL.out.2.2.1; omega)) (And.intro (RO.store4 HBL.out.2.2.2 (HBL.out.1.below HB.out) hg HN.out) (And.intro (TreeO.store (by decide) (HBL.out.1.below HB.out) hg (HV.out.below HB.out)) ((HBL.out.2.1.below HB.out).grown hg (by intro e; injection e with e; have := HBL.out.2.2.1; omega))))))
          have HS9 := Lib.hid (off_store HB.out hg)
          clear hz hg
          have hHeld := HTS.out _ HS9.out
          refine hK.out _ _ (HTS.out _ HS9.out) ?_
          clear hK K
          (try simp only [Act.put]); (try simp only [List.setIfInBounds_toArray]); (try simp only [List.set_cons_succ]); (try simp only [List.set_cons_zero])
          refine wpAnyH_done (by kernel_rfl) ?_ _
          go_wp2
          refine ⟨⟨k + 1, some (setO ac.key ac.val t), v, cs', rfl, by simp, hkl, hk60, ?_, H9.out.2.2.2.1, H9.out.2.2.1, H9.out.1, H9.out.2.2.2.2, H9.out.2.1⟩, ?_⟩
          · rw [take_next HAC.out.1, List.foldl_append, ← HTF.out]
            exact HD.out.symm
          · show 60 - Int.toNat ((k : Int) + 1) < 60 - Int.toNat (k : Int)
            omega
      · have hk1 : (k : Int) < (l.length : Int) := by omega
        have hk2 : ¬ (k : Int) < 60 := by omega
        have hfin : l.take 60 = l.take k := by rw [show k = 60 by omega]
        have HFin := Lib.hid (show grownA l = t by rw [HTF.out]; unfold grownA; rw [hfin])
        clear hfin hlcs hk hk6
        go_wp2_with fail
        refine wp_region_held_drew (S := (fun _ => True)) (by kernel_rfl) ?ts0 (fun hHeld => ?_)
        case ts0 => exact trivial
        refine held_take (i := 0) (v := ?t1v) rfl (by kernel_rfl) (by kernel_rfl) (by kernel_rfl) (fun _ _ _ h => h) (by rfl) ?t1y hHeld ?_
        case t1y => ((intro w _hSw; (try dsimp only at _hSw); go_simp); try (with_reducible rfl))
        try simp only [Act.put, List.setIfInBounds_toArray, List.set_cons_zero, List.set_cons_succ]
        refine held_take (i := 2) (v := ?t2v) rfl (by kernel_rfl) (by kernel_rfl) (by kernel_rfl) (fun _ _ _ h => h) (by rfl) ?t2y hHeld ?_
        case t2y => ((intro w _hSw; (try dsimp only at _hSw); go_simp); try (with_reducible rfl))
        try simp only [Act.put, List.setIfInBounds_toArray, List.set_cons_zero, List.set_cons_succ]
        refine held_step (i := 1) rfl (by kernel_rfl) (by rfl) (fun K hK => ?_)
        refine wp_ld (.tmp 5) rfl ⟨xr, 0, none⟩ (.agg cs.toArray) rfl (ld_tree (w := wr.drew) HBL.out.1 HBL.out.2.2.2) ?_
        have hHeld := trivial
        refine hK.out _ _ (trivial) ?_
        clear hK K
        (try simp only [Act.put]); (try simp only [List.setIfInBounds_toArray]); (try simp only [List.set_cons_succ]); (try simp only [List.set_cons_zero])
        refine held_step (i := 3) rfl (by kernel_rfl) (by rfl) (fun K hK => ?_)
        refine wp_store_blk 26 (.tmp 3) (.tmp 66) rfl w.heap.size cs rfl rfl 26 _ (show Blk wr.drew _ _ _ from HBL.out.2.1) (by rw [HBL.out.2.2.2]; kernel_rfl) (by rw [HBL.out.2.2.2]; rfl) HR.out.2.one ?_
        intro w9 hz hg
        have H9 := Lib.hid (And.intro hz (And.intro ((below_drewN HW.out 1).grown hg HW.out.size (fun q e => by injection e with e; omega)) (And.intro (RO.store4 (w := wr.drew) emptyC_len HBL.out.2.1 hg (RO.drew HR.out.2)) (TreeO.store (w := wr.drew) (by decide) HBL.out.2.1 hg (TreeO.drew HR.out.1)))))
        clear hz hg
        have hHeld := trivial
        refine hK.out _ _ (trivial) ?_
        clear hK K
        (try simp only [Act.put]); (try simp only [List.setIfInBounds_toArray]); (try simp only [List.set_cons_succ]); (try simp only [List.set_cons_zero])
        refine wpAnyH_done (by kernel_rfl) ?_ _
        go_wp2
        refine bodyPost_ret (results_tc rfl _ _ w.heap.size 26 cs _ rfl H9.out.1 Tryd.underlying26 rfl (by rw [HBL.out.2.2.2]; kernel_rfl)) rfl ⟨_, cs, rfl, ?_, ?_, H9.out.2.1⟩
        · rw [HFin.out]; exact H9.out.2.2.2
        · rw [HFin.out]; exact H9.out.2.2.1
    · have hk1 : ¬ (k : Int) < (l.length : Int) := by omega
      have hfin : l.take 60 = l.take k := by rw [List.take_of_length_le (by omega : l.length ≤ 60), List.take_of_length_le (by omega : l.length ≤ k)]
      have HFin := Lib.hid (show grownA l = t by rw [HTF.out]; unfold grownA; rw [hfin])
      clear hfin hlcs hk hk6
      go_wp2_with fail
      refine wp_region_held_drew (S := (fun _ => True)) (by kernel_rfl) ?us0 (fun hHeld => ?_)
      case us0 => exact trivial
      refine held_take (i := 0) (v := ?u1v) rfl (by kernel_rfl) (by kernel_rfl) (by kernel_rfl) (fun _ _ _ h => h) (by rfl) ?u1y hHeld ?_
      case u1y => ((intro w _hSw; (try dsimp only at _hSw); go_simp); try (with_reducible rfl))
      try simp only [Act.put, List.setIfInBounds_toArray, List.set_cons_zero, List.set_cons_succ]
      refine held_take (i := 2) (v := ?u2v) rfl (by kernel_rfl) (by kernel_rfl) (by kernel_rfl) (fun _ _ _ h => h) (by rfl) ?u2y hHeld ?_
      case u2y => ((intro w _hSw; (try dsimp only at _hSw); go_simp); try (with_reducible rfl))
      try simp only [Act.put, List.setIfInBounds_toArray, List.set_cons_zero, List.set_cons_succ]
      refine held_step (i := 1) rfl (by kernel_rfl) (by rfl) (fun K hK => ?_)
      refine wp_ld (.tmp 5) rfl ⟨xr, 0, none⟩ (.agg cs.toArray) rfl (ld_tree (w := wr.drew) HBL.out.1 HBL.out.2.2.2) ?_
      have hHeld := trivial
      refine hK.out _ _ (trivial) ?_
      clear hK K
      (try simp only [Act.put]); (try simp only [List.setIfInBounds_toArray]); (try simp only [List.set_cons_succ]); (try simp only [List.set_cons_zero])
      refine held_step (i := 3) rfl (by kernel_rfl) (by rfl) (fun K hK => ?_)
      refine wp_store_blk 26 (.tmp 3) (.tmp 66) rfl w.heap.size cs rfl rfl 26 _ (show Blk wr.drew _ _ _ from HBL.out.2.1) (by rw [HBL.out.2.2.2]; kernel_rfl) (by rw [HBL.out.2.2.2]; rfl) HR.out.2.one ?_
      intro w9 hz hg
      have H9 := Lib.hid (And.intro hz (And.intro ((below_drewN HW.out 1).grown hg HW.out.size (fun q e => by injection e with e; omega)) (And.intro (RO.store4 (w := wr.drew) emptyC_len HBL.out.2.1 hg (RO.drew HR.out.2)) (TreeO.store (w := wr.drew) (by decide) HBL.out.2.1 hg (TreeO.drew HR.out.1)))))
      clear hz hg
      have hHeld := trivial
      refine hK.out _ _ (trivial) ?_
      clear hK K
      (try simp only [Act.put]); (try simp only [List.setIfInBounds_toArray]); (try simp only [List.set_cons_succ]); (try simp only [List.set_cons_zero])
      refine wpAnyH_done (by kernel_rfl) ?_ _
      go_wp2
      refine bodyPost_ret (results_tc rfl _ _ w.heap.size 26 cs _ rfl H9.out.1 Tryd.underlying26 rfl (by rw [HBL.out.2.2.2]; kernel_rfl)) rfl ⟨_, cs, rfl, ?_, ?_, H9.out.2.1⟩
      · rw [HFin.out]; exact H9.out.2.2.2
      · rw [HFin.out]; exact H9.out.2.2.1
end Go.Proofs.YtdekealpachhmaaDoor
