/- Layer 8: proofs in memory; fault, at, Exist by their contracts. Layer 8: Exist, None by their contracts. Layer 8: None by its contract. -/
import Derived.Test.YtdekealpachhmaaDoorPaths

namespace Go.Isth
/-- A step whose number is whatever. -/
structure StepI where
  second : Bool
  many : Int
  other : List UInt8
deriving Inhabited
def toI (s : StepV) : StepI := ⟨s.second, (s.many : Nat), s.other⟩
structure PrfV where
  key : Str
  val : Str
  steps : List StepI
deriving Inhabited
def madeP (t : Av) (i : Nat) : PrfV := ⟨(t.at_ i).1, (t.at_ i).2, (t.path i).map toI⟩
end Go.Isth
namespace Go.Proofs.YtdekealpachhmaaDoor
open Go Go.RowKit Go.Isth

def stepIC (s : StepI) : List Value := .bool s.second :: .int .i64 s.many :: s.other.map B
def stepsIC (l : List StepI) : List Value := l.flatMap stepIC
theorem stepsIC_map (l : List StepV) : stepsIC (l.map toI) = stepsC l := by
  unfold stepsIC stepsC
  rw [List.flatMap_map]
  rfl
/-- A proof's cells. -/
def PrfC (n₀ : Nat) (w : World) (p : PrfV) (cs : List Value) : Prop := ∃ A c, cs = [S8 p.key, S8 p.val, .slice A p.steps.length c] ∧ p.steps.length ≤ c ∧ Rd w A (stepsIC p.steps) ∧ ∀ ad, A = some ad → n₀ ≤ ad.block
theorem PrfC.below {n₀ : Nat} {w w' : World} {p : PrfV} {cs : List Value} (h : PrfC n₀ w p cs) (hb : Below w.heap.size w w') : PrfC n₀ w' p cs := by
  obtain ⟨A, c, e, hc, hr, hn⟩ := h
  exact ⟨A, c, e, hc, hr.below hb, hn⟩
theorem PrfC.mono {n₀ n₁ : Nat} {w : World} {p : PrfV} {cs : List Value} (h : PrfC n₀ w p cs) (hn : n₁ ≤ n₀) : PrfC n₁ w p cs := by
  obtain ⟨A, c, e, hc, hr, h0⟩ := h
  exact ⟨A, c, e, hc, hr, fun ad e => Nat.le_trans hn (h0 ad e)⟩
theorem PrfC.store {n₀ x : Nat} {w w' : World} {p : PrfV} {cs : List Value} (h : PrfC n₀ w p cs) (hg : w.grownBy w' (some x)) (hx : x < n₀) : PrfC n₀ w' p cs := by
  obtain ⟨A, c, e, hc, hr, h0⟩ := h
  exact ⟨A, c, e, hc, hr.grown hg (fun ad e e' => by have := h0 ad e; injection e' with e'; omega), h0⟩
theorem PrfC.len {n₀ : Nat} {w : World} {p : PrfV} {cs : List Value} (h : PrfC n₀ w p cs) : cs.length = 3 := by obtain ⟨_, _, rfl, _⟩ := h; rfl
theorem PrfC.one {n₀ : Nat} {w : World} {p : PrfV} {cs : List Value} (h : PrfC n₀ w p cs) : ∀ u ∈ cs, u.oneCell' = true := by
  obtain ⟨A, c, rfl, _⟩ := h
  intro u hu
  simp only [List.mem_cons, List.not_mem_nil, or_false] at hu
  rcases hu with rfl | rfl | rfl <;> rfl
def noPrf : List Value := [S8 [], S8 [], .slice none 0 0]
theorem noPrf_one : ∀ u ∈ noPrf, u.oneCell' = true := by
  intro u hu
  simp only [noPrf, List.mem_cons, List.not_mem_nil, or_false] at hu
  rcases hu with rfl | rfl | rfl <;> rfl
theorem prf_one (k v : Str) (A : Option Addr) (n c : Nat) : ∀ u ∈ ([S8 k, S8 v, .slice A n c] : List Value), u.oneCell' = true := by
  intro u hu
  simp only [List.mem_cons, List.not_mem_nil, or_false] at hu
  rcases hu with rfl | rfl | rfl <;> rfl
theorem fault8_any (s : ByteArray) (k : Int) (w : World) : Calls Tryd.prog 58 #[.string s, .int .i64 k] w fun e w' => ∃ v, e = .returned v ∧ FaultIs w' v k ∧ Below w.heap.size w w' := by
  go_enter Tryd.func58, Tryd.ntmps58
  go_wp2
  go_ret
  exact ⟨_, rfl, FaultIs.new w _ k, (Below.refl _ _).alloc (Nat.le_refl _) _⟩
set_option maxRecDepth 100000 in
set_option maxHeartbeats 1000000 in
theorem at8_any (t : Av) (g i : Nat) (w : World) (h : TreeAt w t g) (hi : i < t.many) (hm : t.many ≤ 900000) :
    Calls Tryd.prog 59 #[Ptr g, .int .i64 (i : Nat)] w fun e w' => ∃ cs, e = .returned (.tuple #[.agg cs.toArray, .nilIface]) ∧ PrfC w.heap.size w' (madeP t i) cs ∧ Below w.heap.size w w' := by
  have H := Lib.hid (And.intro h (And.intro hi hm))
  clear h hi hm
  obtain ⟨pk, pv, hpp⟩ : ∃ a b, t.at_ i = (a, b) := ⟨_, _, rfl⟩
  have HPP := Lib.hid hpp
  clear hpp
  have hb0 : Below w.heap.size w (w.alloc (.cells noPrf.toArray 32)) := (Below.refl _ _).alloc (Nat.le_refl _) _
  have hz0 := Blk_new w noPrf 32
  go_enter Tryd.func59, Tryd.ntmps59
  go_upto_region 1 with fail
  change Code.wp _ _ _ _ (w.alloc (.cells noPrf.toArray 32))
  generalize w.alloc (.cells noPrf.toArray 32) = w0 at *
  have H0 := Lib.hid (And.intro hb0 hz0)
  clear hb0 hz0
  go_wp2_with fail
  refine (at_any t g i _ (H.out.1.below H0.out.1) H.out.2.1 H.out.2.2).mono ?_
  rintro e w5 ⟨rfl, hb⟩
  rw [HPP.out, show (pairC (pk, pv)).toArray = #[S8 pk, S8 pv] from rfl]
  have HW := Lib.hid (And.intro (below_then H0.out.1 H0.out.1.size hb) (H0.out.2.below hb))
  clear hb
  go_wp2_with fail
  obtain ⟨w6, hw6⟩ : ∃ w6, w6 = w5.alloc (.cells #[S8 pk, S8 pv] 38) := ⟨_, rfl⟩
  obtain ⟨xp, hxp⟩ : ∃ n, n = w5.heap.size := ⟨_, rfl⟩
  have HW0 := Lib.hid HW.out.1.size
  have b6 : Below w5.heap.size w5 w6 := by rw [hw6]; exact (Below.refl _ _).alloc (Nat.le_refl _) _
  have z6 : Blk w6 xp 38 [S8 pk, S8 pv] := by rw [hw6, hxp]; exact Blk_new w5 [S8 pk, S8 pv] 38
  rw [← hw6, ← hxp]
  have HW := Lib.hid (And.intro (below_then HW.out.1 HW.out.1.size b6) (HW.out.2.below b6))
  refine (path_any t g i _ (H.out.1.below HW.out.1) H.out.2.1 H.out.2.2).mono ?_
  rintro e w7 ⟨vp, rfl, ho, hb⟩
  obtain ⟨A', c', rfl, hc', hrd, _, hbl⟩ := own_slice ho
  have c0 := cell_below (z6.cellD 0 _ rfl) hb
  have c1 := cell_below (z6.cellD 1 _ rfl) hb
  have HW := Lib.hid (And.intro (below_then HW.out.1 HW.out.1.size hb) (HW.out.2.below hb))
  have HR := Lib.hid (And.intro hc' (And.intro hrd (show ∀ ad, A' = some ad → w.heap.size < ad.block from fun ad e => by have h1 := (hbl ad e).1; have h2 := z6.lt; have h3 : w.heap.size ≤ xp := (by rw [hxp]; exact HW0.out); omega)))
  obtain ⟨n, hn⟩ : ∃ n, (t.path i).length = n := ⟨_, rfl⟩
  rw [hn]
  have HN := Lib.hid hn
  clear hw6 hxp b6 z6 ho hb hc' hrd hn hbl
  go_wp2_with (refine wpList_store_blk rfl 32 (.tmp 4) _ rfl w.heap.size [S8 pk, S8 pv, .slice A' n c'] rfl rfl 32 _ HW.out.2 (by kernel_rfl) rfl (prf_one pk pv A' n c') ?_; intro w8 hw8 hg8)
  refine bodyPost_ret (results_blk2 rfl _ _ w.heap.size 32 [S8 pk, S8 pv, .slice A' n c'] _ rfl hw8 Tryd.underlying32 rfl (by kernel_rfl)) rfl ⟨_, rfl, ?_, ?_⟩
  · have hb8 : Below w.heap.size w w8 := HW.out.1.grown hg8 HW.out.1.size (fun q e => by injection e with e; omega)
    have hl : (madeP t i).steps.length = n := by rw [← HN.out]; simp [madeP]
    refine ⟨A', c', ?_, ?_, ?_, fun ad e => Nat.le_of_lt (HR.out.2.2 ad e)⟩
    · rw [hl]
      simp only [madeP, HPP.out]
    · rw [hl, ← HN.out]; exact HR.out.1
    · rw [show (madeP t i).steps = (t.path i).map toI from rfl, stepsIC_map]
      exact HR.out.2.1.grown hg8 (fun ad e e' => by have := HR.out.2.2 ad e; injection e' with e'; omega)
  · exact HW.out.1.grown hg8 HW.out.1.size (fun q e => by injection e with e; omega)
end Go.Proofs.YtdekealpachhmaaDoor

namespace Go.Proofs.YtdekealpachhmaaDoor
open Go Go.RowKit Go.Isth

theorem FaultIs.store {ty : TypeId} (hty : 149 ≠ ty) {w w' : World} {x : Nat} {old : List Value} {v : Value} {k : Int} (h : FaultIs w v k) (hx : Blk w x ty old) (hg : w.grownBy w' (some x)) : FaultIs w' v k := by
  obtain ⟨b, s, e, hc⟩ := h
  refine ⟨b, s, e, ?_⟩
  rw [hg.block b (Array.getElem?_eq_some_iff.1 hc).1 (by
    intro e'
    injection e' with e'
    subst e'
    have h := hc.symm.trans hx
    injection h with h
    injection h with _ h
    exact hty h)]
  exact hc
theorem get_find {t : Av} {key v : Str} (hs : Sorted t.pairs) (h : t.get key = some v) : t.find key < t.many ∧ t.at_ (t.find key) = (key, v) := by
  have hmem := (get_pairs t key hs v).1 h
  obtain ⟨i, hi, he⟩ := List.getElem_of_mem hmem
  have hi' : i < t.many := by rw [← t.pairs_length]; exact hi
  have ha : t.at_ i = (key, v) := by
    have := t.at_pairs i hi'
    rw [List.getElem?_eq_getElem hi, he] at this
    exact (Option.some.inj this).symm
  have hf := find_at t i hi' hs
  rw [ha] at hf
  simp only at hf
  rw [hf]
  exact ⟨hi', ha⟩
set_option maxRecDepth 100000 in
set_option maxHeartbeats 1000000 in
theorem exist_yes (t : Av) (g : Nat) (key v : Str) (w : World) (h : TreeAt w t g) (hs : Sorted t.pairs) (hg : t.get key = some v) (hm : t.many ≤ 900000) :
    Calls Tryd.prog 13 #[Ptr g, S8 key] w fun e w' => ∃ cs, e = .returned (.tuple #[.agg cs.toArray, .nilIface]) ∧ PrfC w.heap.size w' (madeP t (t.find key)) cs ∧ Below w.heap.size w w' := by
  have H := Lib.hid (And.intro h (And.intro hg (And.intro hm (get_find hs hg).1)))
  clear h hg hm
  have hb0 : Below w.heap.size w (w.alloc (.cells noPrf.toArray 32)) := (Below.refl _ _).alloc (Nat.le_refl _) _
  have hz0 := Blk_new w noPrf 32
  go_enter Tryd.func13, Tryd.ntmps13
  go_upto_region 1 with fail
  change Code.wp _ _ _ _ (w.alloc (.cells noPrf.toArray 32))
  generalize w.alloc (.cells noPrf.toArray 32) = w0 at *
  have H0 := Lib.hid (And.intro hb0 hz0)
  have HZ := Lib.hid (show w.heap.size < w0.heap.size from hz0.lt)
  clear hb0 hz0
  go_wp2_with fail
  refine (get_any (some t) (Ptr g) key w0 ⟨g, rfl, H.out.1.below H0.out.1⟩).mono ?_
  rintro e w1 ⟨rfl, rfl⟩
  rw [show getO key (some t) = some v from H.out.2.1]
  unfold getVal
  go_wp2_with fail
  refine (find_any (some t) (Ptr g) key _ ⟨g, rfl, H.out.1.below H0.out.1⟩ (by have := H.out.2.2.1; simp only [manyO]; omega)).mono ?_
  rintro e w2 ⟨rfl, rfl⟩
  go_wp2_with fail
  refine (at8_any t g (t.find key) _ (H.out.1.below H0.out.1) H.out.2.2.2 H.out.2.2.1).mono ?_
  rintro e w3 ⟨cs, rfl, hp, hb⟩
  have HP := Lib.hid hp
  have HB := Lib.hid (And.intro (below_then H0.out.1 H0.out.1.size hb) (H0.out.2.below hb))
  clear hp hb
  go_wp2_with (refine wpList_store_blk rfl 32 (.tmp 4) _ rfl w.heap.size cs rfl rfl 32 _ HB.out.2 (by rw [HP.out.len]; kernel_rfl) (by rw [HP.out.len]; rfl) HP.out.one ?_; intro w8 hw8 hg8)
  refine bodyPost_ret (results_blk2 rfl _ _ w.heap.size 32 cs _ rfl hw8 Tryd.underlying32 rfl (by rw [HP.out.len]; kernel_rfl)) rfl ⟨_, rfl, ?_, ?_⟩
  · exact (HP.out.store hg8 HZ.out).mono (Nat.le_of_lt HZ.out)
  · exact HB.out.1.grown hg8 HB.out.1.size (fun q e => by injection e with e; omega)
set_option maxRecDepth 100000 in
set_option maxHeartbeats 1000000 in
theorem exist_no (t : Option Av) (v : Value) (key : Str) (w : World) (h : TreeO w t v) (hg : getO key t = none) :
    Calls Tryd.prog 13 #[v, S8 key] w fun e w' => ∃ ev, e = .returned (.tuple #[.agg noPrf.toArray, ev]) ∧ FaultIs w' ev 8 ∧ Below w.heap.size w w' := by
  have H := Lib.hid (And.intro h hg)
  clear h hg
  have hb0 : Below w.heap.size w (w.alloc (.cells noPrf.toArray 32)) := (Below.refl _ _).alloc (Nat.le_refl _) _
  have hz0 := Blk_new w noPrf 32
  go_enter Tryd.func13, Tryd.ntmps13
  go_upto_region 1 with fail
  change Code.wp _ _ _ _ (w.alloc (.cells noPrf.toArray 32))
  generalize w.alloc (.cells noPrf.toArray 32) = w0 at *
  have H0 := Lib.hid (And.intro hb0 hz0)
  clear hb0 hz0
  go_wp2_with fail
  refine (get_any t v key w0 (H.out.1.below H0.out.1)).mono ?_
  rintro e w1 ⟨rfl, rfl⟩
  rw [H.out.2]
  unfold getVal
  go_wp2_with fail
  refine (fault8_any _ 8 _).mono ?_
  rintro e w2 ⟨ev, rfl, hf, hb⟩
  have HF := Lib.hid hf
  have HB := Lib.hid (And.intro (below_then H0.out.1 H0.out.1.size hb) (H0.out.2.below hb))
  obtain ⟨bf, rfl⟩ := hf.shape
  clear hf hb
  go_wp2_with (refine wpList_store_blk rfl 32 _ _ rfl w.heap.size noPrf rfl rfl 32 _ HB.out.2 (by kernel_rfl) rfl noPrf_one ?_; intro w8 hw8 hg8)
  refine bodyPost_ret (results_blk2 rfl _ _ w.heap.size 32 noPrf _ rfl hw8 Tryd.underlying32 rfl (by kernel_rfl)) rfl ⟨_, rfl, ?_, ?_⟩
  · exact FaultIs.store (by decide) HF.out HB.out.2 hg8
  · exact HB.out.1.grown hg8 HB.out.1.size (fun q e => by injection e with e; omega)
/-- At most one proof. -/
def SliceP (n₀ : Nat) (w : World) (v : Value) (ps : List PrfV) : Prop :=
  (ps = [] ∧ v = .slice none 0 0) ∨ ∃ p g cs, ps = [p] ∧ v = .slice (some ⟨g, 0, none⟩) 1 1 ∧ n₀ ≤ g ∧ Blk w g 32 cs ∧ PrfC n₀ w p cs
theorem SliceP.below {n₀ : Nat} {w w' : World} {v : Value} {ps : List PrfV} (h : SliceP n₀ w v ps) (hb : Below w.heap.size w w') : SliceP n₀ w' v ps := by
  rcases h with h | ⟨p, g, cs, h1, h2, h3, h4, h5⟩
  · exact .inl h
  · exact .inr ⟨p, g, cs, h1, h2, h3, h4.below hb, h5.below hb⟩
theorem SliceP.mono {n₀ n₁ : Nat} {w : World} {v : Value} {ps : List PrfV} (h : SliceP n₀ w v ps) (hn : n₁ ≤ n₀) : SliceP n₁ w v ps := by
  rcases h with h | ⟨p, g, cs, h1, h2, h3, h4, h5⟩
  · exact .inl h
  · exact .inr ⟨p, g, cs, h1, h2, Nat.le_trans hn h3, h4, h5.mono hn⟩
theorem SliceP.store {n₀ x : Nat} {w w' : World} {v : Value} {ps : List PrfV} (h : SliceP n₀ w v ps) (hg : w.grownBy w' (some x)) (hx : x < n₀) : SliceP n₀ w' v ps := by
  rcases h with h | ⟨p, g, cs, h1, h2, h3, h4, h5⟩
  · exact .inl h
  · exact .inr ⟨p, g, cs, h1, h2, h3, h4.grown hg (by intro e; injection e with e; omega), h5.store hg hx⟩
theorem SliceP.shape {n₀ : Nat} {w : World} {v : Value} {ps : List PrfV} (h : SliceP n₀ w v ps) : ∃ A n c, v = .slice A n c := by
  rcases h with ⟨_, rfl⟩ | ⟨_, _, _, _, rfl, _⟩
  · exact ⟨_, _, _, rfl⟩
  · exact ⟨_, _, _, rfl⟩
def leftP (t : Av) (i : Nat) : List PrfV := if 0 < i then [madeP t (i - 1)] else []
def rightP (t : Av) (i : Nat) : List PrfV := if i < t.many then [madeP t i] else []
def leftO (t : Option Av) (key : Str) : List PrfV := match t with | none => [] | some t => leftP t (t.find key)
def rightO (t : Option Av) (key : Str) : List PrfV := match t with | none => [] | some t => rightP t (t.find key)
end Go.Proofs.YtdekealpachhmaaDoor

namespace Go.Proofs.YtdekealpachhmaaDoor
open Go Go.RowKit Go.Isth

def noAbs : List Value := [.slice none 0 0, .slice none 0 0]
theorem noAbs_one : ∀ u ∈ noAbs, u.oneCell' = true := by
  intro u hu
  simp only [noAbs, List.mem_cons, List.not_mem_nil, or_false] at hu
  rcases hu with rfl | rfl <;> rfl
theorem SliceP.one {n₀ : Nat} {w : World} {v : Value} {ps : List PrfV} (h : SliceP n₀ w v ps) : v.oneCell' = true := by
  obtain ⟨_, _, _, rfl⟩ := h.shape
  rfl
theorem tPf : SlT Tryd.prog 39 32 (.agg #[S8 [], S8 [], .slice none 0 0]) 3 56 := ⟨Tryd.underlying39, by kernel_rfl, rfl, by decide⟩
theorem ld_prf {w : World} {x : Nat} {cs : List Value} (h : Blk w x 32 cs) (hl : cs.length = 3) : (loadVar 32 ⟨x, 0, none⟩).run Tryd.prog w = .ok (.agg cs.toArray) w :=
  run_load_agg (P := Tryd.prog) Tryd.underlying32 rfl (by kernel_rfl) w ⟨x, 0, none⟩ cs hl (fun j u hj => by rw [add_plain, Nat.zero_add]; exact h.cellD j u hj)
set_option maxRecDepth 100000 in
set_option maxHeartbeats 1000000 in
theorem none_no (t : Option Av) (v : Value) (key u : Str) (w : World) (h : TreeO w t v) (hg : getO key t = some u) :
    Calls Tryd.prog 14 #[v, S8 key] w fun e w' => ∃ ev, e = .returned (.tuple #[.agg noAbs.toArray, ev]) ∧ FaultIs w' ev 9 ∧ Below w.heap.size w w' := by
  have H := Lib.hid (And.intro h hg)
  clear h hg
  have hb0 : Below w.heap.size w (w.alloc (.cells noAbs.toArray 41)) := (Below.refl _ _).alloc (Nat.le_refl _) _
  have hz0 := Blk_new w noAbs 41
  go_enter Tryd.func14, Tryd.ntmps14
  go_upto_region 1 with fail
  change Code.wp _ _ _ _ (w.alloc (.cells noAbs.toArray 41))
  generalize w.alloc (.cells noAbs.toArray 41) = w0 at *
  have H0 := Lib.hid (And.intro hb0 hz0)
  clear hb0 hz0
  go_wp2_with fail
  refine (get_any t v key w0 (H.out.1.below H0.out.1)).mono ?_
  rintro e w1 ⟨rfl, rfl⟩
  rw [H.out.2]
  unfold getVal
  go_wp2_with fail
  refine (fault8_any _ 9 _).mono ?_
  rintro e w2 ⟨ev, rfl, hf, hb⟩
  have HF := Lib.hid hf
  have HB := Lib.hid (And.intro (below_then H0.out.1 H0.out.1.size hb) (H0.out.2.below hb))
  obtain ⟨bf, rfl⟩ := hf.shape
  clear hf hb
  go_wp2_with (refine wpList_store_blk rfl 41 _ _ rfl w.heap.size noAbs rfl rfl 41 _ HB.out.2 (by kernel_rfl) rfl noAbs_one ?_; intro w8 hw8 hg8)
  refine bodyPost_ret (results_blk2 rfl _ _ w.heap.size 41 noAbs _ rfl hw8 Tryd.underlying41 rfl (by kernel_rfl)) rfl ⟨_, rfl, ?_, ?_⟩
  · exact FaultIs.store (by decide) HF.out HB.out.2 hg8
  · exact HB.out.1.grown hg8 HB.out.1.size (fun q e => by injection e with e; omega)
theorem find_le (t : Av) (key : Str) : t.find key ≤ t.many := by
  induction t with
  | leaf k v => simp only [Av.find, Av.many]; split <;> omega
  | node a b iha ihb => simp only [Av.find, Av.many]; split <;> omega
set_option maxRecDepth 100000 in
set_option maxHeartbeats 2000000 in
theorem none_yy (t : Av) (g : Nat) (key : Str) (i : Nat) (w : World) (h : TreeAt w t g) (hs : t.get key = none) (hi : t.find key = i) (hm : t.many ≤ 900000) (hlr : 0 < i ∧ i < t.many) :
    Calls Tryd.prog 14 #[Ptr g, S8 key] w fun e w' => ∃ vl vr, e = .returned (.tuple #[.agg #[vl, vr], .nilIface]) ∧ SliceP (w.heap.size + 2) w' vl (leftP t i) ∧ SliceP (w.heap.size + 2) w' vr (rightP t i) ∧ Below w.heap.size w w' := by
  obtain ⟨n, hn⟩ : ∃ n, t.many = n := ⟨_, rfl⟩
  rw [hn] at hm hlr
  have H := Lib.hid (And.intro (show TreeO w (some t) (Ptr g) from ⟨g, rfl, h⟩) (And.intro hs (And.intro hi (And.intro hn hm))))
  have HT := Lib.hid h
  have HLR := Lib.hid hlr
  have hl : (0 : Int) < (i : Int) := by have := hlr.1; omega
  have hr : (i : Int) < (n : Int) := by have := hlr.2; omega
  have hsub : wrap64 ((i : Int) - 1) = ((i - 1 : Nat) : Int) := by have := hlr; have := hi; have := find_le t key; rw [IntWalk.wrap64_in _ ⟨by omega, by omega⟩]; omega
  have HSB := Lib.hid hsub
  clear hsub
  have HIN := Lib.hid (show i - 1 < n by have := find_le t key; omega)
  clear h hs hi hm hlr hn
  obtain ⟨x4, hx4⟩ : ∃ n, n = w.heap.size := ⟨_, rfl⟩
  obtain ⟨w0, hw0⟩ : ∃ w0, w0 = w.alloc (.cells noAbs.toArray 41) := ⟨_, rfl⟩
  obtain ⟨w1, hw1⟩ : ∃ w1, w1 = w0.alloc (.cells noAbs.toArray 41) := ⟨_, rfl⟩
  have s0 : w0.heap.size = x4 + 1 := by rw [hw0, World.size_alloc, hx4]
  have s1 : w1.heap.size = x4 + 2 := by rw [hw1, World.size_alloc, s0]
  have b0 : Below w.heap.size w w0 := by rw [hw0]; exact (Below.refl _ _).alloc (Nat.le_refl _) _
  have b1 : Below w.heap.size w w1 := by rw [hw1]; exact b0.alloc b0.size _
  have z4 : Blk w1 x4 41 noAbs := by rw [hw1, hw0, hx4]; exact (Blk_new w noAbs 41).alloc _
  have z8 : Blk w1 (x4 + 1) 41 noAbs := by rw [← s0, hw1]; exact Blk_new w0 noAbs 41
  have H0 := Lib.hid b0
  have HB := Lib.hid b1
  have HX4 := Lib.hid z4
  have HX8 := Lib.hid z8
  have HXX := Lib.hid (And.intro hx4 (And.intro s0 s1))
  have HL : Hid (SliceP (x4 + 2) w1 (.slice none 0 0) []) := Lib.hid (.inl ⟨rfl, rfl⟩)
  have HR : Hid (SliceP (x4 + 2) w1 (.slice none 0 0) []) := Lib.hid (.inl ⟨rfl, rfl⟩)
  go_enter Tryd.func14, Tryd.ntmps14
  go_upto_region 1 with fail
  change Code.wp _ _ _ _ (w.alloc (.cells noAbs.toArray 41))
  rw [← hw0, ← hx4]
  clear hw0 s0 s1 b0 b1 z4 z8 hx4
  go_wp2_with fail
  refine (get_any (some t) (Ptr g) key w0 (H.out.1.below H0.out)).mono ?_
  rintro e wx ⟨rfl, hwx⟩
  obtain rfl : wx = w0 := hwx
  rw [show getO key (some t) = none from H.out.2.1]
  unfold getVal
  go_wp2_with fail
  change Calls _ _ _ (wx.alloc (.cells noAbs.toArray 41)) _
  rw [← hw1, HXX.out.2.1]
  clear hw1
  refine (find_any (some t) (Ptr g) key w1 (H.out.1.below HB.out) (by have := H.out.2.2.2; simp only [manyO]; omega)).mono ?_
  rintro e wy ⟨rfl, hwy⟩
  obtain rfl : wy = w1 := hwy
  rw [show findO key (some t) = i from H.out.2.2.1]
  have HSZ := Lib.hid (show x4 + 2 ≤ wy.heap.size by rw [HXX.out.2.2]; omega)
  go_wp2_with fail
  rw [HSB.out]
  refine (at8_any t g (i - 1) wy (HT.out.below HB.out) (by have := HIN.out; have := H.out.2.2.2; omega) (by have := H.out.2.2.2; omega)).mono ?_
  rintro e wal ⟨csl, rfl, hp, hb⟩
  have HP := Lib.hid (hp.mono (show x4 + 2 ≤ wy.heap.size from HSZ.out))
  have HB := Lib.hid (below_then HB.out HB.out.size hb)
  have HX4 := Lib.hid (HX4.out.below hb)
  have HX8 := Lib.hid (HX8.out.below hb)
  have HL := Lib.hid (HL.out.below hb)
  have HR := Lib.hid (HR.out.below hb)
  have HSZ := Lib.hid (Nat.le_trans HSZ.out hb.size)
  clear hp hb
  go_wp2_with (first
    | (refine wpList_store_blk rfl 32 (.tmp 10) _ rfl wal.heap.size csl rfl rfl 32 noPrf (heap_alloc_new wal _) (by rw [HP.out.len]; kernel_rfl) (by rw [HP.out.len]; rfl) HP.out.one ?_
       intro wbl hz hg
       have hbb : Below wal.heap.size wal wbl := ((Below.refl _ _).alloc (Nat.le_refl _) _).grown hg (by simp) (fun q e => by injection e with e; omega)
       have HLD := Lib.hid (ld_prf hz HP.out.len)
       have HP := Lib.hid (HP.out.below hbb)
       have HB := Lib.hid (below_then HB.out HB.out.size hbb)
       have HX4 := Lib.hid (HX4.out.below hbb)
       have HX8 := Lib.hid (HX8.out.below hbb)
       have HL := Lib.hid (HL.out.below hbb)
       have HR := Lib.hid (HR.out.below hbb)
       have HSZ := Lib.hid (Nat.le_trans HSZ.out hbb.size)
       clear hz hg hbb)
    | (refine wpList_load rfl (.tmp 10) rfl ⟨wal.heap.size, 0, none⟩ (.agg csl.toArray) rfl HLD.out ?_)
    | (refine wpList_row1 rfl tPf (.tmp 40) rfl csl rfl HP.out.len (by decide) ?_
       have c8 := (HX8.out.alloc (.cells csl.toArray 32)).cellD 0 _ rfl
       have f8 := (HX8.out.alloc (.cells csl.toArray 32)).frozen 0))
  obtain ⟨vl, hv⟩ : ∃ v, v = Value.slice (some ⟨wbl.heap.size, 0, none⟩) 1 1 := ⟨_, rfl⟩
  obtain ⟨wdl, hwd⟩ : ∃ wd, wd = (wbl.alloc (.cells csl.toArray 32)).setCell ⟨x4 + 1, 0, none⟩ vl := ⟨_, rfl⟩
  rw [← hv, ← hwd]
  have hgr : (wbl.alloc (.cells csl.toArray 32)).grownBy wdl (some (x4 + 1)) := by rw [hwd]; exact grown_setC _ _ _ _
  have hba := HB.out.alloc HB.out.size (.cells csl.toArray 32)
  have hal : Below wbl.heap.size wbl (wbl.alloc (.cells csl.toArray 32)) := (Below.refl _ _).alloc (Nat.le_refl _) _
  have HB := Lib.hid (hba.grown hgr hba.size (fun q e => by injection e with e; have := HXX.out.1; omega))
  have HX4 := Lib.hid ((HX4.out.below hal).grown hgr (by intro e; injection e with e; omega))
  have HX8 : Hid (Blk wdl (x4 + 1) 41 [vl, .slice none 0 0]) := Lib.hid (by rw [hwd]; exact (HX8.out.below hal).set 0 vl)
  have HL := Lib.hid ((HL.out.below hal).store hgr (Nat.lt_succ_self _))
  have HR := Lib.hid ((HR.out.below hal).store hgr (Nat.lt_succ_self _))
  have HL : Hid (SliceP (x4 + 2) wdl vl (leftP t i)) := Lib.hid (by
    rw [show leftP t i = [madeP t (i - 1)] from if_pos HLR.out.1]
    exact .inr ⟨_, wbl.heap.size, csl, rfl, hv, HSZ.out, (Blk_new wbl csl 32).grown hgr (by intro e; injection e with e; have := HSZ.out; omega), (HP.out.below hal).store hgr (Nat.lt_succ_self _)⟩)
  have HSZ := Lib.hid (Nat.le_trans (Nat.le_trans HSZ.out hal.size) hgr.size)
  clear c8 f8 hv hwd hgr hba hal HLD HP
  refine (len_any (some t) (Ptr g) wdl (H.out.1.below HB.out)).mono ?_
  rintro e wz ⟨rfl, hwz⟩
  obtain rfl : wz = wdl := hwz
  rw [show manyO (some t) = n from H.out.2.2.2.1]
  go_wp2_with fail
  refine (at8_any t g i wz (HT.out.below HB.out) (by have := HLR.out; have := H.out.2.2.2; omega) (by have := H.out.2.2.2; omega)).mono ?_
  rintro e war ⟨csr, rfl, hp, hb⟩
  have HP := Lib.hid (hp.mono (show x4 + 2 ≤ wz.heap.size from HSZ.out))
  have HB := Lib.hid (below_then HB.out HB.out.size hb)
  have HX4 := Lib.hid (HX4.out.below hb)
  have HX8 := Lib.hid (HX8.out.below hb)
  have HL := Lib.hid (HL.out.below hb)
  have HR := Lib.hid (HR.out.below hb)
  have HSZ := Lib.hid (Nat.le_trans HSZ.out hb.size)
  clear hp hb
  go_upto_region 16 with (first
    | (refine wpList_store_blk rfl 32 (.tmp 12) _ rfl war.heap.size csr rfl rfl 32 noPrf (heap_alloc_new war _) (by rw [HP.out.len]; kernel_rfl) (by rw [HP.out.len]; rfl) HP.out.one ?_
       intro wbr hz hg
       have hbb : Below war.heap.size war wbr := ((Below.refl _ _).alloc (Nat.le_refl _) _).grown hg (by simp) (fun q e => by injection e with e; omega)
       have HLD := Lib.hid (ld_prf hz HP.out.len)
       have HP := Lib.hid (HP.out.below hbb)
       have HB := Lib.hid (below_then HB.out HB.out.size hbb)
       have HX4 := Lib.hid (HX4.out.below hbb)
       have HX8 := Lib.hid (HX8.out.below hbb)
       have HL := Lib.hid (HL.out.below hbb)
       have HR := Lib.hid (HR.out.below hbb)
       have HSZ := Lib.hid (Nat.le_trans HSZ.out hbb.size)
       clear hz hg hbb)
    | (refine wpList_load rfl (.tmp 12) rfl ⟨war.heap.size, 0, none⟩ (.agg csr.toArray) rfl HLD.out ?_)
    | (refine wpList_row1 rfl tPf (.tmp 57) rfl csr rfl HP.out.len (by decide) ?_
       have c8 := (HX8.out.alloc (.cells csr.toArray 32)).cellD 1 _ rfl
       have f8 := (HX8.out.alloc (.cells csr.toArray 32)).frozen 1))
  obtain ⟨vr, hv⟩ : ∃ v, v = Value.slice (some ⟨wbr.heap.size, 0, none⟩) 1 1 := ⟨_, rfl⟩
  obtain ⟨wdr, hwd⟩ : ∃ wd, wd = (wbr.alloc (.cells csr.toArray 32)).setCell ⟨x4 + 1, 1, none⟩ vr := ⟨_, rfl⟩
  rw [← hv, ← hwd]
  have hgr : (wbr.alloc (.cells csr.toArray 32)).grownBy wdr (some (x4 + 1)) := by rw [hwd]; exact grown_setC _ _ _ _
  have hba := HB.out.alloc HB.out.size (.cells csr.toArray 32)
  have hal : Below wbr.heap.size wbr (wbr.alloc (.cells csr.toArray 32)) := (Below.refl _ _).alloc (Nat.le_refl _) _
  have HB := Lib.hid (hba.grown hgr hba.size (fun q e => by injection e with e; have := HXX.out.1; omega))
  have HX4 := Lib.hid ((HX4.out.below hal).grown hgr (by intro e; injection e with e; omega))
  have HX8 : Hid (Blk wdr (x4 + 1) 41 [vl, vr]) := Lib.hid (by rw [hwd]; exact (HX8.out.below hal).set 1 vr)
  have HL := Lib.hid ((HL.out.below hal).store hgr (Nat.lt_succ_self _))
  have HR := Lib.hid ((HR.out.below hal).store hgr (Nat.lt_succ_self _))
  have HR : Hid (SliceP (x4 + 2) wdr vr (rightP t i)) := Lib.hid (by
    rw [show rightP t i = [madeP t i] from if_pos (by rw [H.out.2.2.2.1]; exact HLR.out.2)]
    exact .inr ⟨_, wbr.heap.size, csr, rfl, hv, HSZ.out, (Blk_new wbr csr 32).grown hgr (by intro e; injection e with e; have := HSZ.out; omega), (HP.out.below hal).store hgr (Nat.lt_succ_self _)⟩)
  have HSZ := Lib.hid (Nat.le_trans (Nat.le_trans HSZ.out hal.size) hgr.size)
  clear c8 f8 hv hwd hgr hba hal HLD HP
  have d0 := HX8.out.cellD 0 _ rfl
  have d1 := HX8.out.cellD 1 _ rfl
  go_wp2_with (refine wpList_store_blk rfl 41 (.tmp 4) _ rfl x4 [vl, vr] rfl rfl 41 _ HX4.out (by kernel_rfl) rfl (by intro u hu; simp only [List.mem_cons, List.not_mem_nil, or_false] at hu; rcases hu with rfl | rfl; exact HL.out.one; exact HR.out.one) ?_; intro w9 hz hg)
  refine bodyPost_ret (results_blk2 rfl _ _ x4 41 [vl, vr] _ rfl hz Tryd.underlying41 rfl (by kernel_rfl)) rfl ⟨_, _, rfl, ?_, ?_, ?_⟩
  · rw [← HXX.out.1]; exact HL.out.store hg (by omega)
  · rw [← HXX.out.1]; exact HR.out.store hg (by omega)
  · exact HB.out.grown hg HB.out.size (fun q e => by injection e with e; have := HXX.out.1; omega)
set_option maxRecDepth 100000 in
set_option maxHeartbeats 2000000 in
theorem none_yn (t : Av) (g : Nat) (key : Str) (i : Nat) (w : World) (h : TreeAt w t g) (hs : t.get key = none) (hi : t.find key = i) (hm : t.many ≤ 900000) (hlr : 0 < i ∧ ¬ i < t.many) :
    Calls Tryd.prog 14 #[Ptr g, S8 key] w fun e w' => ∃ vl vr, e = .returned (.tuple #[.agg #[vl, vr], .nilIface]) ∧ SliceP (w.heap.size + 2) w' vl (leftP t i) ∧ SliceP (w.heap.size + 2) w' vr (rightP t i) ∧ Below w.heap.size w w' := by
  obtain ⟨n, hn⟩ : ∃ n, t.many = n := ⟨_, rfl⟩
  rw [hn] at hm hlr
  have H := Lib.hid (And.intro (show TreeO w (some t) (Ptr g) from ⟨g, rfl, h⟩) (And.intro hs (And.intro hi (And.intro hn hm))))
  have HT := Lib.hid h
  have HLR := Lib.hid hlr
  have hl : (0 : Int) < (i : Int) := by have := hlr.1; omega
  have hr : ¬ (i : Int) < (n : Int) := by have := hlr.2; omega
  have hsub : wrap64 ((i : Int) - 1) = ((i - 1 : Nat) : Int) := by have := hlr; have := hi; have := find_le t key; rw [IntWalk.wrap64_in _ ⟨by omega, by omega⟩]; omega
  have HSB := Lib.hid hsub
  clear hsub
  have HIN := Lib.hid (show i - 1 < n by have := find_le t key; omega)
  clear h hs hi hm hlr hn
  obtain ⟨x4, hx4⟩ : ∃ n, n = w.heap.size := ⟨_, rfl⟩
  obtain ⟨w0, hw0⟩ : ∃ w0, w0 = w.alloc (.cells noAbs.toArray 41) := ⟨_, rfl⟩
  obtain ⟨w1, hw1⟩ : ∃ w1, w1 = w0.alloc (.cells noAbs.toArray 41) := ⟨_, rfl⟩
  have s0 : w0.heap.size = x4 + 1 := by rw [hw0, World.size_alloc, hx4]
  have s1 : w1.heap.size = x4 + 2 := by rw [hw1, World.size_alloc, s0]
  have b0 : Below w.heap.size w w0 := by rw [hw0]; exact (Below.refl _ _).alloc (Nat.le_refl _) _
  have b1 : Below w.heap.size w w1 := by rw [hw1]; exact b0.alloc b0.size _
  have z4 : Blk w1 x4 41 noAbs := by rw [hw1, hw0, hx4]; exact (Blk_new w noAbs 41).alloc _
  have z8 : Blk w1 (x4 + 1) 41 noAbs := by rw [← s0, hw1]; exact Blk_new w0 noAbs 41
  have H0 := Lib.hid b0
  have HB := Lib.hid b1
  have HX4 := Lib.hid z4
  have HX8 := Lib.hid z8
  have HXX := Lib.hid (And.intro hx4 (And.intro s0 s1))
  have HL : Hid (SliceP (x4 + 2) w1 (.slice none 0 0) []) := Lib.hid (.inl ⟨rfl, rfl⟩)
  have HR : Hid (SliceP (x4 + 2) w1 (.slice none 0 0) []) := Lib.hid (.inl ⟨rfl, rfl⟩)
  go_enter Tryd.func14, Tryd.ntmps14
  go_upto_region 1 with fail
  change Code.wp _ _ _ _ (w.alloc (.cells noAbs.toArray 41))
  rw [← hw0, ← hx4]
  clear hw0 s0 s1 b0 b1 z4 z8 hx4
  go_wp2_with fail
  refine (get_any (some t) (Ptr g) key w0 (H.out.1.below H0.out)).mono ?_
  rintro e wx ⟨rfl, hwx⟩
  obtain rfl : wx = w0 := hwx
  rw [show getO key (some t) = none from H.out.2.1]
  unfold getVal
  go_wp2_with fail
  change Calls _ _ _ (wx.alloc (.cells noAbs.toArray 41)) _
  rw [← hw1, HXX.out.2.1]
  clear hw1
  refine (find_any (some t) (Ptr g) key w1 (H.out.1.below HB.out) (by have := H.out.2.2.2; simp only [manyO]; omega)).mono ?_
  rintro e wy ⟨rfl, hwy⟩
  obtain rfl : wy = w1 := hwy
  rw [show findO key (some t) = i from H.out.2.2.1]
  have HSZ := Lib.hid (show x4 + 2 ≤ wy.heap.size by rw [HXX.out.2.2]; omega)
  go_wp2_with fail
  rw [HSB.out]
  refine (at8_any t g (i - 1) wy (HT.out.below HB.out) (by have := HIN.out; have := H.out.2.2.2; omega) (by have := H.out.2.2.2; omega)).mono ?_
  rintro e wal ⟨csl, rfl, hp, hb⟩
  have HP := Lib.hid (hp.mono (show x4 + 2 ≤ wy.heap.size from HSZ.out))
  have HB := Lib.hid (below_then HB.out HB.out.size hb)
  have HX4 := Lib.hid (HX4.out.below hb)
  have HX8 := Lib.hid (HX8.out.below hb)
  have HL := Lib.hid (HL.out.below hb)
  have HR := Lib.hid (HR.out.below hb)
  have HSZ := Lib.hid (Nat.le_trans HSZ.out hb.size)
  clear hp hb
  go_wp2_with (first
    | (refine wpList_store_blk rfl 32 (.tmp 10) _ rfl wal.heap.size csl rfl rfl 32 noPrf (heap_alloc_new wal _) (by rw [HP.out.len]; kernel_rfl) (by rw [HP.out.len]; rfl) HP.out.one ?_
       intro wbl hz hg
       have hbb : Below wal.heap.size wal wbl := ((Below.refl _ _).alloc (Nat.le_refl _) _).grown hg (by simp) (fun q e => by injection e with e; omega)
       have HLD := Lib.hid (ld_prf hz HP.out.len)
       have HP := Lib.hid (HP.out.below hbb)
       have HB := Lib.hid (below_then HB.out HB.out.size hbb)
       have HX4 := Lib.hid (HX4.out.below hbb)
       have HX8 := Lib.hid (HX8.out.below hbb)
       have HL := Lib.hid (HL.out.below hbb)
       have HR := Lib.hid (HR.out.below hbb)
       have HSZ := Lib.hid (Nat.le_trans HSZ.out hbb.size)
       clear hz hg hbb)
    | (refine wpList_load rfl (.tmp 10) rfl ⟨wal.heap.size, 0, none⟩ (.agg csl.toArray) rfl HLD.out ?_)
    | (refine wpList_row1 rfl tPf (.tmp 40) rfl csl rfl HP.out.len (by decide) ?_
       have c8 := (HX8.out.alloc (.cells csl.toArray 32)).cellD 0 _ rfl
       have f8 := (HX8.out.alloc (.cells csl.toArray 32)).frozen 0))
  obtain ⟨vl, hv⟩ : ∃ v, v = Value.slice (some ⟨wbl.heap.size, 0, none⟩) 1 1 := ⟨_, rfl⟩
  obtain ⟨wdl, hwd⟩ : ∃ wd, wd = (wbl.alloc (.cells csl.toArray 32)).setCell ⟨x4 + 1, 0, none⟩ vl := ⟨_, rfl⟩
  rw [← hv, ← hwd]
  have hgr : (wbl.alloc (.cells csl.toArray 32)).grownBy wdl (some (x4 + 1)) := by rw [hwd]; exact grown_setC _ _ _ _
  have hba := HB.out.alloc HB.out.size (.cells csl.toArray 32)
  have hal : Below wbl.heap.size wbl (wbl.alloc (.cells csl.toArray 32)) := (Below.refl _ _).alloc (Nat.le_refl _) _
  have HB := Lib.hid (hba.grown hgr hba.size (fun q e => by injection e with e; have := HXX.out.1; omega))
  have HX4 := Lib.hid ((HX4.out.below hal).grown hgr (by intro e; injection e with e; omega))
  have HX8 : Hid (Blk wdl (x4 + 1) 41 [vl, .slice none 0 0]) := Lib.hid (by rw [hwd]; exact (HX8.out.below hal).set 0 vl)
  have HL := Lib.hid ((HL.out.below hal).store hgr (Nat.lt_succ_self _))
  have HR := Lib.hid ((HR.out.below hal).store hgr (Nat.lt_succ_self _))
  have HL : Hid (SliceP (x4 + 2) wdl vl (leftP t i)) := Lib.hid (by
    rw [show leftP t i = [madeP t (i - 1)] from if_pos HLR.out.1]
    exact .inr ⟨_, wbl.heap.size, csl, rfl, hv, HSZ.out, (Blk_new wbl csl 32).grown hgr (by intro e; injection e with e; have := HSZ.out; omega), (HP.out.below hal).store hgr (Nat.lt_succ_self _)⟩)
  have HSZ := Lib.hid (Nat.le_trans (Nat.le_trans HSZ.out hal.size) hgr.size)
  clear c8 f8 hv hwd hgr hba hal HLD HP
  refine (len_any (some t) (Ptr g) wdl (H.out.1.below HB.out)).mono ?_
  rintro e wz ⟨rfl, hwz⟩
  obtain rfl : wz = wdl := hwz
  rw [show manyO (some t) = n from H.out.2.2.2.1]
  have HR : Hid (SliceP (x4 + 2) wz (.slice none 0 0) (rightP t i)) := Lib.hid (by rw [show rightP t i = [] from if_neg (by rw [H.out.2.2.2.1]; exact HLR.out.2)]; exact HR.out)
  have d0 := HX8.out.cellD 0 _ rfl
  have d1 := HX8.out.cellD 1 _ rfl
  go_wp2_with (refine wpList_store_blk rfl 41 (.tmp 4) _ rfl x4 [vl, .slice none 0 0] rfl rfl 41 _ HX4.out (by kernel_rfl) rfl (by intro u hu; simp only [List.mem_cons, List.not_mem_nil, or_false] at hu; rcases hu with rfl | rfl; exact HL.out.one; exact HR.out.one) ?_; intro w9 hz hg)
  refine bodyPost_ret (results_blk2 rfl _ _ x4 41 [vl, .slice none 0 0] _ rfl hz Tryd.underlying41 rfl (by kernel_rfl)) rfl ⟨_, _, rfl, ?_, ?_, ?_⟩
  · rw [← HXX.out.1]; exact HL.out.store hg (by omega)
  · rw [← HXX.out.1]; exact HR.out.store hg (by omega)
  · exact HB.out.grown hg HB.out.size (fun q e => by injection e with e; have := HXX.out.1; omega)
set_option maxRecDepth 100000 in
set_option maxHeartbeats 2000000 in
theorem none_ny (t : Av) (g : Nat) (key : Str) (i : Nat) (w : World) (h : TreeAt w t g) (hs : t.get key = none) (hi : t.find key = i) (hm : t.many ≤ 900000) (hlr : i = 0 ∧ i < t.many) :
    Calls Tryd.prog 14 #[Ptr g, S8 key] w fun e w' => ∃ vl vr, e = .returned (.tuple #[.agg #[vl, vr], .nilIface]) ∧ SliceP (w.heap.size + 2) w' vl (leftP t i) ∧ SliceP (w.heap.size + 2) w' vr (rightP t i) ∧ Below w.heap.size w w' := by
  obtain ⟨n, hn⟩ : ∃ n, t.many = n := ⟨_, rfl⟩
  rw [hn] at hm hlr
  have H := Lib.hid (And.intro (show TreeO w (some t) (Ptr g) from ⟨g, rfl, h⟩) (And.intro hs (And.intro hi (And.intro hn hm))))
  have HT := Lib.hid h
  have HLR := Lib.hid hlr
  have hl : ¬ (0 : Int) < (i : Int) := by have := hlr.1; omega
  have hr : (i : Int) < (n : Int) := by have := hlr.2; omega
  clear h hs hi hm hlr hn
  obtain ⟨x4, hx4⟩ : ∃ n, n = w.heap.size := ⟨_, rfl⟩
  obtain ⟨w0, hw0⟩ : ∃ w0, w0 = w.alloc (.cells noAbs.toArray 41) := ⟨_, rfl⟩
  obtain ⟨w1, hw1⟩ : ∃ w1, w1 = w0.alloc (.cells noAbs.toArray 41) := ⟨_, rfl⟩
  have s0 : w0.heap.size = x4 + 1 := by rw [hw0, World.size_alloc, hx4]
  have s1 : w1.heap.size = x4 + 2 := by rw [hw1, World.size_alloc, s0]
  have b0 : Below w.heap.size w w0 := by rw [hw0]; exact (Below.refl _ _).alloc (Nat.le_refl _) _
  have b1 : Below w.heap.size w w1 := by rw [hw1]; exact b0.alloc b0.size _
  have z4 : Blk w1 x4 41 noAbs := by rw [hw1, hw0, hx4]; exact (Blk_new w noAbs 41).alloc _
  have z8 : Blk w1 (x4 + 1) 41 noAbs := by rw [← s0, hw1]; exact Blk_new w0 noAbs 41
  have H0 := Lib.hid b0
  have HB := Lib.hid b1
  have HX4 := Lib.hid z4
  have HX8 := Lib.hid z8
  have HXX := Lib.hid (And.intro hx4 (And.intro s0 s1))
  have HL : Hid (SliceP (x4 + 2) w1 (.slice none 0 0) []) := Lib.hid (.inl ⟨rfl, rfl⟩)
  have HR : Hid (SliceP (x4 + 2) w1 (.slice none 0 0) []) := Lib.hid (.inl ⟨rfl, rfl⟩)
  go_enter Tryd.func14, Tryd.ntmps14
  go_upto_region 1 with fail
  change Code.wp _ _ _ _ (w.alloc (.cells noAbs.toArray 41))
  rw [← hw0, ← hx4]
  clear hw0 s0 s1 b0 b1 z4 z8 hx4
  go_wp2_with fail
  refine (get_any (some t) (Ptr g) key w0 (H.out.1.below H0.out)).mono ?_
  rintro e wx ⟨rfl, hwx⟩
  obtain rfl : wx = w0 := hwx
  rw [show getO key (some t) = none from H.out.2.1]
  unfold getVal
  go_wp2_with fail
  change Calls _ _ _ (wx.alloc (.cells noAbs.toArray 41)) _
  rw [← hw1, HXX.out.2.1]
  clear hw1
  refine (find_any (some t) (Ptr g) key w1 (H.out.1.below HB.out) (by have := H.out.2.2.2; simp only [manyO]; omega)).mono ?_
  rintro e wy ⟨rfl, hwy⟩
  obtain rfl : wy = w1 := hwy
  rw [show findO key (some t) = i from H.out.2.2.1]
  have HSZ := Lib.hid (show x4 + 2 ≤ wy.heap.size by rw [HXX.out.2.2]; omega)
  go_wp2_with fail
  have HL : Hid (SliceP (x4 + 2) wy (.slice none 0 0) (leftP t i)) := Lib.hid (by rw [show leftP t i = [] from if_neg (by have := HLR.out.1; omega)]; exact HL.out)
  refine (len_any (some t) (Ptr g) wy (H.out.1.below HB.out)).mono ?_
  rintro e wz ⟨rfl, hwz⟩
  obtain rfl : wz = wy := hwz
  rw [show manyO (some t) = n from H.out.2.2.2.1]
  go_wp2_with fail
  refine (at8_any t g i wz (HT.out.below HB.out) (by have := HLR.out; have := H.out.2.2.2; omega) (by have := H.out.2.2.2; omega)).mono ?_
  rintro e war ⟨csr, rfl, hp, hb⟩
  have HP := Lib.hid (hp.mono (show x4 + 2 ≤ wz.heap.size from HSZ.out))
  have HB := Lib.hid (below_then HB.out HB.out.size hb)
  have HX4 := Lib.hid (HX4.out.below hb)
  have HX8 := Lib.hid (HX8.out.below hb)
  have HL := Lib.hid (HL.out.below hb)
  have HR := Lib.hid (HR.out.below hb)
  have HSZ := Lib.hid (Nat.le_trans HSZ.out hb.size)
  clear hp hb
  go_upto_region 16 with (first
    | (refine wpList_store_blk rfl 32 (.tmp 12) _ rfl war.heap.size csr rfl rfl 32 noPrf (heap_alloc_new war _) (by rw [HP.out.len]; kernel_rfl) (by rw [HP.out.len]; rfl) HP.out.one ?_
       intro wbr hz hg
       have hbb : Below war.heap.size war wbr := ((Below.refl _ _).alloc (Nat.le_refl _) _).grown hg (by simp) (fun q e => by injection e with e; omega)
       have HLD := Lib.hid (ld_prf hz HP.out.len)
       have HP := Lib.hid (HP.out.below hbb)
       have HB := Lib.hid (below_then HB.out HB.out.size hbb)
       have HX4 := Lib.hid (HX4.out.below hbb)
       have HX8 := Lib.hid (HX8.out.below hbb)
       have HL := Lib.hid (HL.out.below hbb)
       have HR := Lib.hid (HR.out.below hbb)
       have HSZ := Lib.hid (Nat.le_trans HSZ.out hbb.size)
       clear hz hg hbb)
    | (refine wpList_load rfl (.tmp 12) rfl ⟨war.heap.size, 0, none⟩ (.agg csr.toArray) rfl HLD.out ?_)
    | (refine wpList_row1 rfl tPf (.tmp 57) rfl csr rfl HP.out.len (by decide) ?_
       have c8 := (HX8.out.alloc (.cells csr.toArray 32)).cellD 1 _ rfl
       have f8 := (HX8.out.alloc (.cells csr.toArray 32)).frozen 1))
  obtain ⟨vr, hv⟩ : ∃ v, v = Value.slice (some ⟨wbr.heap.size, 0, none⟩) 1 1 := ⟨_, rfl⟩
  obtain ⟨wdr, hwd⟩ : ∃ wd, wd = (wbr.alloc (.cells csr.toArray 32)).setCell ⟨x4 + 1, 1, none⟩ vr := ⟨_, rfl⟩
  rw [← hv, ← hwd]
  have hgr : (wbr.alloc (.cells csr.toArray 32)).grownBy wdr (some (x4 + 1)) := by rw [hwd]; exact grown_setC _ _ _ _
  have hba := HB.out.alloc HB.out.size (.cells csr.toArray 32)
  have hal : Below wbr.heap.size wbr (wbr.alloc (.cells csr.toArray 32)) := (Below.refl _ _).alloc (Nat.le_refl _) _
  have HB := Lib.hid (hba.grown hgr hba.size (fun q e => by injection e with e; have := HXX.out.1; omega))
  have HX4 := Lib.hid ((HX4.out.below hal).grown hgr (by intro e; injection e with e; omega))
  have HX8 : Hid (Blk wdr (x4 + 1) 41 [.slice none 0 0, vr]) := Lib.hid (by rw [hwd]; exact (HX8.out.below hal).set 1 vr)
  have HL := Lib.hid ((HL.out.below hal).store hgr (Nat.lt_succ_self _))
  have HR := Lib.hid ((HR.out.below hal).store hgr (Nat.lt_succ_self _))
  have HR : Hid (SliceP (x4 + 2) wdr vr (rightP t i)) := Lib.hid (by
    rw [show rightP t i = [madeP t i] from if_pos (by rw [H.out.2.2.2.1]; exact HLR.out.2)]
    exact .inr ⟨_, wbr.heap.size, csr, rfl, hv, HSZ.out, (Blk_new wbr csr 32).grown hgr (by intro e; injection e with e; have := HSZ.out; omega), (HP.out.below hal).store hgr (Nat.lt_succ_self _)⟩)
  have HSZ := Lib.hid (Nat.le_trans (Nat.le_trans HSZ.out hal.size) hgr.size)
  clear c8 f8 hv hwd hgr hba hal HLD HP
  have d0 := HX8.out.cellD 0 _ rfl
  have d1 := HX8.out.cellD 1 _ rfl
  go_wp2_with (refine wpList_store_blk rfl 41 (.tmp 4) _ rfl x4 [.slice none 0 0, vr] rfl rfl 41 _ HX4.out (by kernel_rfl) rfl (by intro u hu; simp only [List.mem_cons, List.not_mem_nil, or_false] at hu; rcases hu with rfl | rfl; exact HL.out.one; exact HR.out.one) ?_; intro w9 hz hg)
  refine bodyPost_ret (results_blk2 rfl _ _ x4 41 [.slice none 0 0, vr] _ rfl hz Tryd.underlying41 rfl (by kernel_rfl)) rfl ⟨_, _, rfl, ?_, ?_, ?_⟩
  · rw [← HXX.out.1]; exact HL.out.store hg (by omega)
  · rw [← HXX.out.1]; exact HR.out.store hg (by omega)
  · exact HB.out.grown hg HB.out.size (fun q e => by injection e with e; have := HXX.out.1; omega)
set_option maxRecDepth 100000 in
set_option maxHeartbeats 2000000 in
theorem none_nn (t : Av) (g : Nat) (key : Str) (i : Nat) (w : World) (h : TreeAt w t g) (hs : t.get key = none) (hi : t.find key = i) (hm : t.many ≤ 900000) (hlr : i = 0 ∧ ¬ i < t.many) :
    Calls Tryd.prog 14 #[Ptr g, S8 key] w fun e w' => ∃ vl vr, e = .returned (.tuple #[.agg #[vl, vr], .nilIface]) ∧ SliceP (w.heap.size + 2) w' vl (leftP t i) ∧ SliceP (w.heap.size + 2) w' vr (rightP t i) ∧ Below w.heap.size w w' := by
  obtain ⟨n, hn⟩ : ∃ n, t.many = n := ⟨_, rfl⟩
  rw [hn] at hm hlr
  have H := Lib.hid (And.intro (show TreeO w (some t) (Ptr g) from ⟨g, rfl, h⟩) (And.intro hs (And.intro hi (And.intro hn hm))))
  have HT := Lib.hid h
  have HLR := Lib.hid hlr
  have hl : ¬ (0 : Int) < (i : Int) := by have := hlr.1; omega
  have hr : ¬ (i : Int) < (n : Int) := by have := hlr.2; omega
  clear h hs hi hm hlr hn
  obtain ⟨x4, hx4⟩ : ∃ n, n = w.heap.size := ⟨_, rfl⟩
  obtain ⟨w0, hw0⟩ : ∃ w0, w0 = w.alloc (.cells noAbs.toArray 41) := ⟨_, rfl⟩
  obtain ⟨w1, hw1⟩ : ∃ w1, w1 = w0.alloc (.cells noAbs.toArray 41) := ⟨_, rfl⟩
  have s0 : w0.heap.size = x4 + 1 := by rw [hw0, World.size_alloc, hx4]
  have s1 : w1.heap.size = x4 + 2 := by rw [hw1, World.size_alloc, s0]
  have b0 : Below w.heap.size w w0 := by rw [hw0]; exact (Below.refl _ _).alloc (Nat.le_refl _) _
  have b1 : Below w.heap.size w w1 := by rw [hw1]; exact b0.alloc b0.size _
  have z4 : Blk w1 x4 41 noAbs := by rw [hw1, hw0, hx4]; exact (Blk_new w noAbs 41).alloc _
  have z8 : Blk w1 (x4 + 1) 41 noAbs := by rw [← s0, hw1]; exact Blk_new w0 noAbs 41
  have H0 := Lib.hid b0
  have HB := Lib.hid b1
  have HX4 := Lib.hid z4
  have HX8 := Lib.hid z8
  have HXX := Lib.hid (And.intro hx4 (And.intro s0 s1))
  have HL : Hid (SliceP (x4 + 2) w1 (.slice none 0 0) []) := Lib.hid (.inl ⟨rfl, rfl⟩)
  have HR : Hid (SliceP (x4 + 2) w1 (.slice none 0 0) []) := Lib.hid (.inl ⟨rfl, rfl⟩)
  go_enter Tryd.func14, Tryd.ntmps14
  go_upto_region 1 with fail
  change Code.wp _ _ _ _ (w.alloc (.cells noAbs.toArray 41))
  rw [← hw0, ← hx4]
  clear hw0 s0 s1 b0 b1 z4 z8 hx4
  go_wp2_with fail
  refine (get_any (some t) (Ptr g) key w0 (H.out.1.below H0.out)).mono ?_
  rintro e wx ⟨rfl, hwx⟩
  obtain rfl : wx = w0 := hwx
  rw [show getO key (some t) = none from H.out.2.1]
  unfold getVal
  go_wp2_with fail
  change Calls _ _ _ (wx.alloc (.cells noAbs.toArray 41)) _
  rw [← hw1, HXX.out.2.1]
  clear hw1
  refine (find_any (some t) (Ptr g) key w1 (H.out.1.below HB.out) (by have := H.out.2.2.2; simp only [manyO]; omega)).mono ?_
  rintro e wy ⟨rfl, hwy⟩
  obtain rfl : wy = w1 := hwy
  rw [show findO key (some t) = i from H.out.2.2.1]
  have HSZ := Lib.hid (show x4 + 2 ≤ wy.heap.size by rw [HXX.out.2.2]; omega)
  go_wp2_with fail
  have HL : Hid (SliceP (x4 + 2) wy (.slice none 0 0) (leftP t i)) := Lib.hid (by rw [show leftP t i = [] from if_neg (by have := HLR.out.1; omega)]; exact HL.out)
  refine (len_any (some t) (Ptr g) wy (H.out.1.below HB.out)).mono ?_
  rintro e wz ⟨rfl, hwz⟩
  obtain rfl : wz = wy := hwz
  rw [show manyO (some t) = n from H.out.2.2.2.1]
  have HR : Hid (SliceP (x4 + 2) wz (.slice none 0 0) (rightP t i)) := Lib.hid (by rw [show rightP t i = [] from if_neg (by rw [H.out.2.2.2.1]; exact HLR.out.2)]; exact HR.out)
  have d0 := HX8.out.cellD 0 _ rfl
  have d1 := HX8.out.cellD 1 _ rfl
  go_wp2_with (refine wpList_store_blk rfl 41 (.tmp 4) _ rfl x4 [.slice none 0 0, .slice none 0 0] rfl rfl 41 _ HX4.out (by kernel_rfl) rfl (by intro u hu; simp only [List.mem_cons, List.not_mem_nil, or_false] at hu; rcases hu with rfl | rfl; exact HL.out.one; exact HR.out.one) ?_; intro w9 hz hg)
  refine bodyPost_ret (results_blk2 rfl _ _ x4 41 [.slice none 0 0, .slice none 0 0] _ rfl hz Tryd.underlying41 rfl (by kernel_rfl)) rfl ⟨_, _, rfl, ?_, ?_, ?_⟩
  · rw [← HXX.out.1]; exact HL.out.store hg (by omega)
  · rw [← HXX.out.1]; exact HR.out.store hg (by omega)
  · exact HB.out.grown hg HB.out.size (fun q e => by injection e with e; have := HXX.out.1; omega)
set_option maxRecDepth 100000 in
set_option maxHeartbeats 2000000 in
theorem none_ee (v : Value) (key : Str) (w : World) (h : TreeO w none v) :
    Calls Tryd.prog 14 #[v, S8 key] w fun e w' => ∃ vl vr, e = .returned (.tuple #[.agg #[vl, vr], .nilIface]) ∧ SliceP (w.heap.size + 2) w' vl ([]) ∧ SliceP (w.heap.size + 2) w' vr ([]) ∧ Below w.heap.size w w' := by
  have H := Lib.hid (And.intro h (show getO key none = none from rfl))
  have hl : ¬ (0 : Int) < ((0 : Nat) : Int) := by omega
  have hr : ¬ ((0 : Nat) : Int) < ((0 : Nat) : Int) := by omega
  clear h
  obtain ⟨x4, hx4⟩ : ∃ n, n = w.heap.size := ⟨_, rfl⟩
  obtain ⟨w0, hw0⟩ : ∃ w0, w0 = w.alloc (.cells noAbs.toArray 41) := ⟨_, rfl⟩
  obtain ⟨w1, hw1⟩ : ∃ w1, w1 = w0.alloc (.cells noAbs.toArray 41) := ⟨_, rfl⟩
  have s0 : w0.heap.size = x4 + 1 := by rw [hw0, World.size_alloc, hx4]
  have s1 : w1.heap.size = x4 + 2 := by rw [hw1, World.size_alloc, s0]
  have b0 : Below w.heap.size w w0 := by rw [hw0]; exact (Below.refl _ _).alloc (Nat.le_refl _) _
  have b1 : Below w.heap.size w w1 := by rw [hw1]; exact b0.alloc b0.size _
  have z4 : Blk w1 x4 41 noAbs := by rw [hw1, hw0, hx4]; exact (Blk_new w noAbs 41).alloc _
  have z8 : Blk w1 (x4 + 1) 41 noAbs := by rw [← s0, hw1]; exact Blk_new w0 noAbs 41
  have H0 := Lib.hid b0
  have HB := Lib.hid b1
  have HX4 := Lib.hid z4
  have HX8 := Lib.hid z8
  have HXX := Lib.hid (And.intro hx4 (And.intro s0 s1))
  have HL : Hid (SliceP (x4 + 2) w1 (.slice none 0 0) []) := Lib.hid (.inl ⟨rfl, rfl⟩)
  have HR : Hid (SliceP (x4 + 2) w1 (.slice none 0 0) []) := Lib.hid (.inl ⟨rfl, rfl⟩)
  go_enter Tryd.func14, Tryd.ntmps14
  go_upto_region 1 with fail
  change Code.wp _ _ _ _ (w.alloc (.cells noAbs.toArray 41))
  rw [← hw0, ← hx4]
  clear hw0 s0 s1 b0 b1 z4 z8 hx4
  go_wp2_with fail
  refine (get_any none v key w0 (H.out.1.below H0.out)).mono ?_
  rintro e wx ⟨rfl, hwx⟩
  obtain rfl : wx = w0 := hwx
  rw [show getO key none = none from H.out.2]
  unfold getVal
  go_wp2_with fail
  change Calls _ _ _ (wx.alloc (.cells noAbs.toArray 41)) _
  rw [← hw1, HXX.out.2.1]
  clear hw1
  refine (find_any none v key w1 (H.out.1.below HB.out) (by simp [manyO])).mono ?_
  rintro e wy ⟨rfl, hwy⟩
  obtain rfl : wy = w1 := hwy
  rw [show findO key none = 0 from rfl]
  have HSZ := Lib.hid (show x4 + 2 ≤ wy.heap.size by rw [HXX.out.2.2]; omega)
  go_wp2_with fail
  refine (len_any none v wy (H.out.1.below HB.out)).mono ?_
  rintro e wz ⟨rfl, hwz⟩
  obtain rfl : wz = wy := hwz
  rw [show manyO none = 0 from rfl]
  have d0 := HX8.out.cellD 0 _ rfl
  have d1 := HX8.out.cellD 1 _ rfl
  go_wp2_with (refine wpList_store_blk rfl 41 (.tmp 4) _ rfl x4 [.slice none 0 0, .slice none 0 0] rfl rfl 41 _ HX4.out (by kernel_rfl) rfl (by intro u hu; simp only [List.mem_cons, List.not_mem_nil, or_false] at hu; rcases hu with rfl | rfl; exact HL.out.one; exact HR.out.one) ?_; intro w9 hz hg)
  refine bodyPost_ret (results_blk2 rfl _ _ x4 41 [.slice none 0 0, .slice none 0 0] _ rfl hz Tryd.underlying41 rfl (by kernel_rfl)) rfl ⟨_, _, rfl, ?_, ?_, ?_⟩
  · rw [← HXX.out.1]; exact HL.out.store hg (by omega)
  · rw [← HXX.out.1]; exact HR.out.store hg (by omega)
  · exact HB.out.grown hg HB.out.size (fun q e => by injection e with e; have := HXX.out.1; omega)
end Go.Proofs.YtdekealpachhmaaDoor
