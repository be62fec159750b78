/- Law 7: what AvlPaths asks: the walk. -/
import Derived.Test.YtdekealpachhmaaDoorGrown
import Derived.Test.YtdekealpachhmaaDoorEqH
namespace Go.Isth
open Go Go.Op
def manyS (l : List StepV) : Nat := (l.map StepV.many).sum
theorem up_count : ∀ (l : List StepV) (x : List UInt8 × Nat × Nat), (l.foldl upStep x).2.1 = x.2.1 + manyS l ∧ (l.foldl upStep x).2.2 ≤ x.2.2 + manyS l
  | [], x => ⟨rfl, Nat.le_refl _⟩
  | s :: l, x => by
    have h := up_count l (upStep x s)
    have e1 : (upStep x s).2.1 = x.2.1 + s.many := by unfold upStep; split <;> rfl
    have e2 : (upStep x s).2.2 ≤ x.2.2 + s.many := by unfold upStep; split <;> simp
    have e3 : manyS (s :: l) = s.many + manyS l := by simp [manyS]
    rw [List.foldl_cons, e3]
    omega
theorem manyS_take : ∀ (l : List StepV) (k : Nat) (s : StepV), l[k]? = some s → manyS (l.take k) + s.many ≤ manyS l
  | [], k, s, h => by simp at h
  | x :: l, 0, s, h => by
    simp only [List.getElem?_cons_zero, Option.some.injEq] at h
    subst h
    simp [manyS]
  | x :: l, k + 1, s, h => by
    simp only [List.getElem?_cons_succ] at h
    have := manyS_take l k s h
    simp only [List.take_succ_cons, manyS, List.map_cons, List.sum_cons] at *
    omega
theorem path_other : ∀ (t : Av) (i : Nat), ∀ s ∈ t.path i, s.other.length = 32
  | .leaf _ _, _, s, h => by cases h
  | .node a b, i, s, h => by
    rw [Av.path] at h
    split at h
    · rcases List.mem_append.1 h with h | h
      · exact path_other a i s h
      · obtain rfl := List.mem_singleton.1 h; exact b.sum_length
    · rcases List.mem_append.1 h with h | h
      · exact path_other b _ s h
      · obtain rfl := List.mem_singleton.1 h; exact a.sum_length
theorem upStep_length (x : List UInt8 × Nat × Nat) (s : StepV) : (upStep x s).1.length = 32 := by
  unfold upStep
  split <;> exact avNode_length _ _ _ _
/-- No key and no value is longer. -/
def SmallO (t : Option Av) : Prop := ∀ p ∈ pairsO t, p.1.length ≤ 2000000 ∧ p.2.length ≤ 2000000
end Go.Isth
namespace Go.Proofs.YtdekealpachhmaaDoor
open Go Go.RowKit Go.Isth

theorem small_step {t : Option Av} (a : ActV) (hg : Isth.Good t) (h : SmallO t) (ha : a.key.length ≤ 2000000 ∧ a.val.length ≤ 2000000) : SmallO (stepA t a) := by
  unfold stepA
  split
  · cases t with
    | none => exact h
    | some t =>
      intro p hp
      simp only [dropO] at hp
      cases hq : t.get a.key with
      | none => rw [hq] at hp; exact h p hp
      | some v =>
        rw [hq] at hp
        exact h p ((drop_pairs_mem t a.key hg.2 (by rw [hq]; simp)).2 p |>.1 hp).1
  · cases t with
    | none =>
      intro p hp
      obtain rfl : p = (a.key, a.val) := by simpa [pairsO, setO, Av.pairs] using hp
      exact ha
    | some t =>
      intro p hp
      rcases ((set_pairs_mem t a.key a.val hg.2).2 p).1 hp with rfl | ⟨hp, _⟩
      · exact ha
      · exact h p hp
theorem small_fold : ∀ (l : List ActV) (t : Option Av), Isth.Good t → SmallO t → (∀ a ∈ l, a.key.length ≤ 2000000 ∧ a.val.length ≤ 2000000) → SmallO (l.foldl stepA t)
  | [], t, _, h, _ => h
  | a :: l, t, hg, h, hl => small_fold l (stepA t a) (good_step a hg) (small_step a hg h (hl a (by simp))) (fun x hx => hl x (by simp [hx]))
theorem grown_facts (l : List ActV) (hl : ∀ a ∈ l, a.key.length ≤ 2000000 ∧ a.val.length ≤ 2000000) : Isth.Good (grownA l) ∧ manyO (grownA l) ≤ 60 ∧ SmallO (grownA l) := by
  have h := good_fold (l.take 60) none trivial
  have h3 := List.length_take_le 60 l
  have h0 : manyO (none : Option Av) = 0 := rfl
  refine ⟨h.1, by have := h.2; unfold grownA; omega, ?_⟩
  exact small_fold (l.take 60) none trivial (fun p hp => by cases hp) (fun a ha => hl a (List.mem_of_mem_take ha))
theorem umod_n7 (i : Int) (n : Nat) (h0 : 0 < n) (h : n ≤ 4611686018427387903) : ∃ k : Nat, k < n ∧ IntKind.u64.wrap (n : Int) = (n : Int) ∧ ((n : Int) == 0) = false ∧ wrap64 ((IntKind.u64.wrap i).tmod (n : Int)) = (k : Int) ∧ IntKind.i64.wrap ((IntKind.u64.wrap i).tmod (n : Int)) = (k : Int) := by
  obtain ⟨k, hk, e⟩ := umod i (n : Int) (by omega) (by omega)
  refine ⟨k, by omega, ?_, ?_, e, ?_⟩
  · simp only [IntKind.wrap, IntKind.bits, IntKind.signed, Bool.false_and, Bool.false_eq_true, if_false]; omega
  · simp; omega
  · rw [IntKind.wrap_i64, ← e, wrap64]
theorem aHash7 : ArrB Tryd.prog 46 5 32 := ⟨Tryd.underlying46, Tryd.underlying5, by kernel_rfl, by kernel_rfl, by kernel_rfl⟩
theorem ld_hash {w : World} {x : Nat} {cs : List Value} (h : Blk w x 46 cs) (hl : cs.length = 32) : (loadVar 46 ⟨x, 0, none⟩).run Tryd.prog w = .ok (.agg cs.toArray) w :=
  run_load_agg (P := Tryd.prog) Tryd.underlying46 rfl (by kernel_rfl) w ⟨x, 0, none⟩ cs hl (fun j u hj => by rw [add_plain, Nat.zero_add]; exact h.cellD j u hj)
theorem stepsC_at : ∀ (l : List StepV) (k : Nat) (s : StepV), (∀ x ∈ l, x.other.length = 32) → l[k]? = some s → ∀ j u, (stepC s)[j]? = some u → (stepsC l)[k * 34 + j]? = some u
  | [], k, s, _, h => by simp at h
  | x :: l, 0, s, hl, h => by
    simp only [List.getElem?_cons_zero, Option.some.injEq] at h
    subst h
    intro j u hu
    have e : stepsC (x :: l) = stepC x ++ stepsC l := rfl
    rw [e, Nat.zero_mul, Nat.zero_add, List.getElem?_append_left (List.getElem?_eq_some_iff.1 hu).1]
    exact hu
  | x :: l, k + 1, s, hl, h => by
    simp only [List.getElem?_cons_succ] at h
    intro j u hu
    have := stepsC_at l k s (fun y hy => hl y (by simp [hy])) h j u hu
    have e : stepsC (x :: l) = stepC x ++ stepsC l := rfl
    have e1 := stepC_len (hl x (by simp))
    rw [e, List.getElem?_append_right (by rw [e1]; omega), e1, show (k + 1) * 34 + j - 34 = k * 34 + j by omega]
    exact this
theorem take_nextS {l : List StepV} {k : Nat} {a : StepV} (h : l[k]? = some a) : l.take (k + 1) = l.take k ++ [a] := by
  rw [List.take_add_one, h]
  rfl
theorem fold_length : ∀ {x : List UInt8 × Nat × Nat} (l : List StepV), x.1.length = 32 → (l.foldl upStep x).1.length = 32
  | _, [], h => h
  | x, s :: l, _ => fold_length (x := upStep x s) l (upStep_length x s)
def PathsInv (w : World) (xh xp : Nat) (pk : Str) (leaf : List UInt8) (t : Av) (g : Nat) (A : Option Addr) (sl : List StepV) (v13 v14 v15 : Value) (wr : World) : Prop :=
  ∃ (k m p : Nat) (hh : List UInt8), v13 = .int .i64 (m : Nat) ∧ v14 = .int .i64 (p : Nat) ∧ v15 = .int .i64 (k : Nat) ∧ k ≤ sl.length ∧ (sl.take k).foldl upStep (leaf, 1, 0) = (hh, m, p) ∧ Blk wr xh 46 (hh.map B) ∧ TreeAt wr t g ∧ Rd wr A (stepsC sl) ∧ wr.cell? ⟨xp, 0, none⟩ = some (S8 pk) ∧ Below w.heap.size w wr
set_option maxRecDepth 100000 in
set_option maxHeartbeats 8000000 in
theorem paths_any (A : Option Addr) (c : Nat) (l : List ActV) (at_ : Int) (w : World) (hc : l.length ≤ c) (hr : Rd w A (l.flatMap actC)) (hl : ∀ a ∈ l, a.key.length ≤ 2000000 ∧ a.val.length ≤ 2000000) (hn : l.length ≤ 4611686018427387904) (ht : TabLaid w) :
    Calls Tryd.prog 5 #[.slice A l.length c, .int .i64 at_] w fun e w' => e = .returned (.bool true) ∧ Below w.heap.size w w' := by
  obtain ⟨hgood, hmany, hsmall⟩ := grown_facts l hl
  have HA := Lib.hid (And.intro hc (And.intro hr (And.intro hl (And.intro hn ht))))
  clear hc hr hl hn ht
  go_enter Tryd.func5, Tryd.ntmps5
  go_wp2_with fail
  refine (grown07_any A c l w HA.out.1 HA.out.2.1 HA.out.2.2.1 HA.out.2.2.2.1 HA.out.2.2.2.2).mono ?_
  rintro e w1 ⟨v, cs, rfl, htr, hro, hb⟩
  have HLC := Lib.hid (And.intro hro.len hro.one)
  have HW := Lib.hid hb
  have HTR := Lib.hid htr
  clear hro hb htr
  go_wp2_with (refine wpList_store_blk rfl 26 (.tmp 6) (.tmp 20) rfl w1.heap.size cs rfl rfl 26 emptyC (heap_alloc_new w1 _) (by rw [HLC.out.1]; kernel_rfl) (by rw [HLC.out.1]; rfl) HLC.out.2 ?_; intro w2 hz hg
               have hb2 : Below w1.heap.size w1 w2 := ((Below.refl w1.heap.size w1).alloc (Nat.le_refl _) _).grown hg (by simp) (fun q e => by injection e with e; omega)
               have HW := Lib.hid (below_then HW.out HW.out.size hb2)
               have HTR := Lib.hid (HTR.out.below hb2)
               clear hz hg hb2)
  refine (len_any (grownA l) v _ HTR.out).mono ?_
  rintro e w3 ⟨rfl, rfl⟩
  rcases hta : grownA l with _ | t
  · rw [show manyO (none : Option Av) = 0 from rfl]
    have h0 : (((0 : Nat) : Int) == 0) = true := rfl
    clear hta hgood hmany hsmall
    go_wp2_with fail
    refine (sure07_any _ (HA.out.2.2.2.2.below HW.out HA.out.2.2.2.2.lt)).mono ?_
    rintro e w4 ⟨rfl, hb⟩
    have HW := Lib.hid (below_then HW.out HW.out.size hb)
    clear hb
    go_wp2
    go_ret
    exact ⟨rfl, HW.out⟩
  · obtain ⟨g, rfl, hT⟩ := treeO_some HTR.out hta
    rw [hta] at hgood hmany hsmall
    obtain ⟨n, hn⟩ : ∃ n, t.many = n := ⟨_, rfl⟩
    have hn0 : 0 < n := by rw [← hn]; exact t.many_pos
    have hn60 : n ≤ 60 := by rw [← hn]; exact hmany
    obtain ⟨i, hi, hu1, hu2, hu3, hu4⟩ := umod_n7 at_ n hn0 (by omega)
    rw [show manyO (some t) = n from hn]
    obtain ⟨pk, pv, hpp⟩ : ∃ a b, t.at_ i = (a, b) := ⟨_, _, rfl⟩
    have hsm := hsmall (pk, pv) (by rw [← hpp]; exact List.mem_of_getElem? (t.at_pairs i (by omega)))
    have HTT := Lib.hid (And.intro hgood (And.intro hsm (And.intro hn (And.intro hi (And.intro hn60 hpp)))))
    have HTX := Lib.hid hT
    have ht9 : t.many ≤ 900000 := by omega
    have HT9 := Lib.hid (And.intro ht9 (show i < t.many by omega))
    clear hgood hmany hsmall hsm hT hpp hta HTR ht9 hn
    go_wp2_with fail
    refine (len_any (some t) (Ptr g) _ ⟨g, rfl, HTX.out⟩).mono ?_
    rintro e w4 ⟨rfl, rfl⟩
    rw [show manyO (some t) = n from HTT.out.2.2.1]
    go_wp2_with fail
    refine (at_any t g i _ HTX.out HT9.out.2 HT9.out.1).mono ?_
    rintro e w5 ⟨rfl, hb⟩
    rw [HTT.out.2.2.2.2.2, show (pairC (pk, pv)).toArray = #[S8 pk, S8 pv] from rfl]
    have HW := Lib.hid (below_then HW.out HW.out.size hb)
    have HTX := Lib.hid (HTX.out.below hb)
    clear hb hu1 hu2 hu3 hu4
    go_wp2_with fail
    obtain ⟨w6, hw6⟩ : ∃ w6, w6 = w5.alloc (.cells #[S8 pk, S8 pv] 38) := ⟨_, rfl⟩
    obtain ⟨xp, hxp⟩ : ∃ n, n = w5.heap.size := ⟨_, rfl⟩
    have b6 : Below w5.heap.size w5 w6 := by rw [hw6]; exact (Below.refl _ _).alloc (Nat.le_refl _) _
    have z6 : Blk w6 xp 38 [S8 pk, S8 pv] := by rw [hw6, hxp]; exact Blk_new w5 [S8 pk, S8 pv] 38
    rw [← hw6, ← hxp]
    have HP6 := Lib.hid (And.intro z6 (And.intro (show xp < w6.heap.size from z6.lt) (show w.heap.size ≤ xp by rw [hxp]; exact HW.out.size)))
    have HW := Lib.hid (below_then HW.out HW.out.size b6)
    have HTX := Lib.hid (HTX.out.below b6)
    clear hw6 hxp b6 z6
    refine (path_any t g i _ HTX.out HT9.out.2 HT9.out.1).mono ?_
    rintro e w7 ⟨vp, rfl, ho, hb⟩
    obtain ⟨A', c', rfl, hc', hrd, _, hbl⟩ := own_slice ho
    obtain ⟨sl, hsl⟩ : ∃ sl, sl = t.path i := ⟨_, rfl⟩
    rw [← hsl] at hc' hrd
    obtain ⟨n', hn'⟩ : ∃ n', sl.length = n' := ⟨_, rfl⟩
    rw [← hsl, hn']
    have hn9 : n' ≤ 60 := by have h1 := path_len_le t i; rw [← hsl, hn'] at h1; have h2 := HTT.out.2.2.1; omega
    have HSL := Lib.hid (And.intro hsl (And.intro hn' (And.intro hc' hbl)))
    have HR := Lib.hid hrd
    have c0 := cell_below (HP6.out.1.cellD 0 _ rfl) hb
    have c1 := cell_below (HP6.out.1.cellD 1 _ rfl) hb
    have HC0 := Lib.hid c0
    have HXP := Lib.hid (And.intro (Nat.lt_of_lt_of_le HP6.out.2.1 hb.size) HP6.out.2.2)
    have HW := Lib.hid (below_then HW.out HW.out.size hb)
    have HTX := Lib.hid (HTX.out.below hb)
    clear ho hb hc' hrd hbl hsl
    go_wp2_with fail
    clear c0 c1
    obtain ⟨csl, hcsl⟩ : ∃ cs, cs = (avLeaf pk pv).map B := ⟨_, rfl⟩
    have HCL := Lib.hid (And.intro hcsl (And.intro (show csl.length = 32 by rw [hcsl, List.length_map, avLeaf_length]) (show ∀ u ∈ csl, u.oneCell' = true by rw [hcsl]; exact one_bytes)))
    clear hcsl
    refine (avleaf_any pk pv _ _ csl _ rfl rfl HCL.out.1 HTT.out.2.1.1 HTT.out.2.1.2 (HA.out.2.2.2.2.below HW.out HA.out.2.2.2.2.lt)).mono ?_
    rintro e w8 ⟨rfl, hb⟩
    have HC0 := Lib.hid (cell_below HC0.out hb)
    have HXP := Lib.hid (And.intro (Nat.lt_of_lt_of_le HXP.out.1 hb.size) HXP.out.2)
    have HSL := Lib.hid (And.intro HSL.out.1 (And.intro HSL.out.2.1 (And.intro HSL.out.2.2.1 (show ∀ ad, A' = some ad → ad.block < w8.heap.size from fun ad e => Nat.lt_of_lt_of_le (HSL.out.2.2.2 ad e).2 hb.size))))
    have HR := Lib.hid (HR.out.below hb)
    have HW := Lib.hid (below_then HW.out HW.out.size hb)
    have HTX := Lib.hid (HTX.out.below hb)
    clear hb
    obtain ⟨xh, hxh⟩ : ∃ n, n = w8.heap.size := ⟨_, rfl⟩
    go_wp2_with (refine wpList_store_blk rfl 46 (.tmp 12) (.tmp 54) rfl w8.heap.size csl rfl rfl 46 (List.replicate 32 (B 0)) (heap_alloc_new w8 _) (by rw [HCL.out.2.1]; kernel_rfl) (by rw [HCL.out.2.1]; rfl) HCL.out.2.2 ?_; intro w9 hz hg
                 have hb9 : Below w8.heap.size w8 w9 := ((Below.refl w8.heap.size w8).alloc (Nat.le_refl _) _).grown hg (by simp) (fun q e => by injection e with e; omega)
                 have HX := Lib.hid hz
                 have HI := Lib.hid (And.intro (HTX.out.below hb9) (And.intro (HR.out.below hb9) (cell_below HC0.out hb9)))
                 have HW := Lib.hid (below_then HW.out HW.out.size hb9)
                 clear hz hg hb9)
    rw [← hxh] at HX ⊢
    have HXH := Lib.hid (And.intro (show w.heap.size ≤ xh by rw [hxh]; have := HXP.out; omega) (And.intro (show ∀ ad, A' = some ad → some xh ≠ some ad.block from fun ad e e' => by have := HSL.out.2.2.2 ad e; injection e' with e'; omega) (show some xh ≠ some xp from fun e => by have := HXP.out.1; injection e with e; omega)))
    have HAB := Lib.hid (show (∀ ad, A' = some ad → ad.block ≠ xh) ∧ xp ≠ xh from ⟨fun ad e e' => HXH.out.2.1 ad e (by rw [e']), fun e => HXH.out.2.2 (by rw [e])⟩)
    clear HTX HR HC0 hxh
    go_loopw [13, 14, 15] (fun v13 v14 v15 wr => PathsInv w xh xp pk (avLeaf pk pv) t g A' sl v13 v14 v15 wr) (fun _ _ v15 _ => n' - (intOf v15).toNat)
    case atStart => exact ⟨0, 1, 0, avLeaf pk pv, rfl, rfl, rfl, Nat.zero_le _, rfl, by rw [← HCL.out.1]; exact HX.out, HI.out.1, HI.out.2.1, HI.out.2.2, HW.out⟩
    case round =>
      obtain ⟨k, m, p, hh, rfl, rfl, rfl, hk, hfo, hx, hT, hrd, hcp, hW⟩ := hrel
      have hh32 : hh.length = 32 := by
        have h := congrArg (fun x => x.1.length) hfo
        simp only at h
        rw [← h]
        exact fold_length (x := (avLeaf pk pv, 1, 0)) _ (avLeaf_length pk pv)
      obtain ⟨csh, hcsh⟩ : ∃ cs, cs = hh.map B := ⟨_, rfl⟩
      rw [← hcsh] at hx
      have HCH := Lib.hid (And.intro (And.intro hcsh hh32) (show csh.length = 32 by rw [hcsh, List.length_map]; exact hh32))
      have HX := Lib.hid hx
      have HI := Lib.hid (And.intro hT (And.intro hrd hcp))
      have HW := Lib.hid hW
      have HFO := Lib.hid hfo
      have HT := Lib.hid (HA.out.2.2.2.2.below hW HA.out.2.2.2.2.lt)
      have hup := path_up t i HT9.out.2
      rw [← HSL.out.1, HTT.out.2.2.2.2.2] at hup
      rw [HSL.out.2.1] at hk
      by_cases hks' : k < n'
      · obtain ⟨s, hs⟩ : ∃ s, sl[k]? = some s := ⟨_, List.getElem?_eq_getElem (by rw [HSL.out.2.1]; exact hks')⟩
        have hso32 := path_other t i s (by rw [← HSL.out.1]; exact List.mem_of_getElem? hs)
        have hc1 := up_count sl (avLeaf pk pv, 1, 0)
        have hc2 := up_count (sl.take k) (avLeaf pk pv, 1, 0)
        have hc3 := manyS_take sl k s hs
        rw [show ((avLeaf pk pv, 1, 0) : List UInt8 × Nat × Nat) = (avLeaf (pk, pv).1 (pk, pv).2, 1, 0) from rfl, hup] at hc1
        rw [hfo] at hc2
        simp only at hc1 hc2
        have hmn := HTT.out.2.2.1
        have hms : m + s.many ≤ 60 := by omega
        have hps : p + s.many ≤ 60 := by omega
        clear hc1 hc2 hc3 hmn
        obtain ⟨sm, hsm⟩ : ∃ n, s.many = n := ⟨_, rfl⟩
        obtain ⟨so, hso⟩ : ∃ n, s.other = n := ⟨_, rfl⟩
        rw [hsm] at hms hps
        rw [hso] at hso32
        obtain ⟨cso, hcso⟩ : ∃ cs, cs = so.map B := ⟨_, rfl⟩
        obtain ⟨b, o, rfl, hcl⟩ := hrd (by have h := stepsC_at sl k s (fun x hx => path_other t i x (by rw [← HSL.out.1]; exact hx)) hs 0 _ rfl; have := (List.getElem?_eq_some_iff.1 h).1; omega)
        have hat := fun j u hu => hcl _ u (stepsC_at sl k s (fun x hx => path_other t i x (by rw [← HSL.out.1]; exact hx)) hs j u hu)
        have e0 := hat 0 _ rfl
        have e1 := hat 1 _ rfl
        have e2 : wr.rangeAt b (o + k * 34 + 2) cso := fun j u hu => by
          have h := hat (2 + j) u (by rw [hcso, ← hso] at hu; show (.bool s.second :: .int .i64 (s.many : Nat) :: s.other.map B)[2 + j]? = some u; rw [Nat.add_comm]; exact hu)
          rw [← Nat.add_assoc, ← Nat.add_assoc] at h
          exact h
        rw [Nat.add_zero] at e0
        rw [← Nat.add_assoc, hsm] at e1
        have hbx : b ≠ xh := HAB.out.1 _ rfl
        have HTS : Hid (∀ w', Off wr xh w' → w'.cell? ⟨b, o + k * 34 + 1, none⟩ = some (.int .i64 (sm : Nat)) ∧ w'.rangeAt b (o + k * 34 + 2) cso) := Lib.hid fun w' h => ⟨cell_off e1 h hbx, range_off e2 h hbx⟩
        have HCO := Lib.hid (And.intro hcso (And.intro hso32 (show cso.length = 32 by rw [hcso, List.length_map]; exact hso32)))
        have ico : (Tryd.prog.info? 46).map (·.size) = some cso.length := by rw [HCO.out.2.2]; kernel_rfl
        have u46 := Tryd.underlying46
        have HB : Hid (Below wr.heap.size wr (wr.drewN 1)) := Lib.hid (refl_drewN wr 1)
        have HSB := Lib.hid (And.intro hms hps)
        have HSK := Lib.hid hs
        have hks : k + 1 ≤ sl.length := by rw [HSL.out.2.1]; exact hks'
        have hk1 : (k : Int) < (n' : Int) := by omega
        clear hk hfo hx hT hrd hcp hW hup hs hso32 hcl hat hbx hcso hcsh hh32
        rcases hse : s.second with _ | _
        · rw [hse] at e0
          have hup : upStep (hh, m, p) s = (avNode m hh sm so, m + sm, p) := by unfold upStep; rw [if_neg (by rw [hse]; simp)]; simp only [hsm, hso]
          have HUP := Lib.hid hup
          obtain ⟨csn, hcsn⟩ : ∃ cs, cs = (avNode m hh sm so).map B := ⟨_, rfl⟩
          have hnl : csn.length = 32 := by rw [hcsn, List.length_map, avNode_length]
          have HCN := Lib.hid (And.intro hcsn (And.intro hnl (show ∀ u ∈ csn, u.oneCell' = true by rw [hcsn]; exact one_bytes)))
          clear hup hcsn hnl hse hsm hso
          go_wp2_with fail
          clear e0 e1 e2
          refine wp_region_held_drew (S := (fun w' => w'.cell? ⟨b, o + k * 34 + 1, none⟩ = some (.int .i64 (sm : Nat)) ∧ w'.rangeAt b (o + k * 34 + 2) cso)) (by kernel_rfl) ?rs0 (fun hHeld => ?_)
          case rs0 => exact HTS.out _ (off_below HB.out)
          refine held_take (i := 0) (v := ?r1v) rfl (by kernel_rfl) (by kernel_rfl) (by kernel_rfl) (fun _ _ _ h => h) (by rfl) ?r1y hHeld ?_
          case r1y => ((intro w _hSw; (try dsimp only at _hSw); go_simp); try (with_reducible rfl))
          try simp only [Act.put, List.setIfInBounds_toArray, List.set_cons_zero, List.set_cons_succ]
          refine held_take (i := 2) (v := ?r2v) rfl (by kernel_rfl) (by kernel_rfl) (by kernel_rfl) (fun _ _ _ h => h) (by rfl) ?r2y hHeld ?_
          case r2y => ((intro w _hSw; (try dsimp only at _hSw); go_simp); try (with_reducible rfl))
          try simp only [Act.put, List.setIfInBounds_toArray, List.set_cons_zero, List.set_cons_succ]
          refine held_take (i := 3) (v := ?r3v) rfl (by kernel_rfl) (by kernel_rfl) (by kernel_rfl) (fun _ _ _ h => h) (by rfl) ?r3y hHeld ?_
          case r3y => ((intro w _hSw; (try dsimp only at _hSw); go_simp); try (with_reducible rfl))
          try simp only [Act.put, List.setIfInBounds_toArray, List.set_cons_zero, List.set_cons_succ]
          refine held_take (i := 4) (v := ?r4v) rfl (by kernel_rfl) (by kernel_rfl) (by kernel_rfl) (fun _ _ _ h => h) (by rfl) ?r4y hHeld ?_
          case r4y => ((intro w _hSw; (try dsimp only at _hSw); go_simp); try (with_reducible rfl))
          try simp only [Act.put, List.setIfInBounds_toArray, List.set_cons_zero, List.set_cons_succ]
          refine held_take (i := 5) (v := ?r5v) rfl (by kernel_rfl) (by kernel_rfl) (by kernel_rfl) (fun _ _ _ h => h) (by rfl) ?r5y hHeld ?_
          case r5y => ((intro w _hSw; (try dsimp only at _hSw); go_simp); try (with_reducible rfl))
          try simp only [Act.put, List.setIfInBounds_toArray, List.set_cons_zero, List.set_cons_succ]
          refine held_take (i := 6) (v := ?r6v) rfl (by kernel_rfl) (by kernel_rfl) (by kernel_rfl) (fun _ _ _ h => h) (by rfl) ?r6y hHeld ?_
          case r6y => ((intro w _hSw; (try dsimp only at _hSw); go_simp); try (with_reducible rfl))
          try simp only [Act.put, List.setIfInBounds_toArray, List.set_cons_zero, List.set_cons_succ]
          refine held_take (i := 7) (v := ?r7v) rfl (by kernel_rfl) (by kernel_rfl) (by kernel_rfl) (fun _ _ _ h => h) (by rfl) ?r7y hHeld ?_
          case r7y => ((intro w _hSw; (try dsimp only at _hSw); go_simp); try (with_reducible rfl))
          try simp only [Act.put, List.setIfInBounds_toArray, List.set_cons_zero, List.set_cons_succ]
          refine held_take (i := 8) (v := ?r8v) rfl (by kernel_rfl) (by kernel_rfl) (by kernel_rfl) (fun _ _ _ h => h) (by rfl) ?r8y hHeld ?_
          case r8y => ((intro w _hSw; (try dsimp only at _hSw); go_simp); try (with_reducible rfl))
          try simp only [Act.put, List.setIfInBounds_toArray, List.set_cons_zero, List.set_cons_succ]
          refine held_take (i := 9) (v := ?r9v) rfl (by kernel_rfl) (by kernel_rfl) (by kernel_rfl) (fun _ _ _ h => h) (by rfl) ?r9y hHeld ?_
          case r9y => ((intro w _hSw; (try dsimp only at _hSw); go_simp); try (with_reducible rfl))
          try simp only [Act.put, List.setIfInBounds_toArray, List.set_cons_zero, List.set_cons_succ]
          refine held_take (i := 10) (v := ?r10v) rfl (by kernel_rfl) (by kernel_rfl) (by kernel_rfl) (fun _ _ _ h => h) (by rfl) ?r10y hHeld ?_
          case r10y => ((intro w _hSw; (try dsimp only at _hSw); go_simp); try (with_reducible rfl))
          try simp only [Act.put, List.setIfInBounds_toArray, List.set_cons_zero, List.set_cons_succ]
          refine held_row (i := 11) rfl (by kernel_rfl) (by kernel_rfl) (by kernel_rfl) _ _ rfl _ _ rfl ?r11C ?r11D (fun _ _ _ h => h) (by rfl) ?r11a ?r11b ?r11c ?r11d hHeld ?_
          case r11a => (intro w hSw; (try dsimp only at hSw); go_split_ands; assumption)
          case r11b => assumption
          case r11c => rfl
          case r11d => first | assumption | (simp only [*]; done)
          try simp only [Act.put, List.setIfInBounds_toArray, List.set_cons_zero, List.set_cons_succ]
          refine held_step (i := 1) rfl (by kernel_rfl) (by rfl) (fun K hK => ?_)
          refine wp_ld (.tmp 12) rfl ⟨xh, 0, none⟩ (.agg csh.toArray) rfl (ld_hash (HX.out.below HB.out) HCH.out.2) ?_
          have hHeld := HTS.out _ (off_below HB.out)
          refine hK.out _ _ (HTS.out _ (off_below HB.out)) ?_
          clear hK K
          (try simp only [Act.put]); (try simp only [List.setIfInBounds_toArray]); (try simp only [List.set_cons_succ]); (try simp only [List.set_cons_zero])
          refine held_step (i := 12) rfl (by kernel_rfl) (by rfl) (fun K hK => ?_)
          go_simp
          refine (avnode_any m sm hh so csh cso csn _ HCH.out.1.2 HCO.out.2.1 HCH.out.1.1 HCO.out.1 HCN.out.1 (by have := HSB.out; omega) (by have := HSB.out; omega) (HT.out.below HB.out HT.out.lt)).mono ?_
          rintro e wc ⟨rfl, hb⟩
          have HB := Lib.hid (below_then HB.out HB.out.size hb)
          clear hb
          go_wp2_with fail
          have hHeld := HTS.out _ (off_below HB.out)
          refine hK.out _ _ (HTS.out _ (off_below HB.out)) ?_
          clear hK K
          try simp only [Act.put, List.setIfInBounds_toArray, List.set_cons_zero, List.set_cons_succ]
          refine held_step (i := 13) rfl (by kernel_rfl) (by rfl) (fun K hK => ?_)
          refine wp_store_blk 46 (.tmp 12) (.tmp 98) rfl xh csn rfl rfl 46 _ (HX.out.below HB.out) (by rw [HCN.out.2.1]; kernel_rfl) (by rw [HCH.out.2, HCN.out.2.1]) HCN.out.2.2 ?_
          intro w9 hz hg
          have H9 := Lib.hid (And.intro hz (And.intro ((below_then HW.out HW.out.size HB.out).grown hg (below_then HW.out HW.out.size HB.out).size (fun q e => by injection e with e; have := HXH.out.1; omega)) (And.intro (TreeAt.store (by decide) (HX.out.below HB.out) hg (HI.out.1.below HB.out)) (And.intro ((HI.out.2.1.below HB.out).grown hg (fun ad e => HXH.out.2.1 ad e)) (cell_grown (cell_below HI.out.2.2 HB.out) hg HXH.out.2.2)))))
          have HO9 := Lib.hid (off_store HB.out hg)
          clear hz hg
          have hHeld := HTS.out _ HO9.out
          refine hK.out _ _ (HTS.out _ HO9.out) ?_
          clear hK K
          (try simp only [Act.put]); (try simp only [List.setIfInBounds_toArray]); (try simp only [List.set_cons_succ]); (try simp only [List.set_cons_zero])
          refine wpAnyH_done (by kernel_rfl) ?_ _
          clear hHeld
          have e1 := (HTS.out _ HO9.out).1
          go_wp2
          refine ⟨⟨k + 1, m + sm, p, avNode m hh sm so, by simp, rfl, by simp, hks, ?_, (by have h := H9.out.1; rw [HCN.out.1] at h; exact h), H9.out.2.2.1, H9.out.2.2.2.1, H9.out.2.2.2.2, H9.out.2.1⟩, ?_⟩
          · rw [take_nextS HSK.out, List.foldl_append, HFO.out]
            exact HUP.out
          · show n' - Int.toNat ((k : Int) + 1) < n' - Int.toNat (k : Int)
            omega
        · rw [hse] at e0
          have hup : upStep (hh, m, p) s = (avNode sm so m hh, m + sm, p + sm) := by unfold upStep; rw [if_pos hse]; simp only [hsm, hso]
          have HUP := Lib.hid hup
          obtain ⟨csn, hcsn⟩ : ∃ cs, cs = (avNode sm so m hh).map B := ⟨_, rfl⟩
          have hnl : csn.length = 32 := by rw [hcsn, List.length_map, avNode_length]
          have HCN := Lib.hid (And.intro hcsn (And.intro hnl (show ∀ u ∈ csn, u.oneCell' = true by rw [hcsn]; exact one_bytes)))
          clear hup hcsn hnl hse hsm hso
          go_wp2_with fail
          clear e0 e1 e2
          refine wp_region_held_drew (S := (fun w' => w'.cell? ⟨b, o + k * 34 + 1, none⟩ = some (.int .i64 (sm : Nat)) ∧ w'.rangeAt b (o + k * 34 + 2) cso)) (by kernel_rfl) ?qs0 (fun hHeld => ?_)
          case qs0 => exact HTS.out _ (off_below HB.out)
          refine held_take (i := 0) (v := ?q1v) rfl (by kernel_rfl) (by kernel_rfl) (by kernel_rfl) (fun _ _ _ h => h) (by rfl) ?q1y hHeld ?_
          case q1y => ((intro w _hSw; (try dsimp only at _hSw); go_simp); try (with_reducible rfl))
          try simp only [Act.put, List.setIfInBounds_toArray, List.set_cons_zero, List.set_cons_succ]
          refine held_take (i := 1) (v := ?q2v) rfl (by kernel_rfl) (by kernel_rfl) (by kernel_rfl) (fun _ _ _ h => h) (by rfl) ?q2y hHeld ?_
          case q2y => ((intro w _hSw; (try dsimp only at _hSw); go_simp); try (with_reducible rfl))
          try simp only [Act.put, List.setIfInBounds_toArray, List.set_cons_zero, List.set_cons_succ]
          refine held_take (i := 2) (v := ?q3v) rfl (by kernel_rfl) (by kernel_rfl) (by kernel_rfl) (fun _ _ _ h => h) (by rfl) ?q3y hHeld ?_
          case q3y => ((intro w _hSw; (try dsimp only at _hSw); go_simp); try (with_reducible rfl))
          try simp only [Act.put, List.setIfInBounds_toArray, List.set_cons_zero, List.set_cons_succ]
          refine held_take (i := 3) (v := ?q4v) rfl (by kernel_rfl) (by kernel_rfl) (by kernel_rfl) (fun _ _ _ h => h) (by rfl) ?q4y hHeld ?_
          case q4y => ((intro w _hSw; (try dsimp only at _hSw); go_simp); try (with_reducible rfl))
          try simp only [Act.put, List.setIfInBounds_toArray, List.set_cons_zero, List.set_cons_succ]
          refine held_take (i := 4) (v := ?q5v) rfl (by kernel_rfl) (by kernel_rfl) (by kernel_rfl) (fun _ _ _ h => h) (by rfl) ?q5y hHeld ?_
          case q5y => ((intro w _hSw; (try dsimp only at _hSw); go_simp); try (with_reducible rfl))
          try simp only [Act.put, List.setIfInBounds_toArray, List.set_cons_zero, List.set_cons_succ]
          refine held_take (i := 5) (v := ?q6v) rfl (by kernel_rfl) (by kernel_rfl) (by kernel_rfl) (fun _ _ _ h => h) (by rfl) ?q6y hHeld ?_
          case q6y => ((intro w _hSw; (try dsimp only at _hSw); go_simp); try (with_reducible rfl))
          try simp only [Act.put, List.setIfInBounds_toArray, List.set_cons_zero, List.set_cons_succ]
          refine held_take (i := 6) (v := ?q7v) rfl (by kernel_rfl) (by kernel_rfl) (by kernel_rfl) (fun _ _ _ h => h) (by rfl) ?q7y hHeld ?_
          case q7y => ((intro w _hSw; (try dsimp only at _hSw); go_simp); try (with_reducible rfl))
          try simp only [Act.put, List.setIfInBounds_toArray, List.set_cons_zero, List.set_cons_succ]
          refine held_take (i := 7) (v := ?q8v) rfl (by kernel_rfl) (by kernel_rfl) (by kernel_rfl) (fun _ _ _ h => h) (by rfl) ?q8y hHeld ?_
          case q8y => ((intro w _hSw; (try dsimp only at _hSw); go_simp); try (with_reducible rfl))
          try simp only [Act.put, List.setIfInBounds_toArray, List.set_cons_zero, List.set_cons_succ]
          refine held_take (i := 8) (v := ?q9v) rfl (by kernel_rfl) (by kernel_rfl) (by kernel_rfl) (fun _ _ _ h => h) (by rfl) ?q9y hHeld ?_
          case q9y => ((intro w _hSw; (try dsimp only at _hSw); go_simp); try (with_reducible rfl))
          try simp only [Act.put, List.setIfInBounds_toArray, List.set_cons_zero, List.set_cons_succ]
          refine held_row (i := 9) rfl (by kernel_rfl) (by kernel_rfl) (by kernel_rfl) _ _ rfl _ _ rfl ?q10C ?q10D (fun _ _ _ h => h) (by rfl) ?q10a ?q10b ?q10c ?q10d hHeld ?_
          case q10a => (intro w hSw; (try dsimp only at hSw); go_split_ands; assumption)
          case q10b => assumption
          case q10c => rfl
          case q10d => first | assumption | (simp only [*]; done)
          try simp only [Act.put, List.setIfInBounds_toArray, List.set_cons_zero, List.set_cons_succ]
          refine held_take (i := 10) (v := ?q11v) rfl (by kernel_rfl) (by kernel_rfl) (by kernel_rfl) (fun _ _ _ h => h) (by rfl) ?q11y hHeld ?_
          case q11y => ((intro w _hSw; (try dsimp only at _hSw); go_simp); try (with_reducible rfl))
          try simp only [Act.put, List.setIfInBounds_toArray, List.set_cons_zero, List.set_cons_succ]
          refine held_step (i := 11) rfl (by kernel_rfl) (by rfl) (fun K hK => ?_)
          refine wp_ld (.tmp 12) rfl ⟨xh, 0, none⟩ (.agg csh.toArray) rfl (ld_hash (HX.out.below HB.out) HCH.out.2) ?_
          have hHeld := HTS.out _ (off_below HB.out)
          refine hK.out _ _ (HTS.out _ (off_below HB.out)) ?_
          clear hK K
          (try simp only [Act.put]); (try simp only [List.setIfInBounds_toArray]); (try simp only [List.set_cons_succ]); (try simp only [List.set_cons_zero])
          refine held_step (i := 12) rfl (by kernel_rfl) (by rfl) (fun K hK => ?_)
          go_simp
          refine (avnode_any sm m so hh cso csh csn _ HCO.out.2.1 HCH.out.1.2 HCO.out.1 HCH.out.1.1 HCN.out.1 (by have := HSB.out; omega) (by have := HSB.out; omega) (HT.out.below HB.out HT.out.lt)).mono ?_
          rintro e wc ⟨rfl, hb⟩
          have HB := Lib.hid (below_then HB.out HB.out.size hb)
          clear hb
          go_wp2_with fail
          have hHeld := HTS.out _ (off_below HB.out)
          refine hK.out _ _ (HTS.out _ (off_below HB.out)) ?_
          clear hK K
          try simp only [Act.put, List.setIfInBounds_toArray, List.set_cons_zero, List.set_cons_succ]
          refine held_step (i := 13) rfl (by kernel_rfl) (by rfl) (fun K hK => ?_)
          refine wp_store_blk 46 (.tmp 12) (.tmp 78) rfl xh csn rfl rfl 46 _ (HX.out.below HB.out) (by rw [HCN.out.2.1]; kernel_rfl) (by rw [HCH.out.2, HCN.out.2.1]) HCN.out.2.2 ?_
          intro w9 hz hg
          have H9 := Lib.hid (And.intro hz (And.intro ((below_then HW.out HW.out.size HB.out).grown hg (below_then HW.out HW.out.size HB.out).size (fun q e => by injection e with e; have := HXH.out.1; omega)) (And.intro (TreeAt.store (by decide) (HX.out.below HB.out) hg (HI.out.1.below HB.out)) (And.intro ((HI.out.2.1.below HB.out).grown hg (fun ad e => HXH.out.2.1 ad e)) (cell_grown (cell_below HI.out.2.2 HB.out) hg HXH.out.2.2)))))
          have HO9 := Lib.hid (off_store HB.out hg)
          clear hz hg
          have hHeld := HTS.out _ HO9.out
          refine hK.out _ _ (HTS.out _ HO9.out) ?_
          clear hK K
          (try simp only [Act.put]); (try simp only [List.setIfInBounds_toArray]); (try simp only [List.set_cons_succ]); (try simp only [List.set_cons_zero])
          refine wpAnyH_done (by kernel_rfl) ?_ _
          clear hHeld
          have e1 := (HTS.out _ HO9.out).1
          go_wp2
          refine ⟨⟨k + 1, m + sm, p + sm, avNode sm so m hh, by simp, by simp, by simp, hks, ?_, (by have h := H9.out.1; rw [HCN.out.1] at h; exact h), H9.out.2.2.1, H9.out.2.2.2.1, H9.out.2.2.2.2, H9.out.2.1⟩, ?_⟩
          · rw [take_nextS HSK.out, List.foldl_append, HFO.out]
            exact HUP.out
          · show n' - Int.toNat ((k : Int) + 1) < n' - Int.toNat (k : Int)
            omega
      · have hkn : k = n' := by omega
        have hfin := hfo
        rw [List.take_of_length_le (by rw [HSL.out.2.1]; omega)] at hfin
        rw [show ((avLeaf pk pv, 1, 0) : List UInt8 × Nat × Nat) = (avLeaf (pk, pv).1 (pk, pv).2, 1, 0) from rfl, hup] at hfin
        simp only [Prod.mk.injEq] at hfin
        obtain ⟨rfl, hm', rfl⟩ := hfin
        rw [HTT.out.2.2.1] at hm'
        subst hm'
        obtain ⟨csr, hcsr⟩ : ∃ csr, csr = csh := ⟨_, rfl⟩
        rw [← hcsr] at hx
        have hk1 : ¬ (k : Int) < (n' : Int) := by omega
        have HTR := Lib.hid (And.intro hT (And.intro (show csr = (rootO (some t)).map B by rw [hcsr]; exact hcsh) (And.intro HTT.out.2.2.1 (And.intro HTT.out.2.2.2.2.1 (show findO pk (some t) = i by have h := find_at t i HT9.out.2 HTT.out.1.2; rw [HTT.out.2.2.2.2.2] at h; exact h)))))
        have heq : ∀ wx, (binOp .eql 46 (.agg csr.toArray) (.agg csr.toArray)).run Tryd.prog wx = .ok (.bool true) wx := by
          intro wx
          have h := run_eql_bytes aHash7 wx t.sum t.sum t.sum_length t.sum_length
          rw [hcsr, hcsh]
          simpa using h
        have icr : (Tryd.prog.info? 46).map (·.size) = some csr.length := by rw [hcsr, HCH.out.2]; kernel_rfl
        have u46 := Tryd.underlying46
        have HTS : Hid (∀ w', Below wr.heap.size wr w' → w'.rangeAt xh 0 csr ∧ w'.cell? ⟨xp, 0, none⟩ = some (S8 pk)) := Lib.hid fun w' h => ⟨range_below (blk_range hx) h, cell_below hcp h⟩
        have HB : Hid (Below wr.heap.size wr (wr.drewN 1)) := Lib.hid (refl_drewN wr 1)
        clear hk hfo hx hT hrd hcp hW hup hcsh hcsr hh32
        go_wp2_with fail
        refine wp_region_held_drew (S := (fun w' => w'.rangeAt xh 0 csr ∧ w'.cell? ⟨xp, 0, none⟩ = some (S8 pk))) (by kernel_rfl) ?zs0 (fun hHeld => ?_)
        case zs0 => exact HTS.out _ HB.out
        refine held_row (i := 0) rfl (by kernel_rfl) (by kernel_rfl) (by kernel_rfl) _ _ rfl _ _ rfl ?z1C ?z1D (fun _ _ _ h => h) (by rfl) ?z1a ?z1b ?z1c ?z1d hHeld ?_
        case z1a => (intro w hSw; (try dsimp only at hSw); go_split_ands; assumption)
        case z1b => assumption
        case z1c => rfl
        case z1d => first | assumption | (simp only [*]; done)
        try simp only [Act.put, List.setIfInBounds_toArray, List.set_cons_zero, List.set_cons_succ]
        refine held_take (i := 1) (v := ?z2v) rfl (by kernel_rfl) (by kernel_rfl) (by kernel_rfl) (fun _ _ _ h => h) (by rfl) ?z2y hHeld ?_
        case z2y => ((intro w _hSw; (try dsimp only at _hSw); go_simp); try (with_reducible rfl))
        try simp only [Act.put, List.setIfInBounds_toArray, List.set_cons_zero, List.set_cons_succ]
        refine held_step (i := 2) rfl (by kernel_rfl) (by rfl) (fun K hK => ?_)
        go_simp
        refine (root_any (some t) (Ptr g) csr _ ⟨g, rfl, HTR.out.1.below HB.out⟩ HTR.out.2.1 (HT.out.below HB.out HT.out.lt)).mono ?_
        rintro e wc ⟨rfl, hb⟩
        have HB := Lib.hid (below_then HB.out HB.out.size hb)
        clear hb
        go_wp2_with fail
        have hHeld := HTS.out _ HB.out
        refine hK.out _ _ (HTS.out _ HB.out) ?_
        clear hK K
        try simp only [Act.put, List.setIfInBounds_toArray, List.set_cons_zero, List.set_cons_succ]
        refine held_take (i := 3) (v := ?z3v) rfl (by kernel_rfl) (by kernel_rfl) (by kernel_rfl) (fun _ _ _ h => h) (by rfl) ?z3y hHeld ?_
        case z3y => ((intro w _hSw; (try dsimp only at _hSw); go_simp); try (with_reducible rfl))
        try simp only [Act.put, List.setIfInBounds_toArray, List.set_cons_zero, List.set_cons_succ]
        refine held_take (i := 4) (v := ?z4v) rfl (by kernel_rfl) (by kernel_rfl) (by kernel_rfl) (fun _ _ _ h => h) (by rfl) ?z4y hHeld ?_
        case z4y => ((intro w _hSw; (try dsimp only at _hSw); go_simp); try (with_reducible rfl))
        try simp only [Act.put, List.setIfInBounds_toArray, List.set_cons_zero, List.set_cons_succ]
        refine held_take (i := 5) (v := ?z5v) rfl (by kernel_rfl) (by kernel_rfl) (by kernel_rfl) (fun _ _ _ h => h) (by rfl) ?z5y hHeld ?_
        case z5y => ((intro w _hSw; (try dsimp only at _hSw); go_simp); try (with_reducible rfl))
        try simp only [Act.put, List.setIfInBounds_toArray, List.set_cons_zero, List.set_cons_succ]
        refine held_take (i := 6) (v := ?z6v) rfl (by kernel_rfl) (by kernel_rfl) (by kernel_rfl) (fun _ _ _ h => h) (by rfl) ?z6y hHeld ?_
        case z6y => ((intro w _hSw; (try dsimp only at _hSw); go_simp); try (with_reducible rfl))
        try simp only [Act.put, List.setIfInBounds_toArray, List.set_cons_zero, List.set_cons_succ]
        refine held_step (i := 7) rfl (by kernel_rfl) (by rfl) (fun K hK => ?_)
        go_simp
        refine (len_any (some t) (Ptr g) _ ⟨g, rfl, HTR.out.1.below HB.out⟩).mono ?_
        rintro e wc ⟨rfl, rfl⟩
        rw [show manyO (some t) = n from HTR.out.2.2.1]
        go_wp2_with fail
        have hHeld := HTS.out _ HB.out
        refine hK.out _ _ (HTS.out _ HB.out) ?_
        clear hK K
        try simp only [Act.put, List.setIfInBounds_toArray, List.set_cons_zero, List.set_cons_succ]
        refine held_take (i := 8) (v := ?z7v) rfl (by kernel_rfl) (by kernel_rfl) (by kernel_rfl) (fun _ _ _ h => h) (by rfl) ?z7y hHeld ?_
        case z7y => ((intro w _hSw; (try dsimp only at _hSw); go_simp); try (with_reducible rfl))
        try simp only [Act.put, List.setIfInBounds_toArray, List.set_cons_zero, List.set_cons_succ]
        refine held_take (i := 9) (v := ?z8v) rfl (by kernel_rfl) (by kernel_rfl) (by kernel_rfl) (fun _ _ _ h => h) (by rfl) ?z8y hHeld ?_
        case z8y => ((intro w _hSw; (try dsimp only at _hSw); go_simp); try (with_reducible rfl))
        try simp only [Act.put, List.setIfInBounds_toArray, List.set_cons_zero, List.set_cons_succ]
        refine held_take (i := 10) (v := ?z9v) rfl (by kernel_rfl) (by kernel_rfl) (by kernel_rfl) (fun _ _ _ h => h) (by rfl) ?z9y hHeld ?_
        case z9y => ((intro w _hSw; (try dsimp only at _hSw); go_simp); try (with_reducible rfl))
        try simp only [Act.put, List.setIfInBounds_toArray, List.set_cons_zero, List.set_cons_succ]
        refine held_take (i := 11) (v := ?z10v) rfl (by kernel_rfl) (by kernel_rfl) (by kernel_rfl) (fun _ _ _ h => h) (by rfl) ?z10y hHeld ?_
        case z10y => ((intro w _hSw; (try dsimp only at _hSw); go_simp); try (with_reducible rfl))
        try simp only [Act.put, List.setIfInBounds_toArray, List.set_cons_zero, List.set_cons_succ]
        refine held_take (i := 12) (v := ?z11v) rfl (by kernel_rfl) (by kernel_rfl) (by kernel_rfl) (fun _ _ _ h => h) (by rfl) ?z11y hHeld ?_
        case z11y => ((intro w _hSw; (try dsimp only at _hSw); go_simp); try (with_reducible rfl))
        try simp only [Act.put, List.setIfInBounds_toArray, List.set_cons_zero, List.set_cons_succ]
        refine held_take (i := 13) (v := ?z12v) rfl (by kernel_rfl) (by kernel_rfl) (by kernel_rfl) (fun _ _ _ h => h) (by rfl) ?z12y hHeld ?_
        case z12y => ((intro w _hSw; (try dsimp only at _hSw); go_simp); try (with_reducible rfl))
        try simp only [Act.put, List.setIfInBounds_toArray, List.set_cons_zero, List.set_cons_succ]
        refine held_take (i := 14) (v := ?z13v) rfl (by kernel_rfl) (by kernel_rfl) (by kernel_rfl) (fun _ _ _ h => h) (by rfl) ?z13y hHeld ?_
        case z13y => ((intro w _hSw; (try dsimp only at _hSw); go_simp); try (with_reducible rfl))
        try simp only [Act.put, List.setIfInBounds_toArray, List.set_cons_zero, List.set_cons_succ]
        refine held_take (i := 15) (v := ?z14v) rfl (by kernel_rfl) (by kernel_rfl) (by kernel_rfl) (fun _ _ _ h => h) (by rfl) ?z14y hHeld ?_
        case z14y => ((intro w _hSw; (try dsimp only at _hSw); go_simp); try (with_reducible rfl))
        try simp only [Act.put, List.setIfInBounds_toArray, List.set_cons_zero, List.set_cons_succ]
        refine held_take (i := 16) (v := ?z15v) rfl (by kernel_rfl) (by kernel_rfl) (by kernel_rfl) (fun _ _ _ h => h) (by rfl) ?z15y hHeld ?_
        case z15y => ((intro w _hSw; (try dsimp only at _hSw); go_simp); try (with_reducible rfl))
        try simp only [Act.put, List.setIfInBounds_toArray, List.set_cons_zero, List.set_cons_succ]
        refine held_take (i := 17) (v := ?z16v) rfl (by kernel_rfl) (by kernel_rfl) (by kernel_rfl) (fun _ _ _ h => h) (by rfl) ?z16y hHeld ?_
        case z16y => ((intro w _hSw; (try dsimp only at _hSw); go_simp); try (with_reducible rfl))
        try simp only [Act.put, List.setIfInBounds_toArray, List.set_cons_zero, List.set_cons_succ]
        refine held_take (i := 18) (v := ?z17v) rfl (by kernel_rfl) (by kernel_rfl) (by kernel_rfl) (fun _ _ _ h => h) (by rfl) ?z17y hHeld ?_
        case z17y => ((intro w _hSw; (try dsimp only at _hSw); go_simp); try (with_reducible rfl))
        try simp only [Act.put, List.setIfInBounds_toArray, List.set_cons_zero, List.set_cons_succ]
        refine held_take (i := 20) (v := ?z18v) rfl (by kernel_rfl) (by kernel_rfl) (by kernel_rfl) (fun _ _ _ h => h) (by rfl) ?z18y hHeld ?_
        case z18y => ((intro w _hSw; (try dsimp only at _hSw); go_simp); try (with_reducible rfl))
        try simp only [Act.put, List.setIfInBounds_toArray, List.set_cons_zero, List.set_cons_succ]
        refine held_step (i := 19) rfl (by kernel_rfl) (by rfl) (fun K hK => ?_)
        go_simp
        refine (find_any (some t) (Ptr g) pk _ ⟨g, rfl, HTR.out.1.below HB.out⟩ (by rw [show manyO (some t) = n from HTR.out.2.2.1]; have := HTR.out.2.2.2.1; omega)).mono ?_
        rintro e wc ⟨rfl, rfl⟩
        rw [show findO pk (some t) = i from HTR.out.2.2.2.2]
        go_wp2_with fail
        have hHeld := HTS.out _ HB.out
        refine hK.out _ _ (HTS.out _ HB.out) ?_
        clear hK K
        try simp only [Act.put, List.setIfInBounds_toArray, List.set_cons_zero, List.set_cons_succ]
        refine held_take (i := 21) (v := ?z19v) rfl (by kernel_rfl) (by kernel_rfl) (by kernel_rfl) (fun _ _ _ h => h) (by rfl) ?z19y hHeld ?_
        case z19y => ((intro w _hSw; (try dsimp only at _hSw); go_simp); try (with_reducible rfl))
        try simp only [Act.put, List.setIfInBounds_toArray, List.set_cons_zero, List.set_cons_succ]
        refine held_take (i := 22) (v := ?z20v) rfl (by kernel_rfl) (by kernel_rfl) (by kernel_rfl) (fun _ _ _ h => h) (by rfl) ?z20y hHeld ?_
        case z20y => ((intro w _hSw; (try dsimp only at _hSw); go_simp); try (with_reducible rfl))
        try simp only [Act.put, List.setIfInBounds_toArray, List.set_cons_zero, List.set_cons_succ]
        refine held_take (i := 23) (v := ?z21v) rfl (by kernel_rfl) (by kernel_rfl) (by kernel_rfl) (fun _ _ _ h => h) (by rfl) ?z21y hHeld ?_
        case z21y => ((intro w _hSw; (try dsimp only at _hSw); go_simp); try (with_reducible rfl))
        try simp only [Act.put, List.setIfInBounds_toArray, List.set_cons_zero, List.set_cons_succ]
        refine held_step (i := 24) rfl (by kernel_rfl) (by rfl) (fun K hK => ?_)
        go_simp
        refine (sure07_any _ (HT.out.below HB.out HT.out.lt)).mono ?_
        rintro e wc ⟨rfl, hb⟩
        have HB := Lib.hid (below_then HB.out HB.out.size hb)
        clear hb
        go_wp2_with fail
        have hHeld := HTS.out _ HB.out
        refine hK.out _ _ (HTS.out _ HB.out) ?_
        clear hK K
        try simp only [Act.put, List.setIfInBounds_toArray, List.set_cons_zero, List.set_cons_succ]
        refine held_take (i := 25) (v := ?z22v) rfl (by kernel_rfl) (by kernel_rfl) (by kernel_rfl) (fun _ _ _ h => h) (by rfl) ?z22y hHeld ?_
        case z22y => ((intro w _hSw; (try dsimp only at _hSw); go_simp); try (with_reducible rfl))
        try simp only [Act.put, List.setIfInBounds_toArray, List.set_cons_zero, List.set_cons_succ]
        refine held_take (i := 26) (v := ?z23v) rfl (by kernel_rfl) (by kernel_rfl) (by kernel_rfl) (fun _ _ _ h => h) (by rfl) ?z23y hHeld ?_
        case z23y => ((intro w _hSw; (try dsimp only at _hSw); go_simp); try (with_reducible rfl))
        try simp only [Act.put, List.setIfInBounds_toArray, List.set_cons_zero, List.set_cons_succ]
        refine wpAnyH_done (by kernel_rfl) ?_ _
        go_wp2
        go_ret
        exact ⟨rfl, below_then HW.out HW.out.size HB.out⟩
end Go.Proofs.YtdekealpachhmaaDoor
