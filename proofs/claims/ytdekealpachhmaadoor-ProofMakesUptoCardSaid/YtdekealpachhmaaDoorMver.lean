/- A row stored into the middle of a block known whole. Over any program. Layer 8: show by its contract. Layer 8: Verify by its contract. Layer 8: one by its contract. Layer 8: VerifyNone where it answers that nothing is wrong. Layer 8: VerifyNone where the left proof's key is not below the asked one. -/
import Derived.Test.YtdekealpachhmaaDoorRow
import Derived.Test.YtdekealpachhmaaDoorTail
import Derived.Deep.MidRow
import Derived.Test.YtdekealpachhmaaDoorMprf

namespace Go.Isth
open Go Go.RowKit
theorem blk_setCells_mid {g : Nat} {t : TypeId} : ∀ (vs : List Value) (pre old post : List Value) (w : World), Blk w g t (pre ++ (old ++ post)) → old.length = vs.length → Blk (w.setCells g pre.length vs) g t (pre ++ (vs ++ post))
  | [], pre, old, post, w, h, hl => by rw [List.eq_nil_of_length_eq_zero hl] at h; exact h
  | v :: r, pre, [], post, w, h, hl => by simp at hl
  | v :: r, pre, x :: old, post, w, h, hl => by
    have h1 := h.set pre.length v
    rw [List.set_append_right _ _ (Nat.le_refl _), Nat.sub_self, List.cons_append, List.set_cons_zero, show pre ++ v :: (old ++ post) = (pre ++ [v]) ++ (old ++ post) by simp] at h1
    have h2 := blk_setCells_mid r (pre ++ [v]) old post _ h1 (by simpa using hl)
    rw [show (pre ++ [v]).length = pre.length + 1 by simp, show (pre ++ [v]) ++ (r ++ post) = pre ++ (v :: r ++ post) by simp] at h2
    exact h2
theorem wpList_store_in {P : Program} {w : World} {ops : Array Oper} {rest : List Oper} {o : Oper} {a : Act} {Q : Exit → Act → World → Prop} (hgd : o.guard = none) (ty : TypeId) (x y : Operand) (ho : o.op = .store ty x y)
    (g off : Nat) (cs pre old post : List Value) (hx : a.eval x = .pointer (some ⟨g, off, none⟩)) (hy : a.eval y = .agg cs.toArray) (hoff : pre.length = off)
    (t : TypeId) (hg : Blk w g t (pre ++ (old ++ post))) (hi : (P.info? ty).map (·.size) = some cs.length)
    (hold : old.length = cs.length) (h1 : ∀ v ∈ cs, v.oneCell' = true)
    (h : ∀ w', Blk w' g t (pre ++ (cs ++ post)) → w.grownBy w' (some g) → wpList P ops Q rest (a.put o.dst undef) w') : wpList P ops Q (o :: rest) a w := by
  subst hoff
  have hth : w.there g pre.length cs.toArray.size := fun j hj => by
    have hj' : pre.length + j < (pre ++ (old ++ post)).length := by simp at hj ⊢; omega
    exact ⟨by rw [hg.cell (pre.length + j) hj']; rfl, hg.frozen _⟩
  have hr := run_storeVar_mid (P := P) w g pre.length ty cs.toArray hth (by simpa using hi) (all_one h1)
  refine wpList_plain hgd fun K hK => ?_
  unfold Oper.wp execOp
  simp only [ho, hx, hy, Instr.storeAt, Instr.sureAddr, Sem.run_bind, Sem.run_pure, Result.andThen_ok, hr]
  exact hK _ _ (h _ (by simpa using blk_setCells_mid cs pre old post w hg hold) (by simpa using grown_setCells g cs pre.length w))
end Go.Isth

namespace Go.Isth
def okMany (m : Int) : Prop := ¬ m < 1 ∧ ¬ 4294967296 < m
instance (m : Int) : Decidable (okMany m) := inferInstanceAs (Decidable (_ ∧ _))
def toV (s : StepI) : StepV := ⟨s.second, s.many.toNat, s.other⟩
/-- What a proof shows: the sum, the count, the place; nothing where a step's number may not be. -/
def showG : List StepI → List UInt8 × Nat × Nat → Option (List UInt8 × Nat × Nat)
  | [], x => some x
  | s :: l, x => if okMany s.many then showG l (upStep x (toV s)) else none
def showF (p : PrfV) : Option (List UInt8 × Nat × Nat) := if 64 < p.steps.length then none else showG p.steps (avLeaf p.key p.val, 1, 0)
end Go.Isth
namespace Go.Proofs.YtdekealpachhmaaDoor
open Go Go.RowKit Go.Isth

/-- The cells of what is shown. -/
def shownC (x : List UInt8 × Nat × Nat) : List Value := x.1.map B ++ [.int .i64 (x.2.2 : Nat), .int .i64 (x.2.1 : Nat)]
def noShown : List Value := List.replicate 32 (B 0) ++ [.int .i64 0, .int .i64 0]
def shownO : Option (List UInt8 × Nat × Nat) → List Value
  | none => noShown
  | some x => shownC x
theorem shownC_one (x : List UInt8 × Nat × Nat) : ∀ u ∈ shownC x, u.oneCell' = true := by
  intro u hu
  simp only [shownC, List.mem_append, List.mem_cons, List.not_mem_nil, or_false] at hu
  rcases hu with hu | rfl | rfl
  · exact one_bytes u hu
  · rfl
  · rfl
theorem noShown_one : ∀ u ∈ noShown, u.oneCell' = true := by decide
theorem stepsIC_at : ∀ (l : List StepI) (k : Nat) (s : StepI), (∀ x ∈ l, x.other.length = 32) → l[k]? = some s → ∀ j u, (stepIC s)[j]? = some u → (stepsIC l)[k * 34 + j]? = some u
  | [], k, s, _, h => by simp at h
  | x :: l, 0, s, hl, h => by
    simp only [List.getElem?_cons_zero, Option.some.injEq] at h
    subst h
    intro j u hu
    have e : stepsIC (x :: l) = stepIC x ++ stepsIC l := rfl
    rw [e, Nat.zero_mul, Nat.zero_add, List.getElem?_append_left (List.getElem?_eq_some_iff.1 hu).1]
    exact hu
  | x :: l, k + 1, s, hl, h => by
    simp only [List.getElem?_cons_succ] at h
    intro j u hu
    have := stepsIC_at l k s (fun y hy => hl y (by simp [hy])) h j u hu
    have e : stepsIC (x :: l) = stepIC x ++ stepsIC l := rfl
    have e1 : (stepIC x).length = 34 := by simp [stepIC, hl x (by simp)]
    rw [e, List.getElem?_append_right (by rw [e1]; omega), e1, show (k + 1) * 34 + j - 34 = k * 34 + j by omega]
    exact this
theorem stepIC_one (s : StepI) : ∀ u ∈ stepIC s, u.oneCell' = true := by
  intro u hu
  simp only [stepIC, List.mem_cons] at hu
  rcases hu with rfl | rfl | hu
  · rfl
  · rfl
  · exact one_bytes u hu
theorem built_shown (cs : List Value) (hl : cs.length = 32) :
    Tryd.prog.built 122 [(0, .agg cs.toArray), (1, .int .i64 0), (2, .int .i64 1)] = some (cs ++ [Value.int .i64 0, Value.int .i64 1]).toArray := by
  rw [built_struct (P := Tryd.prog) (t := 122) (zs := List.replicate 32 (B 0) ++ [.int .i64 0, .int .i64 0]) (by kernel_rfl) Tryd.underlying122 (places := [(0, 32), (32, 1), (33, 1)]) (by kernel_rfl)]
  refine (fill_part _ 0 0 (.agg cs.toArray) cs [] (List.replicate 32 (B 0)) [.int .i64 0, .int .i64 0] _ (by rw [hl]; rfl) rfl rfl (by rw [hl]; rfl)).trans ?_
  rw [show ([] ++ cs ++ [Value.int .i64 0, Value.int .i64 0] : List Value) = cs ++ [Value.int .i64 0] ++ [Value.int .i64 0] by simp]
  refine (fill_part _ 1 32 (.int .i64 0) [.int .i64 0] cs [.int .i64 0] [.int .i64 0] _ rfl rfl hl rfl).trans ?_
  rw [show (cs ++ [Value.int .i64 0] ++ [Value.int .i64 0] : List Value) = (cs ++ [Value.int .i64 0]) ++ [Value.int .i64 0] ++ [] by simp]
  refine Eq.trans (fill_part _ 2 33 (.int .i64 1) [.int .i64 1] (cs ++ [.int .i64 0]) [.int .i64 0] [] _ ?_ rfl ?_ rfl) ?_
  · rfl
  · simp [hl]
  · rw [fill_nil]
    simp
theorem drop_cons {l : List StepI} {k : Nat} {s : StepI} (h : l[k]? = some s) : l.drop k = s :: l.drop (k + 1) := by
  obtain ⟨hk, rfl⟩ := List.getElem?_eq_some_iff.1 h
  exact List.drop_eq_getElem_cons hk
theorem shown_at32 {w : World} {x : Nat} {t : TypeId} {cs : List Value} {a b : Value} (h : Blk w x t (cs ++ [a, b])) (hl : cs.length = 32) : w.cell? ⟨x, 32, none⟩ = some a := h.cellD 32 _ (by rw [List.getElem?_append_right (by rw [hl]; omega), hl]; rfl)
theorem shown_at33 {w : World} {x : Nat} {t : TypeId} {cs : List Value} {a b : Value} (h : Blk w x t (cs ++ [a, b])) (hl : cs.length = 32) : w.cell? ⟨x, 33, none⟩ = some b := h.cellD 33 _ (by rw [List.getElem?_append_right (by rw [hl]; omega), hl]; rfl)
theorem shown_set33 {w : World} {x : Nat} {t : TypeId} {cs : List Value} {a b b' : Value} (h : Blk w x t (cs ++ [a, b])) (hl : cs.length = 32) : Blk (w.setCell ⟨x, 33, none⟩ b') x t (cs ++ [a, b']) := by
  have := h.set 33 b'
  rw [List.set_append_right _ _ (by rw [hl]; omega), hl] at this
  exact this
theorem shown_set32 {w : World} {x : Nat} {t : TypeId} {cs : List Value} {a b a' : Value} (h : Blk w x t (cs ++ [a, b])) (hl : cs.length = 32) : Blk (w.setCell ⟨x, 32, none⟩ a') x t (cs ++ [a', b]) := by
  have := h.set 32 a'
  rw [List.set_append_right _ _ (by rw [hl]; omega), hl] at this
  exact this
def ShowInv (w : World) (x2 x4 : Nat) (p : PrfV) (v21 : Value) (wr : World) : Prop :=
  ∃ (k : Nat) (x : List UInt8 × Nat × Nat), v21 = .int .i64 (k : Nat) ∧ k ≤ p.steps.length ∧ x.1.length = 32 ∧ x.2.1 ≤ 1 + k * 4294967296 ∧ x.2.2 ≤ k * 4294967296 ∧ showG (p.steps.drop k) x = showG p.steps (avLeaf p.key p.val, 1, 0) ∧ Blk wr x4 122 (shownC x) ∧ Blk wr x2 122 noShown ∧ Below w.heap.size w wr
set_option maxRecDepth 100000 in
set_option maxHeartbeats 4000000 in
theorem show_any (p : PrfV) (cs : List Value) (w : World) (h : PrfC 0 w p cs) (hk : p.key.length ≤ 2000000 ∧ p.val.length ≤ 2000000) (h32 : ∀ s ∈ p.steps, s.other.length = 32) (ht : TabLaid w) :
    Calls Tryd.prog 60 #[.agg cs.toArray] w fun e w' => e = .returned (.tuple #[.agg (shownO (showF p)).toArray, .bool (showF p).isSome]) ∧ Below w.heap.size w w' := by
  obtain ⟨A, c, rfl, hc, hr, _⟩ := h
  obtain ⟨n, hn⟩ : ∃ n, p.steps.length = n := ⟨_, rfl⟩
  obtain ⟨r, hrr⟩ : ∃ r, r = showF p := ⟨_, rfl⟩
  rw [hn] at hc ⊢
  rw [← hrr]
  have HRR := Lib.hid hrr
  clear hrr
  have HA := Lib.hid (And.intro hn (And.intro hc (And.intro hr (And.intro hk (And.intro h32 ht)))))
  obtain ⟨x1, hx1⟩ : ∃ n, n = w.heap.size := ⟨_, rfl⟩
  obtain ⟨w1, hw1⟩ : ∃ w1, w1 = w.alloc (.cells #[S8 p.key, S8 p.val, .slice A n c] 32) := ⟨_, rfl⟩
  obtain ⟨w2, hw2⟩ : ∃ w2, w2 = w1.alloc (.cells noShown.toArray 122) := ⟨_, rfl⟩
  have s1 : w1.heap.size = x1 + 1 := by rw [hw1, World.size_alloc, hx1]
  have b1 : Below w.heap.size w w1 := by rw [hw1]; exact (Below.refl _ _).alloc (Nat.le_refl _) _
  have b2 : Below w.heap.size w w2 := by rw [hw2]; exact b1.alloc b1.size _
  have z1 : Blk w2 x1 32 [S8 p.key, S8 p.val, .slice A n c] := by rw [hw2, hw1, hx1]; exact (Blk_new w [S8 p.key, S8 p.val, .slice A n c] 32).alloc _
  have z2 : Blk w2 (x1 + 1) 122 noShown := by rw [← s1, hw2]; exact Blk_new w1 noShown 122
  have H2 := Lib.hid (And.intro b2 (And.intro z1 (And.intro z2 hx1)))
  have e0 : w2.cell? ⟨x1, 0, none⟩ = some (S8 p.key) := z1.cellD 0 _ rfl
  have e1 : w2.cell? ⟨x1, 1, none⟩ = some (S8 p.val) := z1.cellD 1 _ rfl
  have e2 : w2.cell? ⟨x1, 2, none⟩ = some (.slice A n c) := z1.cellD 2 _ rfl
  go_enter Tryd.func60, Tryd.ntmps60
  go_upto_region 1 with fail
  change Code.wp _ _ _ _ ((w.alloc (.cells #[S8 p.key, S8 p.val, .slice A n c] 32)).alloc (.cells noShown.toArray 122))
  rw [← hw1, ← hw2, ← hx1]
  clear hw1 hw2 s1 b1 b2 z1 z2 hx1 hc hr hk h32 ht hn
  by_cases hbig : 64 < n
  · have hb : (64 : Int) < (n : Int) := by omega
    have HF := Lib.hid (show r = none by rw [HRR.out]; unfold showF; rw [if_pos (by rw [HA.out.1]; exact hbig)])
    clear hbig
    go_wp2_with (refine wpList_store_blk rfl 122 (.tmp 2) _ rfl (x1 + 1) noShown rfl rfl 122 _ H2.out.2.2.1 (by kernel_rfl) rfl noShown_one ?_; intro w8 hw8 hg8)
    refine bodyPost_ret (results_blk2 rfl _ _ (x1 + 1) 122 noShown _ rfl hw8 Tryd.underlying122 rfl (by kernel_rfl)) rfl ⟨by rw [HF.out]; rfl, ?_⟩
    exact H2.out.1.grown hg8 H2.out.1.size (fun q e => by injection e with e; have := H2.out.2.2.2; omega)
  · have hb : ¬ (64 : Int) < (n : Int) := by omega
    have HF := Lib.hid (And.intro (show r = showG p.steps (avLeaf p.key p.val, 1, 0) by rw [HRR.out]; unfold showF; rw [if_neg (by rw [HA.out.1]; exact hbig)]) hbig)
    clear hbig
    obtain ⟨csl, hcsl⟩ : ∃ cs, cs = (avLeaf p.key p.val).map B := ⟨_, rfl⟩
    have hll : csl.length = 32 := by rw [hcsl, List.length_map, avLeaf_length]
    have HCL := Lib.hid (And.intro hcsl (And.intro hll (show ∀ u ∈ csl, u.oneCell' = true by rw [hcsl]; exact one_bytes)))
    have HBU := Lib.hid (built_shown csl hll)
    clear hcsl hll
    go_wp2_with fail
    refine (avleaf_any p.key p.val _ _ csl _ rfl rfl HCL.out.1 HA.out.2.2.2.1.1 HA.out.2.2.2.1.2 (HA.out.2.2.2.2.2.below H2.out.1 HA.out.2.2.2.2.2.lt)).mono ?_
    rintro e w3 ⟨rfl, hb3⟩
    have e2 := cell_below e2 hb3
    have H3 := Lib.hid (And.intro (below_then H2.out.1 H2.out.1.size hb3) (And.intro (H2.out.2.2.1.below hb3) H2.out.2.2.2))
    clear hb3 e0 e1
    obtain ⟨x4, hx4⟩ : ∃ n, n = w3.heap.size := ⟨_, rfl⟩
    go_upto_region 4 with (first
      | (refine wpList_built rfl 122 _ rfl _ _ HBU.out (by rfl) ?_)
      | (refine wpList_store_blk rfl 122 (.tmp 4) _ rfl w3.heap.size (csl ++ [.int .i64 0, .int .i64 1]) rfl rfl 122 noShown (heap_alloc_new w3 _) (by rw [List.length_append, HCL.out.2.1]; kernel_rfl) (by rw [List.length_append, HCL.out.2.1]; rfl) (by intro u hu; rcases List.mem_append.1 hu with hu | hu; exact HCL.out.2.2 u hu; simp only [List.mem_cons, List.not_mem_nil, or_false] at hu; rcases hu with rfl | rfl <;> rfl) ?_
         intro w4 hz hg
         have hbb : Below w3.heap.size w3 w4 := ((Below.refl _ _).alloc (Nat.le_refl _) _).grown hg (by simp) (fun q e => by injection e with e; omega)
         have e2 := cell_below e2 hbb
         have HX4 := Lib.hid hz
         have H4 := Lib.hid (And.intro (below_then H3.out.1 H3.out.1.size hbb) (And.intro (H3.out.2.1.below hbb) (And.intro H3.out.2.2 (Nat.le_trans H3.out.1.size (Nat.le_refl _)))))
         clear hz hg hbb))
    rw [← hx4] at HX4 ⊢
    have HXX := Lib.hid (And.intro (show x1 + 1 < x4 by have := H3.out.2.1.lt; omega) (And.intro H2.out.2.2.2 (show w.heap.size ≤ x4 by rw [hx4]; exact H3.out.1.size)))
    have HX40 := Lib.hid (show Blk w4 x4 122 (shownC (avLeaf p.key p.val, 1, 0)) by have h := HX4.out; rw [HCL.out.1] at h; exact h)
    clear hx4 HX4
    go_wp2_with fail
    clear e2
    go_loopw [6, 21] (fun _ v21 wr => ShowInv w (x1 + 1) x4 p v21 wr) (fun _ v21 _ => n - (intOf v21).toNat)
    case atStart => exact ⟨0, (avLeaf p.key p.val, 1, 0), rfl, Nat.zero_le _, avLeaf_length _ _, by simp, by simp, rfl, HX40.out, H4.out.2.1, H4.out.1⟩
    case round =>
      obtain ⟨k, x, rfl, hk, hxl, hcn, hpn, hsg, hb4, hb2, hB⟩ := hrel
      obtain ⟨h, m, pl⟩ := x
      simp only at hxl hcn hpn
      rw [HA.out.1] at hk
      have HI := Lib.hid (And.intro hb4 (And.intro hb2 (And.intro hB hsg)))
      have HM := Lib.hid (And.intro hxl (And.intro hcn hpn))
      clear hb4 hb2 hB hsg hxl hcn hpn
      by_cases hkn : k < n
      · obtain ⟨s, hs⟩ : ∃ s, p.steps[k]? = some s := ⟨_, List.getElem?_eq_getElem (by rw [HA.out.1]; exact hkn)⟩
        have hk1 : (k : Int) < (n : Int) := by omega
        have hso := HA.out.2.2.2.2.1 s (List.mem_of_getElem? hs)
        have hat := stepsIC_at p.steps k s HA.out.2.2.2.2.1 hs
        obtain ⟨b, o, rfl, hcl⟩ := HA.out.2.2.1 (by have h := hat 0 _ rfl; have := (List.getElem?_eq_some_iff.1 h).1; omega)
        obtain ⟨cst, hcst⟩ : ∃ cs, cs = stepIC s := ⟨_, rfl⟩
        have hcl' : cst.length = 34 := by rw [hcst]; simp [stepIC, hso]
        have hld := run_load_agg (P := Tryd.prog) Tryd.underlying67 rfl (by kernel_rfl) wr ⟨b, o + k * 34, none⟩ cst hcl' (fun j u hj => by rw [add_plain, Nat.add_assoc]; rw [hcst] at hj; exact cell_below (hcl _ _ (hat j u hj)) HI.out.2.2.1)
        have HLD := Lib.hid hld
        have HST := Lib.hid (And.intro hcst (And.intro hcl' (And.intro (show ∀ u ∈ cst, u.oneCell' = true by rw [hcst]; exact stepIC_one s) (And.intro hs hso))))
        clear hld hs hso hat hcl hcst hcl'
        have hx46 := HI.out.1.lt
        obtain ⟨x6, hx6⟩ : ∃ n, n = wr.heap.size := ⟨_, rfl⟩
        go_upto_region 7 with (first
          | (refine wpList_load rfl (.tmp 23) rfl ⟨b, o + k * 34, none⟩ (.agg cst.toArray) rfl HLD.out ?_)
          | (refine wpList_store_blk rfl 67 (.tmp 6) _ rfl wr.heap.size cst rfl rfl 67 (.bool false :: .int .i64 0 :: List.replicate 32 (B 0)) (heap_alloc_new wr _) (by rw [HST.out.2.1]; kernel_rfl) (by rw [HST.out.2.1]; rfl) HST.out.2.2.1 ?_
             intro w5 hz hg
             have hbb : Below wr.heap.size wr w5 := ((Below.refl _ _).alloc (Nat.le_refl _) _).grown hg (by simp) (fun q e => by injection e with e; omega)
             have HX6 := Lib.hid hz
             have HI := Lib.hid (And.intro (HI.out.1.below hbb) (And.intro (HI.out.2.1.below hbb) (And.intro (below_then HI.out.2.2.1 HI.out.2.2.1.size hbb) HI.out.2.2.2)))
             have HX64 := Lib.hid (show x4 < wr.heap.size from (by assumption : x4 < wr.heap.size))
             clear hz hg hbb))
        have HX6 := Lib.hid (show Blk w5 x6 67 (.bool s.second :: .int .i64 s.many :: s.other.map B) by have h := HX6.out; rw [HST.out.1, ← hx6] at h; exact h)
        have HXN := Lib.hid (show x4 < x6 by rw [hx6]; exact HX64.out)
        rw [← hx6]
        have d0 := HX6.out.cellD 0 _ rfl
        have d1 := HX6.out.cellD 1 _ rfl
        clear hx46 hx6
        by_cases hbad : s.many < 1 ∨ 4294967296 < s.many
        · have HR0 := Lib.hid (show r = none by
            rw [HF.out.1, ← HI.out.2.2.2, drop_cons HST.out.2.2.2.1, showG, if_neg (by unfold okMany; omega)])
          have hc : s.many < 1 ∨ (¬ s.many < 1 ∧ 4294967296 < s.many) := by omega
          clear hbad
          rcases hc with hc | ⟨hc, hc'⟩
          all_goals
            go_wp2_with (refine wpList_store_blk rfl 122 (.tmp 2) _ rfl (x1 + 1) noShown rfl rfl 122 _ HI.out.2.1 (by kernel_rfl) rfl noShown_one ?_; intro w8 hw8 hg8)
            refine bodyPost_ret (results_blk2 rfl _ _ (x1 + 1) 122 noShown _ rfl hw8 Tryd.underlying122 rfl (by kernel_rfl)) rfl ⟨by rw [HR0.out]; rfl, ?_⟩
            exact HI.out.2.2.1.grown hg8 HI.out.2.2.1.size (fun q e => by injection e with e; have := H2.out.2.2.2; omega)
        · obtain ⟨sm, hsm⟩ : ∃ sm : Nat, s.many = (sm : Int) := ⟨s.many.toNat, by omega⟩
          have hg1 : ¬ (sm : Int) < 1 := by omega
          have hg2 : ¬ (4294967296 : Int) < (sm : Int) := by omega
          have hk64 : n ≤ 64 := by have := HF.out.2; omega
          have hms : m + sm ≤ 300000000000 := by have := HM.out; omega
          have hps : pl + sm ≤ 300000000000 := by have := HM.out; omega
          have HBD := Lib.hid (And.intro hms (And.intro hps (show sm ≤ 4294967296 by omega)))
          have HSG := Lib.hid (show showG (p.steps.drop (k + 1)) (upStep (h, m, pl) (toV s)) = showG p.steps (avLeaf p.key p.val, 1, 0) by
            rw [← HI.out.2.2.2, drop_cons HST.out.2.2.2.1, showG, if_pos (by unfold okMany; omega)])
          obtain ⟨csh, hcsh⟩ : ∃ cs, cs = h.map B := ⟨_, rfl⟩
          obtain ⟨cso, hcso⟩ : ∃ cs, cs = s.other.map B := ⟨_, rfl⟩
          have HCH := Lib.hid (And.intro hcsh (show csh.length = 32 by rw [hcsh, List.length_map]; exact HM.out.1))
          have HSO := Lib.hid (And.intro hcso (And.intro (show cso.length = 32 by rw [hcso, List.length_map]; exact HST.out.2.2.2.2) HST.out.2.2.2.2))
          have HX4 := Lib.hid (show Blk w5 x4 122 (csh ++ [.int .i64 (pl : Nat), .int .i64 (m : Nat)]) by rw [hcsh]; exact HI.out.1)
          have d4c : w5.cell? ⟨x4, 33, none⟩ = some (.int .i64 (m : Nat)) := shown_at33 HX4.out HCH.out.2
          have HLH := Lib.hid (run_load_agg (P := Tryd.prog) Tryd.underlying46 rfl (by kernel_rfl) w5 ⟨x4, 0, none⟩ csh HCH.out.2 (fun j u hj => by rw [add_plain, Nat.zero_add]; exact HX4.out.cellD j u (by rw [List.getElem?_append_left (List.getElem?_eq_some_iff.1 hj).1]; exact hj)))
          have HLO := Lib.hid (run_load_agg (P := Tryd.prog) Tryd.underlying46 rfl (by kernel_rfl) w5 ⟨x6, 2, none⟩ cso HSO.out.2.1 (fun j u hj => by rw [add_plain, Nat.add_comm]; exact HX6.out.cellD (j + 2) u (by rw [HSO.out.1] at hj; exact hj)))
          rw [hsm] at d1
          clear hcsh hcso hbad
          rcases hse : s.second with _ | _
          · rw [hse] at d0
            have HUP := Lib.hid (show upStep (h, m, pl) (toV s) = (avNode m h sm s.other, m + sm, pl) by unfold upStep toV; simp only [hse, hsm, Int.toNat_natCast]; rfl)
            obtain ⟨csn, hcsn⟩ : ∃ cs, cs = (avNode m h sm s.other).map B := ⟨_, rfl⟩
            have HCN := Lib.hid (And.intro hcsn (And.intro (show csn.length = 32 by rw [hcsn, List.length_map, avNode_length]) (show ∀ u ∈ csn, u.oneCell' = true by rw [hcsn]; exact one_bytes)))
            have HSM := Lib.hid hsm
            clear hcsn hse hsm
            go_wp2_with (first
              | (refine wpList_load rfl (.tmp 58) rfl ⟨x6, 2, none⟩ (.agg cso.toArray) rfl HLO.out ?_)
              | (refine wpList_load rfl (.tmp 54) rfl ⟨x4, 0, none⟩ (.agg csh.toArray) rfl HLH.out ?_))
            refine (avnode_any m sm h s.other csh cso csn _ HM.out.1 HSO.out.2.2 HCH.out.1 HSO.out.1 HCN.out.1 (by have := HBD.out; omega) (by have := HBD.out; omega) (HA.out.2.2.2.2.2.below HI.out.2.2.1 HA.out.2.2.2.2.2.lt)).mono ?_
            rintro e w6 ⟨rfl, hb6⟩
            have HX4 := Lib.hid (HX4.out.below hb6)
            have HX6 := Lib.hid (HX6.out.below hb6)
            have HI := Lib.hid (And.intro (HI.out.2.1.below hb6) (And.intro (below_then HI.out.2.2.1 HI.out.2.2.1.size hb6) HI.out.2.2.2))
            clear hb6 d0 d1 d4c
            go_wp2_with (refine wpList_store_in rfl 46 (.tmp 61) (.tmp 60) rfl x4 0 csn [] csh [.int .i64 (pl : Nat), .int .i64 (m : Nat)] rfl rfl rfl 122 HX4.out (by rw [HCN.out.2.1]; kernel_rfl) (by rw [HCN.out.2.1, HCH.out.2]) HCN.out.2.2 ?_
                         intro w7 hz hg
                         have HZ := Lib.hid (And.intro hz (And.intro ((HI.out.1.grown hg (by intro e; injection e with e; have := HXX.out; omega))) (HI.out.2.1.grown hg HI.out.2.1.size (fun q e => by injection e with e; have := HXX.out; omega))))
                         have d4p : w7.cell? ⟨x4, 32, none⟩ = some (.int .i64 (pl : Nat)) := shown_at32 hz HCN.out.2.1
                         have d4c : w7.cell? ⟨x4, 33, none⟩ = some (.int .i64 (m : Nat)) := shown_at33 hz HCN.out.2.1
                         have f4p := hz.frozen 32
                         have f4c := hz.frozen 33
                         have d1 : w7.cell? ⟨x6, 1, none⟩ = some (.int .i64 (sm : Nat)) := by have h := (HX6.out.grown hg (by intro e; injection e with e; have := HXN.out; omega)).cellD 1 _ rfl; rw [HSM.out] at h; exact h
                         clear hz hg)
            refine ⟨⟨k + 1, (avNode m h sm s.other, m + sm, pl), by simp, by rw [HA.out.1]; omega, avNode_length _ _ _ _, ?_, ?_, by rw [← HUP.out]; exact HSG.out, ?_, (HZ.out.2.1.grown (grown_setC _ x4 33 _) (by intro e; injection e with e; have := HXX.out; omega)), (HZ.out.2.2.grown (grown_setC _ x4 33 _) HZ.out.2.2.size (fun q e => by injection e with e; have := HXX.out; omega))⟩, ?_⟩
            · have h1 := HM.out
              have h2 := HBD.out
              simp only
              omega
            · have h1 := HM.out
              have h2 := HBD.out
              simp only
              omega
            · have h := shown_set33 (b' := .int .i64 ((m : Int) + (sm : Int))) HZ.out.1 HCN.out.2.1
              rw [HCN.out.1] at h
              simp only [shownC, Int.natCast_add]
              exact h
            · show n - Int.toNat ((k : Int) + 1) < n - Int.toNat (k : Int)
              omega
          · rw [hse] at d0
            have HUP := Lib.hid (show upStep (h, m, pl) (toV s) = (avNode sm s.other m h, m + sm, pl + sm) by unfold upStep toV; simp only [hse, hsm, Int.toNat_natCast]; rfl)
            obtain ⟨csn, hcsn⟩ : ∃ cs, cs = (avNode sm s.other m h).map B := ⟨_, rfl⟩
            have HCN := Lib.hid (And.intro hcsn (And.intro (show csn.length = 32 by rw [hcsn, List.length_map, avNode_length]) (show ∀ u ∈ csn, u.oneCell' = true by rw [hcsn]; exact one_bytes)))
            have HSM := Lib.hid hsm
            clear hcsn hse hsm
            go_wp2_with (first
              | (refine wpList_load rfl (.tmp 38) rfl ⟨x6, 2, none⟩ (.agg cso.toArray) rfl HLO.out ?_)
              | (refine wpList_load rfl (.tmp 42) rfl ⟨x4, 0, none⟩ (.agg csh.toArray) rfl HLH.out ?_))
            refine (avnode_any sm m s.other h cso csh csn _ HSO.out.2.2 HM.out.1 HSO.out.1 HCH.out.1 HCN.out.1 (by have := HBD.out; omega) (by have := HBD.out; omega) (HA.out.2.2.2.2.2.below HI.out.2.2.1 HA.out.2.2.2.2.2.lt)).mono ?_
            rintro e w6 ⟨rfl, hb6⟩
            have HX4 := Lib.hid (HX4.out.below hb6)
            have HX6 := Lib.hid (HX6.out.below hb6)
            have HI := Lib.hid (And.intro (HI.out.2.1.below hb6) (And.intro (below_then HI.out.2.2.1 HI.out.2.2.1.size hb6) HI.out.2.2.2))
            clear hb6 d0 d1 d4c
            go_wp2_with (refine wpList_store_in rfl 46 (.tmp 45) (.tmp 44) rfl x4 0 csn [] csh [.int .i64 (pl : Nat), .int .i64 (m : Nat)] rfl rfl rfl 122 HX4.out (by rw [HCN.out.2.1]; kernel_rfl) (by rw [HCN.out.2.1, HCH.out.2]) HCN.out.2.2 ?_
                         intro w7 hz hg
                         have HZ := Lib.hid (And.intro hz (And.intro ((HI.out.1.grown hg (by intro e; injection e with e; have := HXX.out; omega))) (HI.out.2.1.grown hg HI.out.2.1.size (fun q e => by injection e with e; have := HXX.out; omega))))
                         have d4p : w7.cell? ⟨x4, 32, none⟩ = some (.int .i64 (pl : Nat)) := shown_at32 hz HCN.out.2.1
                         have d4c : w7.cell? ⟨x4, 33, none⟩ = some (.int .i64 (m : Nat)) := shown_at33 hz HCN.out.2.1
                         have f4p := hz.frozen 32
                         have f4c := hz.frozen 33
                         have d1 : w7.cell? ⟨x6, 1, none⟩ = some (.int .i64 (sm : Nat)) := by have h := (HX6.out.grown hg (by intro e; injection e with e; have := HXN.out; omega)).cellD 1 _ rfl; rw [HSM.out] at h; exact h
                         clear hz hg)
            refine ⟨⟨k + 1, (avNode sm s.other m h, m + sm, pl + sm), by simp, by rw [HA.out.1]; omega, avNode_length _ _ _ _, ?_, ?_, by rw [← HUP.out]; exact HSG.out, ?_, ((HZ.out.2.1.grown (grown_setC _ x4 32 _) (by intro e; injection e with e; have := HXX.out; omega)).grown (grown_setC _ x4 33 _) (by intro e; injection e with e; have := HXX.out; omega)), ((HZ.out.2.2.grown (grown_setC _ x4 32 (.int .i64 ((pl : Int) + (sm : Int)))) HZ.out.2.2.size (fun q e => by injection e with e; have := HXX.out; omega)).grown (grown_setC _ x4 33 _) (Nat.le_trans HZ.out.2.2.size (grown_setC _ x4 32 _).size) (fun q e => by injection e with e; have := HXX.out; omega))⟩, ?_⟩
            · have h1 := HM.out
              have h2 := HBD.out
              simp only
              omega
            · have h1 := HM.out
              have h2 := HBD.out
              simp only
              omega
            · have h := shown_set33 (b' := .int .i64 ((m : Int) + (sm : Int))) (shown_set32 (a' := .int .i64 ((pl : Int) + (sm : Int))) HZ.out.1 HCN.out.2.1) HCN.out.2.1
              rw [HCN.out.1] at h
              simp only [shownC, Int.natCast_add]
              exact h
            · show n - Int.toNat ((k : Int) + 1) < n - Int.toNat (k : Int)
              omega
      · have hk1 : ¬ (k : Int) < (n : Int) := by omega
        have hkn' : k = n := by omega
        have HR0 := Lib.hid (show r = some (h, m, pl) by
          rw [HF.out.1, ← HI.out.2.2.2, List.drop_eq_nil_of_le (by rw [HA.out.1]; omega), showG])
        have hsl : (shownC (h, m, pl)).length = 34 := by simp [shownC, HM.out.1]
        have HLD := Lib.hid (run_load_agg (P := Tryd.prog) Tryd.underlying122 rfl (by kernel_rfl) wr ⟨x4, 0, none⟩ (shownC (h, m, pl)) hsl (fun j u hj => by rw [add_plain, Nat.zero_add]; exact HI.out.1.cellD j u hj))
        clear hkn'
        go_wp2_with (first
          | (refine wpList_load rfl (.tmp 4) rfl ⟨x4, 0, none⟩ (.agg (shownC (h, m, pl)).toArray) rfl HLD.out ?_)
          | (refine wpList_store_blk rfl 122 (.tmp 2) _ rfl (x1 + 1) (shownC (h, m, pl)) rfl rfl 122 _ HI.out.2.1 (by rw [hsl]; kernel_rfl) (by rw [hsl]; rfl) (shownC_one _) ?_; intro w8 hw8 hg8))
        refine bodyPost_ret (results_blk2 rfl _ _ (x1 + 1) 122 (shownC (h, m, pl)) _ rfl hw8 Tryd.underlying122 rfl (by rw [hsl]; kernel_rfl)) rfl ⟨by rw [HR0.out]; rfl, ?_⟩
        exact HI.out.2.2.1.grown hg8 HI.out.2.2.1.size (fun q e => by injection e with e; have := H2.out.2.2.2; omega)
end Go.Proofs.YtdekealpachhmaaDoor

namespace Go.Isth
open Go Go.RowKit
/-- A load behind a guard that is open. -/
theorem wpList_ld_g {P : Program} {w : World} {ops : Array Oper} {rest : List Oper} {o : Oper} {a : Act} {Q : Exit → Act → World → Prop} {t : TypeId}
    (hw : Region.wanted o (yielded ops a.tmps) = true) (x : Operand) (ho : o.op = .load t x) (A : Addr) (v : Value) (hx : a.eval x = .pointer (some A)) (hl : (loadVar t A).run P w = .ok v w)
    (h : wpList P ops Q rest (a.put o.dst v) w) : wpList P ops Q (o :: rest) a w := by
  rw [wpList, if_pos hw]
  refine Or.inl ?_
  unfold Oper.wp execOp
  simp [ho, hx, Instr.loadAt, Instr.sureAddr, hl, Oper.upon]
  exact h
/-- Whether a proof shows a key with a value under a root. -/
def verF (root : List UInt8) (key val : Str) (p : PrfV) : Bool :=
  match showF p with
  | none => false
  | some x => p.key == key && p.val == val && x.1 == root
end Go.Isth
namespace Go.Proofs.YtdekealpachhmaaDoor
open Go Go.RowKit Go.Isth

theorem showG_length : ∀ (l : List StepI) (x y : List UInt8 × Nat × Nat), x.1.length = 32 → showG l x = some y → y.1.length = 32
  | [], x, y, hx, h => by
    simp only [showG, Option.some.injEq] at h
    subst h
    exact hx
  | s :: l, x, y, hx, h => by
    rw [showG] at h
    split at h
    · exact showG_length l _ y (upStep_length x _) h
    · cases h
theorem showF_length {p : PrfV} {x : List UInt8 × Nat × Nat} (h : showF p = some x) : x.1.length = 32 := by
  unfold showF at h
  split at h
  · cases h
  · exact showG_length _ _ _ (avLeaf_length _ _) h
/-- No error, or the error of a proof. -/
def OkIs (b : Bool) (w : World) (v : Value) : Prop := if b then v = .nilIface else FaultIs w v 23
theorem OkIs.ok {w : World} : OkIs true w .nilIface := rfl
theorem OkIs.no {w : World} {v : Value} (h : FaultIs w v 23) : OkIs false w v := h
set_option maxRecDepth 100000 in
set_option maxHeartbeats 2000000 in
theorem verify_any (root : List UInt8) (csr : List Value) (key val : Str) (p : PrfV) (cs : List Value) (w : World) (hr : root.length = 32) (hcsr : csr = root.map B) (h : PrfC 0 w p cs) (hk : p.key.length ≤ 2000000 ∧ p.val.length ≤ 2000000) (h32 : ∀ s ∈ p.steps, s.other.length = 32) (ht : TabLaid w) :
    Calls Tryd.prog 15 #[.agg csr.toArray, S8 key, S8 val, .agg cs.toArray] w fun e w' => ∃ v, e = .returned v ∧ OkIs (verF root key val p) w' v ∧ Below w.heap.size w w' := by
  obtain ⟨r, hrr⟩ : ∃ r, showF p = r := ⟨_, rfl⟩
  obtain ⟨bo, hbo⟩ : ∃ bo, verF root key val p = bo := ⟨_, rfl⟩
  rw [hbo]
  have hrl : csr.length = 32 := by rw [hcsr, List.length_map]; exact hr
  have hr1 : ∀ u ∈ csr, u.oneCell' = true := by rw [hcsr]; exact one_bytes
  have HP := Lib.hid h
  have hcl := h.len
  obtain ⟨A, c, hcs, _⟩ := h
  have HA := Lib.hid (And.intro hr (And.intro hcsr (And.intro hk (And.intro h32 (And.intro ht (And.intro hrr (And.intro hbo (And.intro hrl hr1))))))))
  obtain ⟨x1, hx1⟩ : ∃ n, n = w.heap.size := ⟨_, rfl⟩
  obtain ⟨w1, hw1⟩ : ∃ w1, w1 = w.alloc (.cells csr.toArray 46) := ⟨_, rfl⟩
  obtain ⟨w2, hw2⟩ : ∃ w2, w2 = w1.alloc (.cells cs.toArray 32) := ⟨_, rfl⟩
  have s1 : w1.heap.size = x1 + 1 := by rw [hw1, World.size_alloc, hx1]
  have b1 : Below w.heap.size w w1 := by rw [hw1]; exact (Below.refl _ _).alloc (Nat.le_refl _) _
  have b2 : Below w.heap.size w w2 := by rw [hw2]; exact b1.alloc b1.size _
  have z1 : Blk w2 x1 46 csr := by rw [hw2, hw1, hx1]; exact (Blk_new w csr 46).alloc _
  have z2 : Blk w2 (x1 + 1) 32 cs := by rw [← s1, hw2]; exact Blk_new w1 cs 32
  have H2 := Lib.hid (And.intro b2 (And.intro z1 (And.intro z2 (And.intro hcs hcl))))
  have HLP := Lib.hid (ld_prf z2 hcl)
  clear hcs hcsr hrr hbo
  go_enter Tryd.func15, Tryd.ntmps15
  go_upto_region 1 with fail
  change Code.wp _ _ _ _ ((w.alloc (.cells csr.toArray 46)).alloc (.cells cs.toArray 32))
  rw [← hw1, ← hw2, ← hx1]
  clear hw1 hw2 s1 b1 b2 z1 z2 hx1 hk h32 ht hr hrl hr1 hcl
  go_wp2_with (refine wpList_load rfl (.tmp 7) rfl ⟨x1 + 1, 0, none⟩ (.agg cs.toArray) rfl HLP.out ?_)
  refine (show_any p cs _ (HP.out.below H2.out.1) HA.out.2.2.1 HA.out.2.2.2.1 (HA.out.2.2.2.2.1.below H2.out.1 HA.out.2.2.2.2.1.lt)).mono ?_
  rintro e w3 ⟨rfl, hb3⟩
  rw [HA.out.2.2.2.2.2.1]
  have z2 : Blk w3 (x1 + 1) 32 [S8 p.key, S8 p.val, .slice A p.steps.length c] := by have h := H2.out.2.2.1.below hb3; rw [H2.out.2.2.2.1] at h; exact h
  have HLR := Lib.hid (H2.out.2.1.below hb3)
  have HZ2 := Lib.hid z2
  have HW := Lib.hid (below_then H2.out.1 H2.out.1.size hb3)
  clear hb3 z2
  obtain ⟨xs, hxs⟩ : ∃ n, n = w3.heap.size := ⟨_, rfl⟩
  rcases r with _ | x
  · have HB0 := Lib.hid (show bo = false by rw [← HA.out.2.2.2.2.2.2.1]; unfold verF; rw [HA.out.2.2.2.2.2.1])
    rw [show shownO none = noShown from rfl, show (none : Option (List UInt8 × Nat × Nat)).isSome = false from rfl]
    go_wp2_with (refine wpList_store_blk rfl 122 (.tmp 9) _ rfl w3.heap.size noShown rfl rfl 122 noShown (heap_alloc_new w3 _) (by kernel_rfl) rfl noShown_one ?_
                 intro w4 hz hg
                 have hbb : Below w3.heap.size w3 w4 := ((Below.refl _ _).alloc (Nat.le_refl _) _).grown hg (by simp) (fun q e => by injection e with e; omega)
                 have HW := Lib.hid (below_then HW.out HW.out.size hbb)
                 clear hz hg hbb)
    refine (fault8_any _ 23 _).mono ?_
    rintro e w5 ⟨v, rfl, hf, hb⟩
    have HF := Lib.hid (And.intro hf (below_then HW.out HW.out.size hb))
    obtain ⟨bf, rfl⟩ := hf.shape
    clear hf hb
    go_wp2
    go_ret
    exact ⟨_, rfl, by rw [HB0.out]; exact OkIs.no HF.out.1, HF.out.2⟩
  · have hxl := showF_length HA.out.2.2.2.2.2.1
    rw [show shownO (some x) = shownC x from rfl, show (some x).isSome = true from rfl]
    have hsl : (shownC x).length = 34 := by simp [shownC, hxl]
    obtain ⟨csx, hcsx⟩ : ∃ cs, cs = x.1.map B := ⟨_, rfl⟩
    have hcl : csx.length = 32 := by rw [hcsx, List.length_map]; exact hxl
    have HX := Lib.hid (And.intro hcsx (And.intro hcl (And.intro hsl hxl)))
    clear hcsx hcl hsl hxl
    have hne : ∀ wx, (binOp .neq 46 (.agg csx.toArray) (.agg csr.toArray)).run Tryd.prog wx = .ok (.bool (!(x.1 == root))) wx := by
      intro wx
      rw [HX.out.1, HA.out.2.1]
      exact run_neq_bytes aHash7 wx x.1 root HX.out.2.2.2 HA.out.1
    go_upto_region 2 with (refine wpList_store_blk rfl 122 (.tmp 9) _ rfl w3.heap.size (shownC x) rfl rfl 122 noShown (heap_alloc_new w3 _) (by rw [HX.out.2.2.1]; kernel_rfl) (by rw [HX.out.2.2.1]; rfl) (shownC_one x) ?_
                           intro w4 hz hg
                           have hbb : Below w3.heap.size w3 w4 := ((Below.refl _ _).alloc (Nat.le_refl _) _).grown hg (by simp) (fun q e => by injection e with e; omega)
                           have HW := Lib.hid (below_then HW.out HW.out.size hbb)
                           have HLX := Lib.hid (run_load_agg (P := Tryd.prog) Tryd.underlying46 rfl (by kernel_rfl) w4 ⟨w3.heap.size, 0, none⟩ csx HX.out.2.1 (fun j u hj => by rw [add_plain, Nat.zero_add]; exact hz.cellD j u (by unfold shownC; rw [HX.out.1] at hj; rw [List.getElem?_append_left (List.getElem?_eq_some_iff.1 hj).1]; exact hj)))
                           have HLR := Lib.hid (ld_hash (HLR.out.below hbb) HA.out.2.2.2.2.2.2.2.1)
                           have k0 := (HZ2.out.below hbb).cellD 0 _ rfl
                           have k1 := (HZ2.out.below hbb).cellD 1 _ rfl
                           clear hz hg hbb)
    by_cases h1 : p.key = key
    · by_cases h2 : p.val = val
      · have q1 : (p.key == key) = true := by simp [h1]
        have q2 : (p.val == val) = true := by simp [h2]
        by_cases h3 : x.1 = root
        · have HB0 := Lib.hid (show bo = true by rw [← HA.out.2.2.2.2.2.2.1]; unfold verF; rw [HA.out.2.2.2.2.2.1]; simp [h1, h2, h3])
          have q3 : (x.1 == root) = true := by simp [h3]
          clear h1 h2 h3
          go_wp2_with (first
            | (refine wpList_ld_g rfl (.tmp 31) rfl ⟨w3.heap.size, 0, none⟩ (.agg csx.toArray) rfl HLX.out ?_)
            | (refine wpList_ld_g rfl (.tmp 4) rfl ⟨x1, 0, none⟩ (.agg csr.toArray) rfl HLR.out ?_))
          go_ret
          exact ⟨_, rfl, by rw [HB0.out]; exact OkIs.ok, HW.out⟩
        · have HB0 := Lib.hid (show bo = false by rw [← HA.out.2.2.2.2.2.2.1]; unfold verF; rw [HA.out.2.2.2.2.2.1]; simp [h3])
          have q3 : (x.1 == root) = false := by simp [h3]
          clear h1 h2 h3
          go_wp2_with (first
            | (refine wpList_ld_g rfl (.tmp 31) rfl ⟨w3.heap.size, 0, none⟩ (.agg csx.toArray) rfl HLX.out ?_)
            | (refine wpList_ld_g rfl (.tmp 4) rfl ⟨x1, 0, none⟩ (.agg csr.toArray) rfl HLR.out ?_))
          refine (fault8_any _ 23 _).mono ?_
          rintro e w5 ⟨v, rfl, hf, hb⟩
          have HF := Lib.hid (And.intro hf (below_then HW.out HW.out.size hb))
          obtain ⟨bf, rfl⟩ := hf.shape
          clear hf hb
          go_wp2
          go_ret
          exact ⟨_, rfl, by rw [HB0.out]; exact OkIs.no HF.out.1, HF.out.2⟩
      · have HB0 := Lib.hid (show bo = false by rw [← HA.out.2.2.2.2.2.2.1]; unfold verF; rw [HA.out.2.2.2.2.2.1]; simp [h2])
        have q1 : (p.key == key) = true := by simp [h1]
        have q2 : (p.val == val) = false := by simp [h2]
        clear h1 h2
        go_wp2_with fail
        refine (fault8_any _ 23 _).mono ?_
        rintro e w5 ⟨v, rfl, hf, hb⟩
        have HF := Lib.hid (And.intro hf (below_then HW.out HW.out.size hb))
        obtain ⟨bf, rfl⟩ := hf.shape
        clear hf hb
        go_wp2
        go_ret
        exact ⟨_, rfl, by rw [HB0.out]; exact OkIs.no HF.out.1, HF.out.2⟩
    · have HB0 := Lib.hid (show bo = false by rw [← HA.out.2.2.2.2.2.2.1]; unfold verF; rw [HA.out.2.2.2.2.2.1]; simp [h1])
      have q1 : (p.key == key) = false := by simp [h1]
      clear h1
      go_wp2_with fail
      refine (fault8_any _ 23 _).mono ?_
      rintro e w5 ⟨v, rfl, hf, hb⟩
      have HF := Lib.hid (And.intro hf (below_then HW.out HW.out.size hb))
      obtain ⟨bf, rfl⟩ := hf.shape
      clear hf hb
      go_wp2
      go_ret
      exact ⟨_, rfl, by rw [HB0.out]; exact OkIs.no HF.out.1, HF.out.2⟩
end Go.Proofs.YtdekealpachhmaaDoor

namespace Go.Isth
open Go Go.RowKit
theorem exec_ld {P : Program} {w : World} {o : Oper} {a : Act} {t : TypeId} (x : Operand) (ho : o.op = .load t x) (A : Addr) (v : Value) (hx : a.eval x = .pointer (some A)) (hl : (loadVar t A).run P w = .ok v w) : (execOp a.eval o).run P w = .ok (.value v) w := by
  unfold execOp
  simp [ho, hx, Instr.loadAt, Instr.sureAddr, hl]
theorem results_ctt {P : Program} {fn : Func} {p u v : Tmp} {ty : TypeId} (h : fn.results = #[.cell p ty, .tmp u, .tmp v]) (tmps : Array Value) (w : World) (g : Nat) (t : TypeId) (cs : List Value) (d : TypeDesc)
    (hp : tmps.getD p undef = .pointer (some ⟨g, 0, none⟩)) (hg : Blk w g t cs)
    (hu : P.underlying ty = some d) (hd : (match d with | .struct _ => true | .array _ _ => true | _ => false) = true) (hi : (P.info? ty).map (·.size) = some cs.length) :
    (results fn tmps).run P w = .ok (.tuple #[.agg cs.toArray, tmps.getD u undef, tmps.getD v undef]) w := by
  have hl := run_load_agg (P := P) hu hd hi w ⟨g, 0, none⟩ cs rfl (fun j u hj => by rw [add_plain, Nat.zero_add]; exact hg.cellD j u hj)
  have hp2 : tmps[p]?.getD undef = .pointer (some ⟨g, 0, none⟩) := by simpa using hp
  simp [results, h, hp2, asAddr, hl, Result.andThen]
def oneOk (root : List UInt8) : List PrfV → Bool
  | [] => true
  | p :: r => match showF p with | none => false | some x => r.isEmpty && x.1 == root
end Go.Isth
namespace Go.Proofs.YtdekealpachhmaaDoor
open Go Go.RowKit Go.Isth

/-- Proofs behind one another. -/
def ListP (w : World) (v : Value) (ps : List PrfV) : Prop := ∃ A c, v = .slice A ps.length c ∧ ps.length ≤ c ∧ ∀ (i : Nat) (p : PrfV), ps[i]? = some p → ∃ b o cs, A = some ⟨b, o, none⟩ ∧ w.rangeAt b (o + i * 3) cs ∧ PrfC 0 w p cs
theorem SliceP.list {n₀ : Nat} {w : World} {v : Value} {ps : List PrfV} (h : SliceP n₀ w v ps) : ListP w v ps := by
  rcases h with ⟨rfl, rfl⟩ | ⟨p, g, cs, rfl, rfl, _, hb, hp⟩
  · exact ⟨none, 0, rfl, Nat.le_refl _, fun i p h => by simp at h⟩
  · refine ⟨_, 1, rfl, Nat.le_refl _, fun i q hq => ?_⟩
    cases i with
    | zero =>
      simp only [List.getElem?_cons_zero, Option.some.injEq] at hq
      subst hq
      exact ⟨g, 0, cs, rfl, by simpa using blk_range hb, hp.mono (Nat.zero_le _)⟩
    | succ i => simp at hq
theorem ListP.below {w w' : World} {v : Value} {ps : List PrfV} (h : ListP w v ps) (hb : Below w.heap.size w w') : ListP w' v ps := by
  obtain ⟨A, c, e, hc, hi⟩ := h
  refine ⟨A, c, e, hc, fun i p hp => ?_⟩
  obtain ⟨b, o, cs, e1, h1, h2⟩ := hi i p hp
  exact ⟨b, o, cs, e1, range_below h1 hb, h2.below hb⟩
theorem take_get {l : List Value} {k j : Nat} {u : Value} (h : (l.take k)[j]? = some u) : l[j]? = some u := by
  rw [List.getElem?_take] at h
  split at h
  · exact h
  · cases h
def oneC : List PrfV → List Value
  | [] => noShown
  | p :: _ => shownO (showF p)
theorem shownO_len (r : Option (List UInt8 × Nat × Nat)) (h : ∀ x, r = some x → x.1.length = 32) : (shownO r).length = 34 := by
  cases r with
  | none => rfl
  | some x => simp [shownO, shownC, h x rfl]
theorem shownO_one (r : Option (List UInt8 × Nat × Nat)) : ∀ u ∈ shownO r, u.oneCell' = true := by
  cases r with
  | none => exact noShown_one
  | some x => exact shownC_one x
def GoodPs (ps : List PrfV) : Prop := ∀ p ∈ ps, (p.key.length ≤ 2000000 ∧ p.val.length ≤ 2000000) ∧ ∀ s ∈ p.steps, s.other.length = 32
set_option maxRecDepth 100000 in
set_option maxHeartbeats 1000000 in
theorem one_yes (root : List UInt8) (csr : List Value) (v : Value) (ps : List PrfV) (w : World) (hr : root.length = 32) (hcsr : csr = root.map B) (h : ListP w v ps) (hg : GoodPs ps) (hn : ps.length ≤ 1000) (hy : ps.length ≤ 1 ∧ ∀ p ∈ ps, showF p ≠ none) (ht : TabLaid w) :
    Calls Tryd.prog 64 #[.agg csr.toArray, v] w fun e w' => e = .returned (.tuple #[.agg (oneC ps).toArray, .bool (!ps.isEmpty), .bool (oneOk root ps)]) ∧ Below w.heap.size w w' := by
  obtain ⟨A, c, rfl, hc, hi⟩ := h
  have hrl : csr.length = 32 := by rw [hcsr, List.length_map]; exact hr
  have HA := Lib.hid (And.intro hr (And.intro hcsr (And.intro hg (And.intro ht (And.intro hrl hi)))))
  obtain ⟨x2, hx2⟩ : ∃ n, n = w.heap.size := ⟨_, rfl⟩
  obtain ⟨x4, hx4⟩ : ∃ n, n = x2 + 1 := ⟨_, rfl⟩
  obtain ⟨w1, hw1⟩ : ∃ w1, w1 = w.alloc (.cells csr.toArray 46) := ⟨_, rfl⟩
  obtain ⟨w2, hw2⟩ : ∃ w2, w2 = w1.alloc (.cells noShown.toArray 122) := ⟨_, rfl⟩
  have s1 : w1.heap.size = x4 := by rw [hw1, World.size_alloc, hx4, hx2]
  have b1 : Below w.heap.size w w1 := by rw [hw1]; exact (Below.refl _ _).alloc (Nat.le_refl _) _
  have b2 : Below w.heap.size w w2 := by rw [hw2]; exact b1.alloc b1.size _
  have z1 : Blk w2 x2 46 csr := by rw [hw2, hw1, hx2]; exact (Blk_new w csr 46).alloc _
  have z2 : Blk w2 x4 122 noShown := by rw [← s1, hw2]; exact Blk_new w1 noShown 122
  have H2 := Lib.hid (And.intro b2 (And.intro z1 z2))
  have HXX := Lib.hid (And.intro hx2 hx4)
  obtain ⟨n, hnn⟩ : ∃ n, ps.length = n := ⟨_, rfl⟩
  rw [hnn]
  have HN := Lib.hid (And.intro hnn (show n ≤ 1000 by omega))
  have HY := Lib.hid hy
  clear hy
  go_enter Tryd.func64, Tryd.ntmps64
  clear hcsr
  go_upto_region 1 with fail
  change Code.wp _ _ _ _ ((w.alloc (.cells csr.toArray 46)).alloc (.cells noShown.toArray 122))
  rw [← hw1, ← hw2, ← hx2, ← hx4]
  clear hw1 hw2 s1 b1 b2 z1 z2 hx2 hx4 hr hg ht hrl hi hc hnn hn
  cases ps with
  | nil =>
    obtain rfl : (0 : Nat) = n := HN.out.1
    have h0 : (((0 : Nat) : Int) == 0) = true := rfl
    go_wp2_with (refine wpList_store_blk rfl 122 (.tmp 4) _ rfl x4 noShown rfl rfl 122 _ H2.out.2.2 (by kernel_rfl) rfl noShown_one ?_; intro w8 hw8 hg8)
    refine bodyPost_ret (results_ctt rfl _ _ x4 122 noShown _ rfl hw8 Tryd.underlying122 rfl (by kernel_rfl)) rfl ⟨rfl, ?_⟩
    exact H2.out.1.grown hg8 H2.out.1.size (fun q e => by injection e with e; have := HXX.out; omega)
  | cons p r =>
    obtain ⟨b, o, cs, rfl, hrg, hpc⟩ := HA.out.2.2.2.2.2 0 p rfl
    have hn0 : 0 < n := by have := HN.out.1; simp only [List.length_cons] at this; omega
    have h0 : ((n : Int) == 0) = false := by simp; omega
    have hcl := hpc.len
    have hgp := HA.out.2.2.1 p (by simp)
    have HPC := Lib.hid (hpc.below H2.out.1)
    have HLD := Lib.hid (run_load_agg (P := Tryd.prog) Tryd.underlying32 rfl (by kernel_rfl) w2 ⟨b, o, none⟩ cs hcl (fun j u hj => by rw [add_plain]; have h := hrg j u hj; rw [Nat.zero_mul, Nat.add_zero] at h; exact cell_below h H2.out.1))
    have HGP := Lib.hid hgp
    obtain ⟨q, hq⟩ : ∃ q, showF p = q := ⟨_, rfl⟩
    have HQ := Lib.hid hq
    clear hrg hpc hcl hgp hq
    go_wp2_with (refine wpList_load rfl (.tmp 13) rfl ⟨b, o, none⟩ (.agg cs.toArray) rfl HLD.out ?_)
    refine (show_any p cs w2 HPC.out HGP.out.1 HGP.out.2 (HA.out.2.2.2.1.below H2.out.1 HA.out.2.2.2.1.lt)).mono ?_
    rintro e w3 ⟨rfl, hb3⟩
    rw [HQ.out]
    obtain ⟨css, hcss⟩ : ∃ cs, cs = shownO q := ⟨_, rfl⟩
    rw [← hcss]
    have HSC := Lib.hid (And.intro (show css = oneC (p :: r) by rw [hcss, oneC, HQ.out]) (And.intro (show css.length = 34 by rw [hcss]; exact shownO_len q (fun x hx => showF_length (by rw [HQ.out]; exact hx))) (show ∀ u ∈ css, u.oneCell' = true by rw [hcss]; exact shownO_one q)))
    have HCS := Lib.hid hcss
    have HW := Lib.hid (below_then H2.out.1 H2.out.1.size hb3)
    have HX2 := Lib.hid (H2.out.2.1.below hb3)
    have HX4 := Lib.hid (H2.out.2.2.below hb3)
    clear hb3 hcss
    go_upto_region 4 with (refine wpList_store_blk rfl 122 (.tmp 4) (.tmp 16) rfl x4 css rfl rfl 122 _ HX4.out (by rw [HSC.out.2.1]; kernel_rfl) (by rw [HSC.out.2.1]; rfl) HSC.out.2.2 ?_
                           intro w4 hz hg
                           have HW := Lib.hid (HW.out.grown hg HW.out.size (fun q e => by injection e with e; have := HXX.out; omega))
                           have HX2 := Lib.hid (HX2.out.grown hg (by intro e; injection e with e; have := HXX.out; omega))
                           have HX4 := Lib.hid hz
                           clear hz hg)
    obtain ⟨csh, hcsh⟩ : ∃ cs, cs = css.take 32 := ⟨_, rfl⟩
    have hchl : csh.length = 32 := by rw [hcsh, List.length_take, HSC.out.2.1]; rfl
    have HTS2 : Hid (∀ w9, Blk w9 x4 122 css → w4.drew.grownBy w9 (some x4) → w9.rangeAt x4 0 css ∧ w9.rangeAt x2 0 csr) := Lib.hid fun w9 hz hg => ⟨blk_range hz, blk_range (Blk.grown (show Blk w4.drew _ _ _ from HX2.out) hg (by intro e; injection e with e; have := HXX.out; omega))⟩
    have HTS : Hid (∀ w', Below w4.heap.size w4 w' → w'.rangeAt x4 0 css ∧ w'.rangeAt x2 0 csr) := Lib.hid fun w' hb => ⟨blk_range (HX4.out.below hb), blk_range (HX2.out.below hb)⟩
    have LDS : Hid (∀ w : World, w.rangeAt x4 0 css → (loadVar 122 ⟨x4, 0, none⟩).run Tryd.prog w = .ok (.agg css.toArray) w) := Lib.hid fun w h => run_load_agg (P := Tryd.prog) Tryd.underlying122 rfl (by kernel_rfl) w ⟨x4, 0, none⟩ css HSC.out.2.1 (fun j u hj => by rw [add_plain]; exact h j u hj)
    have LDH : Hid (∀ w : World, w.rangeAt x4 0 css → (loadVar 46 ⟨x4, 0, none⟩).run Tryd.prog w = .ok (.agg csh.toArray) w) := Lib.hid fun w h => run_load_agg (P := Tryd.prog) Tryd.underlying46 rfl (by kernel_rfl) w ⟨x4, 0, none⟩ csh hchl (fun j u hj => by rw [add_plain]; exact h j u (by rw [hcsh] at hj; exact take_get hj))
    have LDR : Hid (∀ w : World, w.rangeAt x2 0 csr → (loadVar 46 ⟨x2, 0, none⟩).run Tryd.prog w = .ok (.agg csr.toArray) w) := Lib.hid fun w h => run_load_agg (P := Tryd.prog) Tryd.underlying46 rfl (by kernel_rfl) w ⟨x2, 0, none⟩ csr HA.out.2.2.2.2.1 (fun j u hj => by rw [add_plain]; exact h j u hj)
    have HCH := Lib.hid hcsh
    clear hcsh hchl
    rcases q with _ | x
    · have HOK := Lib.hid (show oneOk root (p :: r) = false by simp only [oneOk, HQ.out])
      rw [show (none : Option (List UInt8 × Nat × Nat)).isSome = false from rfl]
      exact absurd HQ.out (HY.out.2 p (by simp))
    · rw [show (some x).isSome = true from rfl]
      by_cases h1 : n = 1
      · have hr0 : r = [] := by have := HN.out.1; simp only [List.length_cons] at this; exact List.eq_nil_of_length_eq_zero (by omega)
        have q1 : ((n : Int) == 1) = true := by simp; omega
        have HOK := Lib.hid (show oneOk root (p :: r) = (x.1 == root) by rw [hr0]; simp only [oneOk, HQ.out, List.isEmpty_nil, Bool.true_and])
        have heq : ∀ wx, (binOp .eql 46 (.agg csh.toArray) (.agg csr.toArray)).run Tryd.prog wx = .ok (.bool (x.1 == root)) wx := by
          intro wx
          have hxl := showF_length HQ.out
          rw [HCH.out, HCS.out, HA.out.2.1]
          have h := run_eql_bytes aHash7 wx x.1 root hxl HA.out.1
          rw [show (shownO (some x)).take 32 = x.1.map B by simp only [shownO, shownC]; rw [List.take_left' (by rw [List.length_map]; exact hxl)]]
          exact h
        clear h1 hr0
        refine wp_region_held_drew (S := (fun w' => w'.rangeAt x4 0 css ∧ w'.rangeAt x2 0 csr)) (by kernel_rfl) ?bs0 (fun hHeld => ?_)
        case bs0 => exact HTS.out _ (refl_drewN _ 1)
        refine held_take (i := 0) (v := (.agg css.toArray)) rfl (by kernel_rfl) (by kernel_rfl) (by kernel_rfl) (fun _ _ _ h => h) (by rfl) ?b1y hHeld ?_
        case b1y => (intro w hSw; exact exec_ld (.tmp 4) rfl ⟨x4, 0, none⟩ _ rfl (LDS.out w hSw.1))
        try simp only [Act.put, List.setIfInBounds_toArray, List.set_cons_zero, List.set_cons_succ]
        refine held_take (i := 1) (v := ?b2v) rfl (by kernel_rfl) (by kernel_rfl) (by kernel_rfl) (fun _ _ _ h => h) (by rfl) ?b2y hHeld ?_
        case b2y => ((intro w _hSw; (try dsimp only at _hSw); go_simp); try (with_reducible rfl))
        try simp only [Act.put, List.setIfInBounds_toArray, List.set_cons_zero, List.set_cons_succ]
        refine held_take (i := 2) (v := ?b3v) rfl (by kernel_rfl) (by kernel_rfl) (by kernel_rfl) (fun _ _ _ h => h) (by rfl) ?b3y hHeld ?_
        case b3y => ((intro w _hSw; (try dsimp only at _hSw); go_simp); try (with_reducible rfl))
        try simp only [Act.put, List.setIfInBounds_toArray, List.set_cons_zero, List.set_cons_succ]
        refine held_take (i := 3) (v := ?b4v) rfl (by kernel_rfl) (by kernel_rfl) (by kernel_rfl) (fun _ _ _ h => h) (by rfl) ?b4y hHeld ?_
        case b4y => ((intro w _hSw; (try dsimp only at _hSw); go_simp); try (with_reducible rfl))
        try simp only [Act.put, List.setIfInBounds_toArray, List.set_cons_zero, List.set_cons_succ]
        refine held_take (i := 4) (v := ?b5v) rfl (by kernel_rfl) (by kernel_rfl) (by kernel_rfl) (fun _ _ _ h => h) (by rfl) ?b5y hHeld ?_
        case b5y => ((intro w _hSw; (try dsimp only at _hSw); go_simp); try (with_reducible rfl))
        try simp only [Act.put, List.setIfInBounds_toArray, List.set_cons_zero, List.set_cons_succ]
        refine held_take (i := 5) (v := ?b6v) rfl (by kernel_rfl) (by kernel_rfl) (by kernel_rfl) (fun _ _ _ h => h) (by rfl) ?b6y hHeld ?_
        case b6y => ((intro w _hSw; (try dsimp only at _hSw); go_simp); try (with_reducible rfl))
        try simp only [Act.put, List.setIfInBounds_toArray, List.set_cons_zero, List.set_cons_succ]
        refine held_take (i := 6) (v := ?b7v) rfl (by kernel_rfl) (by kernel_rfl) (by kernel_rfl) (fun _ _ _ h => h) (by rfl) ?b7y hHeld ?_
        case b7y => ((intro w _hSw; (try dsimp only at _hSw); go_simp); try (with_reducible rfl))
        try simp only [Act.put, List.setIfInBounds_toArray, List.set_cons_zero, List.set_cons_succ]
        refine held_take (i := 7) (v := ?b8v) rfl (by kernel_rfl) (by kernel_rfl) (by kernel_rfl) (fun _ _ _ h => h) (by rfl) ?b8y hHeld ?_
        case b8y => ((intro w _hSw; (try dsimp only at _hSw); go_simp); try (with_reducible rfl))
        try simp only [Act.put, List.setIfInBounds_toArray, List.set_cons_zero, List.set_cons_succ]
        refine held_take (i := 8) (v := ?b9v) rfl (by kernel_rfl) (by kernel_rfl) (by kernel_rfl) (fun _ _ _ h => h) (by rfl) ?b9y hHeld ?_
        case b9y => ((intro w _hSw; (try dsimp only at _hSw); go_simp); try (with_reducible rfl))
        try simp only [Act.put, List.setIfInBounds_toArray, List.set_cons_zero, List.set_cons_succ]
        refine held_take (i := 9) (v := (.agg csh.toArray)) rfl (by kernel_rfl) (by kernel_rfl) (by kernel_rfl) (fun _ _ _ h => h) (by rfl) ?b10y hHeld ?_
        case b10y => (intro w hSw; exact exec_ld (.tmp 26) rfl ⟨x4, 0, none⟩ _ rfl (LDH.out w hSw.1))
        try simp only [Act.put, List.setIfInBounds_toArray, List.set_cons_zero, List.set_cons_succ]
        refine held_take (i := 10) (v := (.agg csr.toArray)) rfl (by kernel_rfl) (by kernel_rfl) (by kernel_rfl) (fun _ _ _ h => h) (by rfl) ?b11y hHeld ?_
        case b11y => (intro w hSw; exact exec_ld (.tmp 2) rfl ⟨x2, 0, none⟩ _ rfl (LDR.out w hSw.2))
        try simp only [Act.put, List.setIfInBounds_toArray, List.set_cons_zero, List.set_cons_succ]
        refine held_take (i := 11) (v := ?b12v) rfl (by kernel_rfl) (by kernel_rfl) (by kernel_rfl) (fun _ _ _ h => h) (by rfl) ?b12y hHeld ?_
        case b12y => ((intro w _hSw; (try dsimp only at _hSw); go_simp); try (with_reducible rfl))
        try simp only [Act.put, List.setIfInBounds_toArray, List.set_cons_zero, List.set_cons_succ]
        refine held_take (i := 12) (v := ?b13v) rfl (by kernel_rfl) (by kernel_rfl) (by kernel_rfl) (fun _ _ _ h => h) (by rfl) ?b13y hHeld ?_
        case b13y => ((intro w _hSw; (try dsimp only at _hSw); go_simp); try (with_reducible rfl))
        try simp only [Act.put, List.setIfInBounds_toArray, List.set_cons_zero, List.set_cons_succ]
        refine held_step (i := 13) rfl (by kernel_rfl) (by rfl) (fun K hK => ?_)
        refine wp_store_blk 122 (.tmp 4) (.tmp 18) rfl x4 css rfl rfl 122 css (show Blk _ _ _ _ from HX4.out) (by rw [HSC.out.2.1]; kernel_rfl) rfl HSC.out.2.2 ?_
        intro w9 hz hg
        have H9 := Lib.hid (And.intro hz ((below_drewN HW.out 1).grown hg HW.out.size (fun q e => by injection e with e; have := HXX.out; omega)))
        have HS9 := Lib.hid (HTS2.out w9 hz hg)
        clear hz hg
        have hHeld := HS9.out
        refine hK.out _ _ (HS9.out) ?_
        clear hK K
        (try simp only [Act.put]); (try simp only [List.setIfInBounds_toArray]); (try simp only [List.set_cons_succ]); (try simp only [List.set_cons_zero])
        refine held_take (i := 14) (v := ?b14v) rfl (by kernel_rfl) (by kernel_rfl) (by kernel_rfl) (fun _ _ _ h => h) (by rfl) ?b14y hHeld ?_
        case b14y => ((intro w _hSw; (try dsimp only at _hSw); go_simp); try (with_reducible rfl))
        try simp only [Act.put, List.setIfInBounds_toArray, List.set_cons_zero, List.set_cons_succ]
        refine held_take (i := 15) (v := ?b15v) rfl (by kernel_rfl) (by kernel_rfl) (by kernel_rfl) (fun _ _ _ h => h) (by rfl) ?b15y hHeld ?_
        case b15y => ((intro w _hSw; (try dsimp only at _hSw); go_simp); try (with_reducible rfl))
        try simp only [Act.put, List.setIfInBounds_toArray, List.set_cons_zero, List.set_cons_succ]
        refine wpAnyH_done (by kernel_rfl) ?_ _
        go_wp2
        refine bodyPost_ret (results_ctt rfl _ _ x4 122 css _ rfl H9.out.1 Tryd.underlying122 rfl (by rw [HSC.out.2.1]; kernel_rfl)) rfl ⟨?_, H9.out.2⟩
        rw [HOK.out, HSC.out.1]
        rfl
      · have hr0 : r.isEmpty = false := by cases r with | nil => exact absurd HN.out.1.symm h1 | cons _ _ => rfl
        have q1 : ((n : Int) == 1) = false := by simp; omega
        have HOK := Lib.hid (show oneOk root (p :: r) = false by simp only [oneOk, HQ.out, hr0, Bool.false_and])
        exact absurd (show n = 1 by have h1 := HY.out.1; have h2 := HN.out.1; simp only [List.length_cons] at h1 h2; omega) h1
end Go.Proofs.YtdekealpachhmaaDoor

namespace Go.Proofs.YtdekealpachhmaaDoor
open Go Go.RowKit Go.Isth

theorem listP_at {w : World} {v : Value} {p : PrfV} (h : ListP w v [p]) : ∃ b o c, v = .slice (some ⟨b, o, none⟩) 1 c ∧ w.cell? ⟨b, o, none⟩ = some (S8 p.key) := by
  obtain ⟨A, c, rfl, _, hi⟩ := h
  obtain ⟨b, o, cs, rfl, hr, A', c', rfl, _⟩ := hi 0 p rfl
  exact ⟨b, o, c, rfl, by simpa using hr 0 _ rfl⟩
theorem listP_nil {w : World} {v : Value} (h : ListP w v []) : ∃ A c, v = .slice A 0 c := by
  obtain ⟨A, c, rfl, _⟩ := h
  exact ⟨A, c, rfl⟩
theorem shownC_len (x : List UInt8 × Nat × Nat) (h : x.1.length = 32) : (shownC x).length = 34 := by simp [shownC, h]
set_option maxRecDepth 100000 in
set_option maxHeartbeats 2000000 in
theorem vnone_yy (root : List UInt8) (csr : List Value) (key : Str) (vl vr : Value) (p1 : PrfV) (p2 : PrfV) (n i : Nat) (hnb : n ≤ 1000000000000 ∧ i ≤ 1000000000000) (w : World) (hr : root.length = 32) (hcsr : csr = root.map B) (hl : ListP w vl [p1]) (hrr : ListP w vr [p2]) (hg : GoodPs ([p1] ++ [p2])) (q1 : showF p1 = some (root, n, i)) (q2 : showF p2 = some (root, n, i + 1)) (k1 : Op.bytesLess p1.key key = true) (k2 : Op.bytesLess key p2.key = true) (ht : TabLaid w) :
    Calls Tryd.prog 19 #[.agg csr.toArray, S8 key, .agg #[vl, vr]] w fun e w' => e = .returned .nilIface ∧ Below w.heap.size w w' := by
  have hrl : csr.length = 32 := by rw [hcsr, List.length_map]; exact hr
  have HL := Lib.hid hl
  have HR := Lib.hid hrr
  have HA := Lib.hid (And.intro hr (And.intro hcsr (And.intro ht (And.intro hrl hg))))
  obtain ⟨b1, o1, c1, rfl, e1⟩ := listP_at hl
  have HE1 := Lib.hid e1
  have HQ1 := Lib.hid q1
  obtain ⟨b2, o2, c2, rfl, e2⟩ := listP_at hrr
  have HE2 := Lib.hid e2
  have HQ2 := Lib.hid q2
  have k3 : Op.bytesLess p2.key key = false := less_asymm k2
  have k4 : (!p2.key == key) = true := by
    have : p2.key ≠ key := by rintro h; rw [h, less_irrefl] at k2; cases k2
    simp [this]
  have HNB := Lib.hid hnb
  obtain ⟨x3, hx3⟩ : ∃ n, n = w.heap.size := ⟨_, rfl⟩
  obtain ⟨w1, hw1⟩ : ∃ w1, w1 = w.alloc (.cells csr.toArray 46) := ⟨_, rfl⟩
  obtain ⟨w2, hw2⟩ : ∃ w2, w2 = w1.alloc (.cells #[.slice (some ⟨b1, o1, none⟩) 1 c1, .slice (some ⟨b2, o2, none⟩) 1 c2] 41) := ⟨_, rfl⟩
  have s1 : w1.heap.size = x3 + 1 := by rw [hw1, World.size_alloc, hx3]
  have b1' : Below w.heap.size w w1 := by rw [hw1]; exact (Below.refl _ _).alloc (Nat.le_refl _) _
  have b2' : Below w.heap.size w w2 := by rw [hw2]; exact b1'.alloc b1'.size _
  have z3 : Blk w2 x3 46 csr := by rw [hw2, hw1, hx3]; exact (Blk_new w csr 46).alloc _
  have z5 : Blk w2 (x3 + 1) 41 [.slice (some ⟨b1, o1, none⟩) 1 c1, .slice (some ⟨b2, o2, none⟩) 1 c2] := by rw [← s1, hw2]; exact Blk_new w1 [.slice (some ⟨b1, o1, none⟩) 1 c1, .slice (some ⟨b2, o2, none⟩) 1 c2] 41
  have HW := Lib.hid b2'
  have HX3 := Lib.hid z3
  have HX5 := Lib.hid z5
  have HLD := Lib.hid (ld_hash z3 hrl)
  have d0 := z5.cellD 0 _ rfl
  go_enter Tryd.func19, Tryd.ntmps19
  clear hcsr
  go_upto_region 1 with fail
  change Code.wp _ _ _ _ ((w.alloc (.cells csr.toArray 46)).alloc (.cells #[.slice (some ⟨b1, o1, none⟩) 1 c1, .slice (some ⟨b2, o2, none⟩) 1 c2] 41))
  rw [← hw1, ← hw2, ← hx3]
  clear hw1 hw2 s1 b1' b2' z3 z5 hr hg ht hrl hl hrr hx3 e1 q1 e2 q2 hnb
  go_wp2_with (refine wpList_load rfl (.tmp 3) rfl ⟨x3, 0, none⟩ (.agg csr.toArray) rfl HLD.out ?_)
  refine (one_yes root csr _ [p1] _ HA.out.1 HA.out.2.1 (HL.out.below HW.out) (fun p hp => HA.out.2.2.2.2 p (by simp at hp ⊢; exact .inl hp)) (by simp) (by simp; rw [HQ1.out]; simp) (HA.out.2.2.1.below HW.out HA.out.2.2.1.lt)).mono ?_
  rintro e wa0 ⟨rfl, hb⟩
  rw [show oneC [p1] = (shownC (root, n, i)) from by rw [oneC, HQ1.out]; rfl, show oneOk root [p1] = true from by simp [oneOk, HQ1.out]]
  clear d0
  have HW := Lib.hid (below_then HW.out HW.out.size hb)
  have HX3 := Lib.hid (HX3.out.below hb)
  have HX5 := Lib.hid (HX5.out.below hb)
  clear hb
  go_upto_region 2 with (refine wpList_store_blk rfl 122 (.tmp 7) _ rfl wa0.heap.size (shownC (root, n, i)) rfl rfl 122 noShown (heap_alloc_new wa0 _) (by rw [shownC_len _ HA.out.1]; kernel_rfl) (by rw [shownC_len _ HA.out.1]; rfl) (shownC_one _) ?_
                         intro wb0 hz hg
                         have hbb : Below wa0.heap.size wa0 wb0 := ((Below.refl _ _).alloc (Nat.le_refl _) _).grown hg (by simp) (fun q e => by injection e with e; omega)
                         have HW := Lib.hid (below_then HW.out HW.out.size hbb)
                         have HX3 := Lib.hid (HX3.out.below hbb)
                         have HX5 := Lib.hid (HX5.out.below hbb)
                         have HX7 := Lib.hid hz
                         clear hz hg hbb)
  have d1 := HX5.out.cellD 1 _ rfl
  have HLD := Lib.hid (ld_hash HX3.out HA.out.2.2.2.1)
  go_wp2_with (refine wpList_load rfl (.tmp 3) rfl ⟨x3, 0, none⟩ (.agg csr.toArray) rfl HLD.out ?_)
  refine (one_yes root csr _ [p2] _ HA.out.1 HA.out.2.1 (HR.out.below HW.out) (fun p hp => HA.out.2.2.2.2 p (by simp at hp ⊢; exact .inr hp)) (by simp) (by simp; rw [HQ2.out]; simp) (HA.out.2.2.1.below HW.out HA.out.2.2.1.lt)).mono ?_
  rintro e wa1 ⟨rfl, hb⟩
  rw [show oneC [p2] = (shownC (root, n, i + 1)) from by rw [oneC, HQ2.out]; rfl, show oneOk root [p2] = true from by simp [oneOk, HQ2.out]]
  clear d1
  have HW := Lib.hid (below_then HW.out HW.out.size hb)
  have HX3 := Lib.hid (HX3.out.below hb)
  have HX5 := Lib.hid (HX5.out.below hb)
  have HX7 := Lib.hid (HX7.out.below hb)
  clear hb
  go_upto_region 3 with (refine wpList_store_blk rfl 122 (.tmp 10) _ rfl wa1.heap.size (shownC (root, n, i + 1)) rfl rfl 122 noShown (heap_alloc_new wa1 _) (by rw [shownC_len _ HA.out.1]; kernel_rfl) (by rw [shownC_len _ HA.out.1]; rfl) (shownC_one _) ?_
                         intro wb1 hz hg
                         have hbb : Below wa1.heap.size wa1 wb1 := ((Below.refl _ _).alloc (Nat.le_refl _) _).grown hg (by simp) (fun q e => by injection e with e; omega)
                         have HW := Lib.hid (below_then HW.out HW.out.size hbb)
                         have HX3 := Lib.hid (HX3.out.below hbb)
                         have HX5 := Lib.hid (HX5.out.below hbb)
                         have HX7 := Lib.hid (HX7.out.below hbb)
                         have HX10 := Lib.hid hz
                         clear hz hg hbb)
  have d0 := HX5.out.cellD 0 _ rfl
  have d1 := HX5.out.cellD 1 _ rfl
  have e1 := cell_below HE1.out HW.out
  have m1 := shown_at32 HX7.out (by rw [List.length_map]; exact HA.out.1)
  have m2 := shown_at33 HX7.out (by rw [List.length_map]; exact HA.out.1)
  simp only at m1 m2
  have e2 := cell_below HE2.out HW.out
  have m3 := shown_at32 HX10.out (by rw [List.length_map]; exact HA.out.1)
  have m4 := shown_at33 HX10.out (by rw [List.length_map]; exact HA.out.1)
  simp only at m3 m4
  have hib := HNB.out.2
  have m5 : ((i : Int) + 1 == ((i + 1 : Nat) : Int)) = true := by simp
  go_wp2_with fail
  go_ret
  exact ⟨rfl, HW.out⟩
set_option maxRecDepth 100000 in
set_option maxHeartbeats 2000000 in
theorem vnone_yn (root : List UInt8) (csr : List Value) (key : Str) (vl vr : Value) (p1 : PrfV) (n i : Nat) (hnb : n ≤ 1000000000000 ∧ i ≤ 1000000000000) (w : World) (hr : root.length = 32) (hcsr : csr = root.map B) (hl : ListP w vl [p1]) (hrr : ListP w vr []) (hg : GoodPs ([p1] ++ [])) (q1 : showF p1 = some (root, n, i)) (hni : n = i + 1) (k1 : Op.bytesLess p1.key key = true) (ht : TabLaid w) :
    Calls Tryd.prog 19 #[.agg csr.toArray, S8 key, .agg #[vl, vr]] w fun e w' => e = .returned .nilIface ∧ Below w.heap.size w w' := by
  have hrl : csr.length = 32 := by rw [hcsr, List.length_map]; exact hr
  have HL := Lib.hid hl
  have HR := Lib.hid hrr
  have HA := Lib.hid (And.intro hr (And.intro hcsr (And.intro ht (And.intro hrl hg))))
  obtain ⟨b1, o1, c1, rfl, e1⟩ := listP_at hl
  have HE1 := Lib.hid e1
  have HQ1 := Lib.hid q1
  obtain ⟨A2, c2, rfl⟩ := listP_nil hrr
  have HNI := Lib.hid hni
  have HNB := Lib.hid hnb
  obtain ⟨x3, hx3⟩ : ∃ n, n = w.heap.size := ⟨_, rfl⟩
  obtain ⟨w1, hw1⟩ : ∃ w1, w1 = w.alloc (.cells csr.toArray 46) := ⟨_, rfl⟩
  obtain ⟨w2, hw2⟩ : ∃ w2, w2 = w1.alloc (.cells #[.slice (some ⟨b1, o1, none⟩) 1 c1, .slice A2 0 c2] 41) := ⟨_, rfl⟩
  have s1 : w1.heap.size = x3 + 1 := by rw [hw1, World.size_alloc, hx3]
  have b1' : Below w.heap.size w w1 := by rw [hw1]; exact (Below.refl _ _).alloc (Nat.le_refl _) _
  have b2' : Below w.heap.size w w2 := by rw [hw2]; exact b1'.alloc b1'.size _
  have z3 : Blk w2 x3 46 csr := by rw [hw2, hw1, hx3]; exact (Blk_new w csr 46).alloc _
  have z5 : Blk w2 (x3 + 1) 41 [.slice (some ⟨b1, o1, none⟩) 1 c1, .slice A2 0 c2] := by rw [← s1, hw2]; exact Blk_new w1 [.slice (some ⟨b1, o1, none⟩) 1 c1, .slice A2 0 c2] 41
  have HW := Lib.hid b2'
  have HX3 := Lib.hid z3
  have HX5 := Lib.hid z5
  have HLD := Lib.hid (ld_hash z3 hrl)
  have d0 := z5.cellD 0 _ rfl
  go_enter Tryd.func19, Tryd.ntmps19
  clear hcsr
  go_upto_region 1 with fail
  change Code.wp _ _ _ _ ((w.alloc (.cells csr.toArray 46)).alloc (.cells #[.slice (some ⟨b1, o1, none⟩) 1 c1, .slice A2 0 c2] 41))
  rw [← hw1, ← hw2, ← hx3]
  clear hw1 hw2 s1 b1' b2' z3 z5 hr hg ht hrl hl hrr hx3 e1 q1 hnb hni
  go_wp2_with (refine wpList_load rfl (.tmp 3) rfl ⟨x3, 0, none⟩ (.agg csr.toArray) rfl HLD.out ?_)
  refine (one_yes root csr _ [p1] _ HA.out.1 HA.out.2.1 (HL.out.below HW.out) (fun p hp => HA.out.2.2.2.2 p (by simp at hp ⊢; exact hp)) (by simp) (by simp; rw [HQ1.out]; simp) (HA.out.2.2.1.below HW.out HA.out.2.2.1.lt)).mono ?_
  rintro e wa0 ⟨rfl, hb⟩
  rw [show oneC [p1] = (shownC (root, n, i)) from by rw [oneC, HQ1.out]; rfl, show oneOk root [p1] = true from by simp [oneOk, HQ1.out]]
  clear d0
  have HW := Lib.hid (below_then HW.out HW.out.size hb)
  have HX3 := Lib.hid (HX3.out.below hb)
  have HX5 := Lib.hid (HX5.out.below hb)
  clear hb
  go_upto_region 2 with (refine wpList_store_blk rfl 122 (.tmp 7) _ rfl wa0.heap.size (shownC (root, n, i)) rfl rfl 122 noShown (heap_alloc_new wa0 _) (by rw [shownC_len _ HA.out.1]; kernel_rfl) (by rw [shownC_len _ HA.out.1]; rfl) (shownC_one _) ?_
                         intro wb0 hz hg
                         have hbb : Below wa0.heap.size wa0 wb0 := ((Below.refl _ _).alloc (Nat.le_refl _) _).grown hg (by simp) (fun q e => by injection e with e; omega)
                         have HW := Lib.hid (below_then HW.out HW.out.size hbb)
                         have HX3 := Lib.hid (HX3.out.below hbb)
                         have HX5 := Lib.hid (HX5.out.below hbb)
                         have HX7 := Lib.hid hz
                         clear hz hg hbb)
  have d1 := HX5.out.cellD 1 _ rfl
  have HLD := Lib.hid (ld_hash HX3.out HA.out.2.2.2.1)
  go_wp2_with (refine wpList_load rfl (.tmp 3) rfl ⟨x3, 0, none⟩ (.agg csr.toArray) rfl HLD.out ?_)
  refine (one_yes root csr _ [] _ HA.out.1 HA.out.2.1 (HR.out.below HW.out) (fun p hp => by cases hp) (by simp) (by simp) (HA.out.2.2.1.below HW.out HA.out.2.2.1.lt)).mono ?_
  rintro e wa1 ⟨rfl, hb⟩
  rw [show oneC [] = noShown from rfl, show oneOk root [] = true from rfl]
  clear d1
  have HW := Lib.hid (below_then HW.out HW.out.size hb)
  have HX3 := Lib.hid (HX3.out.below hb)
  have HX5 := Lib.hid (HX5.out.below hb)
  have HX7 := Lib.hid (HX7.out.below hb)
  clear hb
  go_upto_region 3 with (refine wpList_store_blk rfl 122 (.tmp 10) _ rfl wa1.heap.size noShown rfl rfl 122 noShown (heap_alloc_new wa1 _) (by kernel_rfl) rfl noShown_one ?_
                         intro wb1 hz hg
                         have hbb : Below wa1.heap.size wa1 wb1 := ((Below.refl _ _).alloc (Nat.le_refl _) _).grown hg (by simp) (fun q e => by injection e with e; omega)
                         have HW := Lib.hid (below_then HW.out HW.out.size hbb)
                         have HX3 := Lib.hid (HX3.out.below hbb)
                         have HX5 := Lib.hid (HX5.out.below hbb)
                         have HX7 := Lib.hid (HX7.out.below hbb)
                         have HX10 := Lib.hid hz
                         clear hz hg hbb)
  have d0 := HX5.out.cellD 0 _ rfl
  have d1 := HX5.out.cellD 1 _ rfl
  have e1 := cell_below HE1.out HW.out
  have m1 := shown_at32 HX7.out (by rw [List.length_map]; exact HA.out.1)
  have m2 := shown_at33 HX7.out (by rw [List.length_map]; exact HA.out.1)
  simp only at m1 m2
  have hib := HNB.out
  have m5 : ((i : Int) == (n : Int) - 1) = true := by have := HNI.out; simp; omega
  go_wp2_with fail
  go_ret
  exact ⟨rfl, HW.out⟩
set_option maxRecDepth 100000 in
set_option maxHeartbeats 2000000 in
theorem vnone_ny (root : List UInt8) (csr : List Value) (key : Str) (vl vr : Value) (p2 : PrfV) (n : Nat) (hnb : n ≤ 1000000000000) (w : World) (hr : root.length = 32) (hcsr : csr = root.map B) (hl : ListP w vl []) (hrr : ListP w vr [p2]) (hg : GoodPs ([] ++ [p2])) (q2 : showF p2 = some (root, n, 0)) (k2 : Op.bytesLess key p2.key = true) (ht : TabLaid w) :
    Calls Tryd.prog 19 #[.agg csr.toArray, S8 key, .agg #[vl, vr]] w fun e w' => e = .returned .nilIface ∧ Below w.heap.size w w' := by
  have hrl : csr.length = 32 := by rw [hcsr, List.length_map]; exact hr
  have HL := Lib.hid hl
  have HR := Lib.hid hrr
  have HA := Lib.hid (And.intro hr (And.intro hcsr (And.intro ht (And.intro hrl hg))))
  obtain ⟨A1, c1, rfl⟩ := listP_nil hl
  obtain ⟨b2, o2, c2, rfl, e2⟩ := listP_at hrr
  have HE2 := Lib.hid e2
  have HQ2 := Lib.hid q2
  have k3 : Op.bytesLess p2.key key = false := less_asymm k2
  have k4 : (!p2.key == key) = true := by
    have : p2.key ≠ key := by rintro h; rw [h, less_irrefl] at k2; cases k2
    simp [this]
  have HNB := Lib.hid hnb
  obtain ⟨x3, hx3⟩ : ∃ n, n = w.heap.size := ⟨_, rfl⟩
  obtain ⟨w1, hw1⟩ : ∃ w1, w1 = w.alloc (.cells csr.toArray 46) := ⟨_, rfl⟩
  obtain ⟨w2, hw2⟩ : ∃ w2, w2 = w1.alloc (.cells #[.slice A1 0 c1, .slice (some ⟨b2, o2, none⟩) 1 c2] 41) := ⟨_, rfl⟩
  have s1 : w1.heap.size = x3 + 1 := by rw [hw1, World.size_alloc, hx3]
  have b1' : Below w.heap.size w w1 := by rw [hw1]; exact (Below.refl _ _).alloc (Nat.le_refl _) _
  have b2' : Below w.heap.size w w2 := by rw [hw2]; exact b1'.alloc b1'.size _
  have z3 : Blk w2 x3 46 csr := by rw [hw2, hw1, hx3]; exact (Blk_new w csr 46).alloc _
  have z5 : Blk w2 (x3 + 1) 41 [.slice A1 0 c1, .slice (some ⟨b2, o2, none⟩) 1 c2] := by rw [← s1, hw2]; exact Blk_new w1 [.slice A1 0 c1, .slice (some ⟨b2, o2, none⟩) 1 c2] 41
  have HW := Lib.hid b2'
  have HX3 := Lib.hid z3
  have HX5 := Lib.hid z5
  have HLD := Lib.hid (ld_hash z3 hrl)
  have d0 := z5.cellD 0 _ rfl
  go_enter Tryd.func19, Tryd.ntmps19
  clear hcsr
  go_upto_region 1 with fail
  change Code.wp _ _ _ _ ((w.alloc (.cells csr.toArray 46)).alloc (.cells #[.slice A1 0 c1, .slice (some ⟨b2, o2, none⟩) 1 c2] 41))
  rw [← hw1, ← hw2, ← hx3]
  clear hw1 hw2 s1 b1' b2' z3 z5 hr hg ht hrl hl hrr hx3 e2 q2 hnb
  go_wp2_with (refine wpList_load rfl (.tmp 3) rfl ⟨x3, 0, none⟩ (.agg csr.toArray) rfl HLD.out ?_)
  refine (one_yes root csr _ [] _ HA.out.1 HA.out.2.1 (HL.out.below HW.out) (fun p hp => by cases hp) (by simp) (by simp) (HA.out.2.2.1.below HW.out HA.out.2.2.1.lt)).mono ?_
  rintro e wa0 ⟨rfl, hb⟩
  rw [show oneC [] = noShown from rfl, show oneOk root [] = true from rfl]
  clear d0
  have HW := Lib.hid (below_then HW.out HW.out.size hb)
  have HX3 := Lib.hid (HX3.out.below hb)
  have HX5 := Lib.hid (HX5.out.below hb)
  clear hb
  go_upto_region 2 with (refine wpList_store_blk rfl 122 (.tmp 7) _ rfl wa0.heap.size noShown rfl rfl 122 noShown (heap_alloc_new wa0 _) (by kernel_rfl) rfl noShown_one ?_
                         intro wb0 hz hg
                         have hbb : Below wa0.heap.size wa0 wb0 := ((Below.refl _ _).alloc (Nat.le_refl _) _).grown hg (by simp) (fun q e => by injection e with e; omega)
                         have HW := Lib.hid (below_then HW.out HW.out.size hbb)
                         have HX3 := Lib.hid (HX3.out.below hbb)
                         have HX5 := Lib.hid (HX5.out.below hbb)
                         have HX7 := Lib.hid hz
                         clear hz hg hbb)
  have d1 := HX5.out.cellD 1 _ rfl
  have HLD := Lib.hid (ld_hash HX3.out HA.out.2.2.2.1)
  go_wp2_with (refine wpList_load rfl (.tmp 3) rfl ⟨x3, 0, none⟩ (.agg csr.toArray) rfl HLD.out ?_)
  refine (one_yes root csr _ [p2] _ HA.out.1 HA.out.2.1 (HR.out.below HW.out) (fun p hp => HA.out.2.2.2.2 p (by simp at hp ⊢; exact hp)) (by simp) (by simp; rw [HQ2.out]; simp) (HA.out.2.2.1.below HW.out HA.out.2.2.1.lt)).mono ?_
  rintro e wa1 ⟨rfl, hb⟩
  rw [show oneC [p2] = (shownC (root, n, 0)) from by rw [oneC, HQ2.out]; rfl, show oneOk root [p2] = true from by simp [oneOk, HQ2.out]]
  clear d1
  have HW := Lib.hid (below_then HW.out HW.out.size hb)
  have HX3 := Lib.hid (HX3.out.below hb)
  have HX5 := Lib.hid (HX5.out.below hb)
  clear hb
  go_upto_region 3 with (refine wpList_store_blk rfl 122 (.tmp 10) _ rfl wa1.heap.size (shownC (root, n, 0)) rfl rfl 122 noShown (heap_alloc_new wa1 _) (by rw [shownC_len _ HA.out.1]; kernel_rfl) (by rw [shownC_len _ HA.out.1]; rfl) (shownC_one _) ?_
                         intro wb1 hz hg
                         have hbb : Below wa1.heap.size wa1 wb1 := ((Below.refl _ _).alloc (Nat.le_refl _) _).grown hg (by simp) (fun q e => by injection e with e; omega)
                         have HW := Lib.hid (below_then HW.out HW.out.size hbb)
                         have HX3 := Lib.hid (HX3.out.below hbb)
                         have HX5 := Lib.hid (HX5.out.below hbb)
                         have HX10 := Lib.hid hz
                         clear hz hg hbb)
  have d0 := HX5.out.cellD 0 _ rfl
  have d1 := HX5.out.cellD 1 _ rfl
  have e2 := cell_below HE2.out HW.out
  have m3 := shown_at32 HX10.out (by rw [List.length_map]; exact HA.out.1)
  have m4 := shown_at33 HX10.out (by rw [List.length_map]; exact HA.out.1)
  simp only at m3 m4
  go_wp2_with fail
  go_ret
  exact ⟨rfl, HW.out⟩
set_option maxRecDepth 100000 in
set_option maxHeartbeats 2000000 in
theorem vnone_nn (root : List UInt8) (csr : List Value) (key : Str) (vl vr : Value) (w : World) (hr : root.length = 32) (hcsr : csr = root.map B) (hl : ListP w vl []) (hrr : ListP w vr []) (hg : GoodPs ([] ++ [])) (hE : root = sumF []) (ht : TabLaid w) :
    Calls Tryd.prog 19 #[.agg csr.toArray, S8 key, .agg #[vl, vr]] w fun e w' => e = .returned .nilIface ∧ Below w.heap.size w w' := by
  have hrl : csr.length = 32 := by rw [hcsr, List.length_map]; exact hr
  have HL := Lib.hid hl
  have HR := Lib.hid hrr
  have HA := Lib.hid (And.intro hr (And.intro hcsr (And.intro ht (And.intro hrl hg))))
  obtain ⟨A1, c1, rfl⟩ := listP_nil hl
  obtain ⟨A2, c2, rfl⟩ := listP_nil hrr
  have HE := Lib.hid hE
  obtain ⟨x3, hx3⟩ : ∃ n, n = w.heap.size := ⟨_, rfl⟩
  obtain ⟨w1, hw1⟩ : ∃ w1, w1 = w.alloc (.cells csr.toArray 46) := ⟨_, rfl⟩
  obtain ⟨w2, hw2⟩ : ∃ w2, w2 = w1.alloc (.cells #[.slice A1 0 c1, .slice A2 0 c2] 41) := ⟨_, rfl⟩
  have s1 : w1.heap.size = x3 + 1 := by rw [hw1, World.size_alloc, hx3]
  have b1' : Below w.heap.size w w1 := by rw [hw1]; exact (Below.refl _ _).alloc (Nat.le_refl _) _
  have b2' : Below w.heap.size w w2 := by rw [hw2]; exact b1'.alloc b1'.size _
  have z3 : Blk w2 x3 46 csr := by rw [hw2, hw1, hx3]; exact (Blk_new w csr 46).alloc _
  have z5 : Blk w2 (x3 + 1) 41 [.slice A1 0 c1, .slice A2 0 c2] := by rw [← s1, hw2]; exact Blk_new w1 [.slice A1 0 c1, .slice A2 0 c2] 41
  have HW := Lib.hid b2'
  have HX3 := Lib.hid z3
  have HX5 := Lib.hid z5
  have HLD := Lib.hid (ld_hash z3 hrl)
  have d0 := z5.cellD 0 _ rfl
  go_enter Tryd.func19, Tryd.ntmps19
  clear hcsr
  go_upto_region 1 with fail
  change Code.wp _ _ _ _ ((w.alloc (.cells csr.toArray 46)).alloc (.cells #[.slice A1 0 c1, .slice A2 0 c2] 41))
  rw [← hw1, ← hw2, ← hx3]
  clear hw1 hw2 s1 b1' b2' z3 z5 hr hg ht hrl hl hrr hx3 hE
  go_wp2_with (refine wpList_load rfl (.tmp 3) rfl ⟨x3, 0, none⟩ (.agg csr.toArray) rfl HLD.out ?_)
  refine (one_yes root csr _ [] _ HA.out.1 HA.out.2.1 (HL.out.below HW.out) (fun p hp => by cases hp) (by simp) (by simp) (HA.out.2.2.1.below HW.out HA.out.2.2.1.lt)).mono ?_
  rintro e wa0 ⟨rfl, hb⟩
  rw [show oneC [] = noShown from rfl, show oneOk root [] = true from rfl]
  clear d0
  have HW := Lib.hid (below_then HW.out HW.out.size hb)
  have HX3 := Lib.hid (HX3.out.below hb)
  have HX5 := Lib.hid (HX5.out.below hb)
  clear hb
  go_upto_region 2 with (refine wpList_store_blk rfl 122 (.tmp 7) _ rfl wa0.heap.size noShown rfl rfl 122 noShown (heap_alloc_new wa0 _) (by kernel_rfl) rfl noShown_one ?_
                         intro wb0 hz hg
                         have hbb : Below wa0.heap.size wa0 wb0 := ((Below.refl _ _).alloc (Nat.le_refl _) _).grown hg (by simp) (fun q e => by injection e with e; omega)
                         have HW := Lib.hid (below_then HW.out HW.out.size hbb)
                         have HX3 := Lib.hid (HX3.out.below hbb)
                         have HX5 := Lib.hid (HX5.out.below hbb)
                         have HX7 := Lib.hid hz
                         clear hz hg hbb)
  have d1 := HX5.out.cellD 1 _ rfl
  have HLD := Lib.hid (ld_hash HX3.out HA.out.2.2.2.1)
  go_wp2_with (refine wpList_load rfl (.tmp 3) rfl ⟨x3, 0, none⟩ (.agg csr.toArray) rfl HLD.out ?_)
  refine (one_yes root csr _ [] _ HA.out.1 HA.out.2.1 (HR.out.below HW.out) (fun p hp => by cases hp) (by simp) (by simp) (HA.out.2.2.1.below HW.out HA.out.2.2.1.lt)).mono ?_
  rintro e wa1 ⟨rfl, hb⟩
  rw [show oneC [] = noShown from rfl, show oneOk root [] = true from rfl]
  clear d1
  have HW := Lib.hid (below_then HW.out HW.out.size hb)
  have HX3 := Lib.hid (HX3.out.below hb)
  have HX5 := Lib.hid (HX5.out.below hb)
  clear hb
  go_upto_region 3 with (refine wpList_store_blk rfl 122 (.tmp 10) _ rfl wa1.heap.size noShown rfl rfl 122 noShown (heap_alloc_new wa1 _) (by kernel_rfl) rfl noShown_one ?_
                         intro wb1 hz hg
                         have hbb : Below wa1.heap.size wa1 wb1 := ((Below.refl _ _).alloc (Nat.le_refl _) _).grown hg (by simp) (fun q e => by injection e with e; omega)
                         have HW := Lib.hid (below_then HW.out HW.out.size hbb)
                         have HX3 := Lib.hid (HX3.out.below hbb)
                         have HX5 := Lib.hid (HX5.out.below hbb)
                         have HX10 := Lib.hid hz
                         clear hz hg hbb)
  have d0 := HX5.out.cellD 0 _ rfl
  have d1 := HX5.out.cellD 1 _ rfl
  have HTS : Hid (∀ w', Below wb1.heap.size wb1 w' → w'.rangeAt x3 0 csr) := Lib.hid fun w' hb => blk_range (HX3.out.below hb)
  have LDR : Hid (∀ w : World, w.rangeAt x3 0 csr → (loadVar 46 ⟨x3, 0, none⟩).run Tryd.prog w = .ok (.agg csr.toArray) w) := Lib.hid fun w h => run_load_agg (P := Tryd.prog) Tryd.underlying46 rfl (by kernel_rfl) w ⟨x3, 0, none⟩ csr HA.out.2.2.2.1 (fun j u hj => by rw [add_plain]; exact h j u hj)
  have heq : ∀ wx, (binOp .eql 46 (.agg csr.toArray) (.agg csr.toArray)).run Tryd.prog wx = .ok (.bool true) wx := by
    intro wx
    have h := run_eql_bytes aHash7 wx root root HA.out.1 HA.out.1
    rw [HA.out.2.1]
    simpa using h
  go_wp2_with fail
  refine wp_region_held_drew (S := (fun w' => w'.rangeAt x3 0 csr)) (by kernel_rfl) ?as0 (fun hHeld => ?_)
  case as0 => exact HTS.out _ (refl_drewN _ 1)
  refine held_take (i := 0) (v := ?a1v) rfl (by kernel_rfl) (by kernel_rfl) (by kernel_rfl) (fun _ _ _ h => h) (by rfl) ?a1y hHeld ?_
  case a1y => ((intro w _hSw; (try dsimp only at _hSw); go_simp); try (with_reducible rfl))
  try simp only [Act.put, List.setIfInBounds_toArray, List.set_cons_zero, List.set_cons_succ]
  refine held_take (i := 1) (v := ?a2v) rfl (by kernel_rfl) (by kernel_rfl) (by kernel_rfl) (fun _ _ _ h => h) (by rfl) ?a2y hHeld ?_
  case a2y => ((intro w _hSw; (try dsimp only at _hSw); go_simp); try (with_reducible rfl))
  try simp only [Act.put, List.setIfInBounds_toArray, List.set_cons_zero, List.set_cons_succ]
  refine held_take (i := 2) (v := (.agg csr.toArray)) rfl (by kernel_rfl) (by kernel_rfl) (by kernel_rfl) (fun _ _ _ h => h) (by rfl) ?a3y hHeld ?_
  case a3y => (intro w hSw; exact exec_ld (.tmp 3) rfl ⟨x3, 0, none⟩ _ rfl (LDR.out w hSw))
  try simp only [Act.put, List.setIfInBounds_toArray, List.set_cons_zero, List.set_cons_succ]
  refine held_step (i := 3) rfl (by kernel_rfl) (by rfl) (fun K hK => ?_)
  go_simp
  refine (hsum_to none 0 0 [] csr _ w rfl (below_then HW.out HW.out.size (refl_drewN _ 1)) (Nat.le_refl _) (by decide) (by rw [HA.out.2.1, HE.out]) (Rd.nil _ _) HA.out.2.2.1).mono ?_
  rintro e wc ⟨rfl, hb⟩
  have HB := Lib.hid (below_then (refl_drewN _ 1) (refl_drewN _ 1).size hb)
  clear hb
  go_wp2_with fail
  have hHeld := HTS.out _ HB.out
  refine hK.out _ _ (HTS.out _ HB.out) ?_
  clear hK K
  try simp only [Act.put, List.setIfInBounds_toArray, List.set_cons_zero, List.set_cons_succ]
  refine held_take (i := 4) (v := ?a4v) rfl (by kernel_rfl) (by kernel_rfl) (by kernel_rfl) (fun _ _ _ h => h) (by rfl) ?a4y hHeld ?_
  case a4y => ((intro w _hSw; (try dsimp only at _hSw); go_simp); try (with_reducible rfl))
  try simp only [Act.put, List.setIfInBounds_toArray, List.set_cons_zero, List.set_cons_succ]
  refine held_take (i := 5) (v := ?a5v) rfl (by kernel_rfl) (by kernel_rfl) (by kernel_rfl) (fun _ _ _ h => h) (by rfl) ?a5y hHeld ?_
  case a5y => ((intro w _hSw; (try dsimp only at _hSw); go_simp); try (with_reducible rfl))
  try simp only [Act.put, List.setIfInBounds_toArray, List.set_cons_zero, List.set_cons_succ]
  refine held_take (i := 6) (v := ?a6v) rfl (by kernel_rfl) (by kernel_rfl) (by kernel_rfl) (fun _ _ _ h => h) (by rfl) ?a6y hHeld ?_
  case a6y => ((intro w _hSw; (try dsimp only at _hSw); go_simp); try (with_reducible rfl))
  try simp only [Act.put, List.setIfInBounds_toArray, List.set_cons_zero, List.set_cons_succ]
  refine wpAnyH_done (by kernel_rfl) ?_ _
  go_wp2
  go_ret
  exact ⟨rfl, below_then HW.out HW.out.size HB.out⟩
end Go.Proofs.YtdekealpachhmaaDoor

namespace Go.Proofs.YtdekealpachhmaaDoor
open Go Go.RowKit Go.Isth

set_option maxRecDepth 100000 in
set_option maxHeartbeats 2000000 in
theorem vbad_yy (root : List UInt8) (csr : List Value) (key : Str) (vl vr : Value) (p1 : PrfV) (p2 : PrfV) (n i : Nat) (w : World) (hr : root.length = 32) (hcsr : csr = root.map B) (hl : ListP w vl [p1]) (hrr : ListP w vr [p2]) (hg : GoodPs ([p1] ++ [p2])) (q1 : showF p1 = some (root, n, i)) (q2 : showF p2 = some (root, n, i + 1)) (k1 : Op.bytesLess p1.key key = false) (ht : TabLaid w) :
    Calls Tryd.prog 19 #[.agg csr.toArray, S8 key, .agg #[vl, vr]] w fun e w' => ∃ v, e = .returned v ∧ FaultIs w' v 23 ∧ Below w.heap.size w w' := by
  have hrl : csr.length = 32 := by rw [hcsr, List.length_map]; exact hr
  have HL := Lib.hid hl
  have HR := Lib.hid hrr
  have HA := Lib.hid (And.intro hr (And.intro hcsr (And.intro ht (And.intro hrl hg))))
  obtain ⟨b1, o1, c1, rfl, e1⟩ := listP_at hl
  have HE1 := Lib.hid e1
  have HQ1 := Lib.hid q1
  obtain ⟨b2, o2, c2, rfl, e2⟩ := listP_at hrr
  have HE2 := Lib.hid e2
  have HQ2 := Lib.hid q2
  obtain ⟨x3, hx3⟩ : ∃ n, n = w.heap.size := ⟨_, rfl⟩
  obtain ⟨w1, hw1⟩ : ∃ w1, w1 = w.alloc (.cells csr.toArray 46) := ⟨_, rfl⟩
  obtain ⟨w2, hw2⟩ : ∃ w2, w2 = w1.alloc (.cells #[.slice (some ⟨b1, o1, none⟩) 1 c1, .slice (some ⟨b2, o2, none⟩) 1 c2] 41) := ⟨_, rfl⟩
  have s1 : w1.heap.size = x3 + 1 := by rw [hw1, World.size_alloc, hx3]
  have b1' : Below w.heap.size w w1 := by rw [hw1]; exact (Below.refl _ _).alloc (Nat.le_refl _) _
  have b2' : Below w.heap.size w w2 := by rw [hw2]; exact b1'.alloc b1'.size _
  have z3 : Blk w2 x3 46 csr := by rw [hw2, hw1, hx3]; exact (Blk_new w csr 46).alloc _
  have z5 : Blk w2 (x3 + 1) 41 [.slice (some ⟨b1, o1, none⟩) 1 c1, .slice (some ⟨b2, o2, none⟩) 1 c2] := by rw [← s1, hw2]; exact Blk_new w1 [.slice (some ⟨b1, o1, none⟩) 1 c1, .slice (some ⟨b2, o2, none⟩) 1 c2] 41
  have HW := Lib.hid b2'
  have HX3 := Lib.hid z3
  have HX5 := Lib.hid z5
  have HLD := Lib.hid (ld_hash z3 hrl)
  have d0 := z5.cellD 0 _ rfl
  go_enter Tryd.func19, Tryd.ntmps19
  clear hcsr
  go_upto_region 1 with fail
  change Code.wp _ _ _ _ ((w.alloc (.cells csr.toArray 46)).alloc (.cells #[.slice (some ⟨b1, o1, none⟩) 1 c1, .slice (some ⟨b2, o2, none⟩) 1 c2] 41))
  rw [← hw1, ← hw2, ← hx3]
  clear hw1 hw2 s1 b1' b2' z3 z5 hr hg ht hrl hl hrr hx3 e1 q1 e2 q2
  go_wp2_with (refine wpList_load rfl (.tmp 3) rfl ⟨x3, 0, none⟩ (.agg csr.toArray) rfl HLD.out ?_)
  refine (one_yes root csr _ [p1] _ HA.out.1 HA.out.2.1 (HL.out.below HW.out) (fun p hp => HA.out.2.2.2.2 p (by simp at hp ⊢; exact .inl hp)) (by simp) (by simp; rw [HQ1.out]; simp) (HA.out.2.2.1.below HW.out HA.out.2.2.1.lt)).mono ?_
  rintro e wa0 ⟨rfl, hb⟩
  rw [show oneC [p1] = (shownC (root, n, i)) from by rw [oneC, HQ1.out]; rfl, show oneOk root [p1] = true from by simp [oneOk, HQ1.out]]
  clear d0
  have HW := Lib.hid (below_then HW.out HW.out.size hb)
  have HX3 := Lib.hid (HX3.out.below hb)
  have HX5 := Lib.hid (HX5.out.below hb)
  clear hb
  go_upto_region 2 with (refine wpList_store_blk rfl 122 (.tmp 7) _ rfl wa0.heap.size (shownC (root, n, i)) rfl rfl 122 noShown (heap_alloc_new wa0 _) (by rw [shownC_len _ HA.out.1]; kernel_rfl) (by rw [shownC_len _ HA.out.1]; rfl) (shownC_one _) ?_
                         intro wb0 hz hg
                         have hbb : Below wa0.heap.size wa0 wb0 := ((Below.refl _ _).alloc (Nat.le_refl _) _).grown hg (by simp) (fun q e => by injection e with e; omega)
                         have HW := Lib.hid (below_then HW.out HW.out.size hbb)
                         have HX3 := Lib.hid (HX3.out.below hbb)
                         have HX5 := Lib.hid (HX5.out.below hbb)
                         have HX7 := Lib.hid hz
                         clear hz hg hbb)
  have d1 := HX5.out.cellD 1 _ rfl
  have HLD := Lib.hid (ld_hash HX3.out HA.out.2.2.2.1)
  go_wp2_with (refine wpList_load rfl (.tmp 3) rfl ⟨x3, 0, none⟩ (.agg csr.toArray) rfl HLD.out ?_)
  refine (one_yes root csr _ [p2] _ HA.out.1 HA.out.2.1 (HR.out.below HW.out) (fun p hp => HA.out.2.2.2.2 p (by simp at hp ⊢; exact .inr hp)) (by simp) (by simp; rw [HQ2.out]; simp) (HA.out.2.2.1.below HW.out HA.out.2.2.1.lt)).mono ?_
  rintro e wa1 ⟨rfl, hb⟩
  rw [show oneC [p2] = (shownC (root, n, i + 1)) from by rw [oneC, HQ2.out]; rfl, show oneOk root [p2] = true from by simp [oneOk, HQ2.out]]
  clear d1
  have HW := Lib.hid (below_then HW.out HW.out.size hb)
  have HX3 := Lib.hid (HX3.out.below hb)
  have HX5 := Lib.hid (HX5.out.below hb)
  have HX7 := Lib.hid (HX7.out.below hb)
  clear hb
  go_upto_region 3 with (refine wpList_store_blk rfl 122 (.tmp 10) _ rfl wa1.heap.size (shownC (root, n, i + 1)) rfl rfl 122 noShown (heap_alloc_new wa1 _) (by rw [shownC_len _ HA.out.1]; kernel_rfl) (by rw [shownC_len _ HA.out.1]; rfl) (shownC_one _) ?_
                         intro wb1 hz hg
                         have hbb : Below wa1.heap.size wa1 wb1 := ((Below.refl _ _).alloc (Nat.le_refl _) _).grown hg (by simp) (fun q e => by injection e with e; omega)
                         have HW := Lib.hid (below_then HW.out HW.out.size hbb)
                         have HX3 := Lib.hid (HX3.out.below hbb)
                         have HX5 := Lib.hid (HX5.out.below hbb)
                         have HX7 := Lib.hid (HX7.out.below hbb)
                         have HX10 := Lib.hid hz
                         clear hz hg hbb)
  have d0 := HX5.out.cellD 0 _ rfl
  have d1 := HX5.out.cellD 1 _ rfl
  have e1 := cell_below HE1.out HW.out
  have m1 := shown_at32 HX7.out (by rw [List.length_map]; exact HA.out.1)
  have m2 := shown_at33 HX7.out (by rw [List.length_map]; exact HA.out.1)
  simp only at m1 m2
  have e2 := cell_below HE2.out HW.out
  have m3 := shown_at32 HX10.out (by rw [List.length_map]; exact HA.out.1)
  have m4 := shown_at33 HX10.out (by rw [List.length_map]; exact HA.out.1)
  simp only at m3 m4
  go_wp2_with fail
  refine (fault8_any _ 23 _).mono ?_
  rintro e w9 ⟨ev, rfl, hf, hb⟩
  have HF := Lib.hid (And.intro hf (below_then HW.out HW.out.size hb))
  clear hf hb
  go_wp2
  go_ret
  exact ⟨ev, rfl, HF.out.1, HF.out.2⟩
set_option maxRecDepth 100000 in
set_option maxHeartbeats 2000000 in
theorem vbad_yn (root : List UInt8) (csr : List Value) (key : Str) (vl vr : Value) (p1 : PrfV) (n i : Nat) (w : World) (hr : root.length = 32) (hcsr : csr = root.map B) (hl : ListP w vl [p1]) (hrr : ListP w vr []) (hg : GoodPs ([p1] ++ [])) (q1 : showF p1 = some (root, n, i)) (k1 : Op.bytesLess p1.key key = false) (ht : TabLaid w) :
    Calls Tryd.prog 19 #[.agg csr.toArray, S8 key, .agg #[vl, vr]] w fun e w' => ∃ v, e = .returned v ∧ FaultIs w' v 23 ∧ Below w.heap.size w w' := by
  have hrl : csr.length = 32 := by rw [hcsr, List.length_map]; exact hr
  have HL := Lib.hid hl
  have HR := Lib.hid hrr
  have HA := Lib.hid (And.intro hr (And.intro hcsr (And.intro ht (And.intro hrl hg))))
  obtain ⟨b1, o1, c1, rfl, e1⟩ := listP_at hl
  have HE1 := Lib.hid e1
  have HQ1 := Lib.hid q1
  obtain ⟨A2, c2, rfl⟩ := listP_nil hrr
  obtain ⟨x3, hx3⟩ : ∃ n, n = w.heap.size := ⟨_, rfl⟩
  obtain ⟨w1, hw1⟩ : ∃ w1, w1 = w.alloc (.cells csr.toArray 46) := ⟨_, rfl⟩
  obtain ⟨w2, hw2⟩ : ∃ w2, w2 = w1.alloc (.cells #[.slice (some ⟨b1, o1, none⟩) 1 c1, .slice A2 0 c2] 41) := ⟨_, rfl⟩
  have s1 : w1.heap.size = x3 + 1 := by rw [hw1, World.size_alloc, hx3]
  have b1' : Below w.heap.size w w1 := by rw [hw1]; exact (Below.refl _ _).alloc (Nat.le_refl _) _
  have b2' : Below w.heap.size w w2 := by rw [hw2]; exact b1'.alloc b1'.size _
  have z3 : Blk w2 x3 46 csr := by rw [hw2, hw1, hx3]; exact (Blk_new w csr 46).alloc _
  have z5 : Blk w2 (x3 + 1) 41 [.slice (some ⟨b1, o1, none⟩) 1 c1, .slice A2 0 c2] := by rw [← s1, hw2]; exact Blk_new w1 [.slice (some ⟨b1, o1, none⟩) 1 c1, .slice A2 0 c2] 41
  have HW := Lib.hid b2'
  have HX3 := Lib.hid z3
  have HX5 := Lib.hid z5
  have HLD := Lib.hid (ld_hash z3 hrl)
  have d0 := z5.cellD 0 _ rfl
  go_enter Tryd.func19, Tryd.ntmps19
  clear hcsr
  go_upto_region 1 with fail
  change Code.wp _ _ _ _ ((w.alloc (.cells csr.toArray 46)).alloc (.cells #[.slice (some ⟨b1, o1, none⟩) 1 c1, .slice A2 0 c2] 41))
  rw [← hw1, ← hw2, ← hx3]
  clear hw1 hw2 s1 b1' b2' z3 z5 hr hg ht hrl hl hrr hx3 e1 q1
  go_wp2_with (refine wpList_load rfl (.tmp 3) rfl ⟨x3, 0, none⟩ (.agg csr.toArray) rfl HLD.out ?_)
  refine (one_yes root csr _ [p1] _ HA.out.1 HA.out.2.1 (HL.out.below HW.out) (fun p hp => HA.out.2.2.2.2 p (by simp at hp ⊢; exact hp)) (by simp) (by simp; rw [HQ1.out]; simp) (HA.out.2.2.1.below HW.out HA.out.2.2.1.lt)).mono ?_
  rintro e wa0 ⟨rfl, hb⟩
  rw [show oneC [p1] = (shownC (root, n, i)) from by rw [oneC, HQ1.out]; rfl, show oneOk root [p1] = true from by simp [oneOk, HQ1.out]]
  clear d0
  have HW := Lib.hid (below_then HW.out HW.out.size hb)
  have HX3 := Lib.hid (HX3.out.below hb)
  have HX5 := Lib.hid (HX5.out.below hb)
  clear hb
  go_upto_region 2 with (refine wpList_store_blk rfl 122 (.tmp 7) _ rfl wa0.heap.size (shownC (root, n, i)) rfl rfl 122 noShown (heap_alloc_new wa0 _) (by rw [shownC_len _ HA.out.1]; kernel_rfl) (by rw [shownC_len _ HA.out.1]; rfl) (shownC_one _) ?_
                         intro wb0 hz hg
                         have hbb : Below wa0.heap.size wa0 wb0 := ((Below.refl _ _).alloc (Nat.le_refl _) _).grown hg (by simp) (fun q e => by injection e with e; omega)
                         have HW := Lib.hid (below_then HW.out HW.out.size hbb)
                         have HX3 := Lib.hid (HX3.out.below hbb)
                         have HX5 := Lib.hid (HX5.out.below hbb)
                         have HX7 := Lib.hid hz
                         clear hz hg hbb)
  have d1 := HX5.out.cellD 1 _ rfl
  have HLD := Lib.hid (ld_hash HX3.out HA.out.2.2.2.1)
  go_wp2_with (refine wpList_load rfl (.tmp 3) rfl ⟨x3, 0, none⟩ (.agg csr.toArray) rfl HLD.out ?_)
  refine (one_yes root csr _ [] _ HA.out.1 HA.out.2.1 (HR.out.below HW.out) (fun p hp => by cases hp) (by simp) (by simp) (HA.out.2.2.1.below HW.out HA.out.2.2.1.lt)).mono ?_
  rintro e wa1 ⟨rfl, hb⟩
  rw [show oneC [] = noShown from rfl, show oneOk root [] = true from rfl]
  clear d1
  have HW := Lib.hid (below_then HW.out HW.out.size hb)
  have HX3 := Lib.hid (HX3.out.below hb)
  have HX5 := Lib.hid (HX5.out.below hb)
  have HX7 := Lib.hid (HX7.out.below hb)
  clear hb
  go_upto_region 3 with (refine wpList_store_blk rfl 122 (.tmp 10) _ rfl wa1.heap.size noShown rfl rfl 122 noShown (heap_alloc_new wa1 _) (by kernel_rfl) rfl noShown_one ?_
                         intro wb1 hz hg
                         have hbb : Below wa1.heap.size wa1 wb1 := ((Below.refl _ _).alloc (Nat.le_refl _) _).grown hg (by simp) (fun q e => by injection e with e; omega)
                         have HW := Lib.hid (below_then HW.out HW.out.size hbb)
                         have HX3 := Lib.hid (HX3.out.below hbb)
                         have HX5 := Lib.hid (HX5.out.below hbb)
                         have HX7 := Lib.hid (HX7.out.below hbb)
                         have HX10 := Lib.hid hz
                         clear hz hg hbb)
  have d0 := HX5.out.cellD 0 _ rfl
  have d1 := HX5.out.cellD 1 _ rfl
  have e1 := cell_below HE1.out HW.out
  have m1 := shown_at32 HX7.out (by rw [List.length_map]; exact HA.out.1)
  have m2 := shown_at33 HX7.out (by rw [List.length_map]; exact HA.out.1)
  simp only at m1 m2
  go_wp2_with fail
  refine (fault8_any _ 23 _).mono ?_
  rintro e w9 ⟨ev, rfl, hf, hb⟩
  have HF := Lib.hid (And.intro hf (below_then HW.out HW.out.size hb))
  clear hf hb
  go_wp2
  go_ret
  exact ⟨ev, rfl, HF.out.1, HF.out.2⟩
end Go.Proofs.YtdekealpachhmaaDoor
