/- Layer 5's law: ints, sure by their contracts. -/
import Derived.Test.YtcgdojdiihdkeaaDoorWots6
import Derived.Test.YtcgdojdiihdkeaaDoorEqH
import Derived.BigQuiet
namespace Go.Proofs.YtcgdojdiihdkeaaDoor
open Go Go.RowKit Go.Isth

theorem wpList_want {P : Program} {w : World} {ops : Array Oper} {rest : List Oper} {o : Oper} {a : Act} {Q : Exit → Act → World → Prop} (hw : Region.wanted o (yielded ops a.tmps) = true)
    (h : ∀ K : Act → World → Prop, (∀ a w, wpList P ops Q rest a w → K a w) → o.wp P a w K Q) : wpList P ops Q (o :: rest) a w :=
  wpList_step fun K hK => by rw [if_pos hw]; exact h K hK
/-- A guarded load of a block. -/
theorem wpList_load_want {P : Program} {w : World} {ops : Array Oper} {rest : List Oper} {o : Oper} {a : Act} {Q : Exit → Act → World → Prop} (hw : Region.wanted o (yielded ops a.tmps) = true)
    (ty : TypeId) (x : Operand) (ho : o.op = .load ty x) (g : Nat) (hx : a.eval x = .pointer (some ⟨g, 0, none⟩)) (t : TypeId) (cs : List Value) (d : TypeDesc) (hg : Blk w g t cs)
    (hu : P.underlying ty = some d) (hd : (match d with | .struct _ => true | .array _ _ => true | _ => false) = true) (hi : (P.info? ty).map (·.size) = some cs.length)
    (h : wpList P ops Q rest (a.put o.dst (.agg cs.toArray)) w) : wpList P ops Q (o :: rest) a w := by
  have hl := run_load_agg (P := P) hu hd hi w ⟨g, 0, none⟩ cs rfl (fun j u hj => by rw [add_plain, Nat.zero_add]; exact hg.cellD j u hj)
  refine wpList_want hw fun K hK => ?_
  unfold Oper.wp execOp
  simp [ho, hx, Instr.loadAt, Instr.sureAddr, hl, Oper.upon]
  exact hK _ _ h
theorem aHash5 : ArrB Tryd.prog 28 5 32 := ⟨Tryd.underlying28, Tryd.underlying5, by kernel_rfl, by kernel_rfl, by kernel_rfl⟩
set_option maxHeartbeats 1000000 in
theorem ints_same (A1 A2 : Option Addr) (c1 c2 n : Nat) (L : List Nat) (w : World) (hn : L.length = n) (hl : n ≤ 1000) (h1 : Rd w A1 (L.map I)) (h2 : Rd w A2 (L.map I)) :
    Calls Tryd.prog 52 #[.slice A1 n c1, .slice A2 n c2] w fun e w' => e = .returned (.bool true) ∧ Below w.heap.size w w' := by
  have HT := Lib.hid (And.intro hn (And.intro h1 h2))
  clear hn h1 h2
  go_enter Tryd.func52, Tryd.ntmps52
  go_wp2_with fail
  go_loopw [5] (fun v5 wr => (∃ k : Nat, k ≤ n ∧ v5 = I k) ∧ Below w.heap.size w wr) (fun v5 _ => n - (intOf v5).toNat)
  case atStart => exact ⟨⟨0, Nat.zero_le _, rfl⟩, Below.refl _ _⟩
  case round =>
    obtain ⟨⟨k, hk, rfl⟩, hB⟩ := hrel
    by_cases hlt : k < n
    · obtain ⟨b1, o1, rfl, hb1, hc1⟩ := HT.out.2.1.at_ (by rw [List.length_map, HT.out.1]; omega)
      obtain ⟨b2, o2, rfl, hb2, hc2⟩ := HT.out.2.2.at_ (by rw [List.length_map, HT.out.1]; omega)
      obtain ⟨x, hx⟩ : ∃ x, L[k]? = some x := ⟨_, List.getElem?_eq_getElem (by rw [HT.out.1]; exact hlt)⟩
      have e1 : wr.cell? ⟨b1, o1 + k, none⟩ = some (I x) := by
        rw [(hB.cell (p := ⟨b1, o1 + k, none⟩) hb1), hc1 k (by rw [List.length_map, HT.out.1]; exact hlt)]
        have := (List.getElem?_eq_some_iff.1 hx).2
        simp [this]
      have e2 : wr.cell? ⟨b2, o2 + k, none⟩ = some (I x) := by
        rw [(hB.cell (p := ⟨b2, o2 + k, none⟩) hb2), hc2 k (by rw [List.length_map, HT.out.1]; exact hlt)]
        have := (List.getElem?_eq_some_iff.1 hx).2
        simp [this]
      have HB := Lib.hid hB
      have he : ((x : Int) != (x : Int)) = false := by simp
      clear hB hc1 hc2 hx
      go_wp2_with fail
      go_quiet (fail)
      go_wp2_with fail
      go_roundw
      case rel => exact ⟨⟨k + 1, hlt, by go_num⟩, below_drewN HB.out _⟩
      case measure => simp [intOf]; omega
    · have HB := Lib.hid hB
      clear hB
      go_wp2_with fail
      go_ret
      exact ⟨rfl, HB.out⟩
#print axioms ints_same
theorem digits_18 : digitsW [18] = [1, 2, 0, 1, 11] := by decide
set_option maxRecDepth 100000 in
set_option maxHeartbeats 2000000 in
theorem sure05_any (w : World) (ht : TabLaid w) : Calls Tryd.prog 22 #[] w fun e w' => e = .returned (.bool true) ∧ Below w.heap.size w w' := by
  have HT := Lib.hid ht
  clear ht
  go_enter Tryd.func22, Tryd.ntmps22
  go_wp2_with fail
  have hb0 := (Below.refl w.heap.size w).alloc (Nat.le_refl _) (.cells #[B 18] 5)
  have hr0 := Rd_alloc w #[B 18] 5
  refine (sign_yes Z32 1 (some ⟨w.heap.size, 0, none⟩) 1 [18] _ (by simp) (by decide) (by decide) (by decide) hr0 (HT.out.below hb0 HT.out.lt)).mono ?_
  rintro e w1 ⟨v1, rfl, ho1, hb1⟩
  have hb1' := below_then hb0 hb0.size hb1
  have hsl := signF_length Z32 1 [18]
  have hfs := from_sign Z32 1 [18]
  have hpl := publicF_length Z32 1 1
  rw [show ([18] : List UInt8).length = 1 from rfl] at hsl hfs
  generalize signF Z32 1 [18] = S at *
  have hp0 := public_yes Z32 1 1 w1 (by simp) (by decide) (by decide) (by decide) (HT.out.below hb1' HT.out.lt)
  generalize publicF Z32 1 1 = p at *
  rw [hsl] at ho1
  obtain ⟨A1, c1, rfl, hc1, hrd1, _⟩ := own_slice ho1
  have H1 := Lib.hid (And.intro hb1' (And.intro hrd1 (And.intro hsl (And.intro hfs (And.intro hpl hc1)))))
  have HP := Lib.hid hp0
  clear hb0 hr0 hb1 hb1' hrd1 hsl hfs hpl hc1 ho1 hp0
  go_wp2_with fail
  refine HP.out.mono ?_
  rintro e w2 ⟨rfl, hb2⟩
  have H2 := Lib.hid (And.intro (below_then H1.out.1 H1.out.1.size hb2) (H1.out.2.1.below hb2))
  clear hb2
  have HLL := Lib.hid (show (some 32 : Option Nat) = some (p.map B).length by rw [List.length_map, H1.out.2.2.2.2.1])
  go_wp2_with (refine wpList_store_blk rfl 28 (.tmp 3) (.tmp 16) rfl w2.heap.size (p.map B) rfl rfl 28 _ (heap_alloc_new w2 _) (Eq.trans (by kernel_rfl) HLL.out) (by rw [List.length_map, H1.out.2.2.2.2.1]; rfl) one_bytes ?_; intro w3 hw3 hg3
               have hb3 : Below w2.heap.size w2 w3 := ((Below.refl w2.heap.size w2).alloc (Nat.le_refl _) _).grown hg3 (by simp) (fun r e => by injection e with e; omega)
               have H3 := Lib.hid (And.intro hw3 (And.intro (below_then H2.out.1 H2.out.1.size hb3) (H2.out.2.below hb3)))
               clear hw3 hg3 hb3)
  have hb4 := H3.out.2.1.alloc H3.out.2.1.size (.cells #[B 18] 5)
  have hr4 := Rd_alloc w3 #[B 18] 5
  have hrs := H3.out.2.2.alloc (.cells #[B 18] 5)
  have hfy := frm_yes A1 (some ⟨w3.heap.size, 0, none⟩) c1 1 160 1 S [18] (w3.alloc (.cells #[B 18] 5)) (by decide) (by decide) (by decide) (by decide) H1.out.2.2.1 H1.out.2.2.2.2.2 hrs hr4 (HT.out.below hb4 HT.out.lt)
  rw [H1.out.2.2.2.1] at hfy
  have hp4 := H3.out.1.alloc (.cells #[B 18] 5)
  refine hfy.mono ?_
  rintro e w5 ⟨rfl, hb5⟩
  have H5 := Lib.hid (And.intro (below_then hb4 hb4.size hb5) (hp4.below hb5))
  have HLT := Lib.hid (show w2.heap.size < w3.heap.size ∧ w3.heap.size < w5.heap.size by have := H3.out.1.lt; have := hb5.size; rw [World.size_alloc] at this; omega)
  clear hb4 hr4 hrs hfy hp4 hb5
  have hd : digitsW [18] = [1, 2, 0, 1, 11] := digits_18
  have HD := Lib.hid hd
  clear hd
  go_wp2_with (refine wpList_store_blk rfl 28 (.tmp 5) (.tmp 22) rfl w5.heap.size (p.map B) rfl rfl 28 _ (heap_alloc_new w5 _) (Eq.trans (by kernel_rfl) HLL.out) (by rw [List.length_map, H1.out.2.2.2.2.1]; rfl) one_bytes ?_; intro w6 hw6 hg6
               have hb6 : Below w5.heap.size w5 w6 := ((Below.refl w5.heap.size w5).alloc (Nat.le_refl _) _).grown hg6 (by simp) (fun r e => by injection e with e; omega)
               have H6 := Lib.hid (And.intro hw6 (And.intro (below_then H5.out.1 H5.out.1.size hb6) (H5.out.2.below hb6)))
               clear hw6 hg6 hb6)
  have hb7 := H6.out.2.1.alloc H6.out.2.1.size (.cells #[B 18] 5)
  have hr7 := Rd_alloc w6 #[B 18] 5
  refine (digits_any (some ⟨w6.heap.size, 0, none⟩) 1 [18] _ (by decide) (by decide) hr7).mono ?_
  rintro e w8 ⟨v8, rfl, ho8, hb8⟩
  rw [HD.out] at ho8
  obtain ⟨A8, c8, rfl, _, hrd8, _⟩ := own_slice ho8
  have H8 := Lib.hid (And.intro hrd8 (And.intro (below_then hb7 hb7.size hb8) (And.intro ((H6.out.2.2.alloc (.cells #[B 18] 5)).below hb8) ((H6.out.1.alloc (.cells #[B 18] 5)).below hb8))))
  clear hb7 hr7 ho8 hrd8 hb8
  go_wp2_with fail
  have hr9 := Rd_alloc w8 #[I 1, I 2, I 0, I 1, I 11] 3
  have hb9 : Below w8.heap.size w8 (w8.alloc (.cells #[I 1, I 2, I 0, I 1, I 11] 3)) := (Below.refl _ _).alloc (Nat.le_refl _) _
  have hb9' := below_then H8.out.2.1 H8.out.2.1.size hb9
  refine (ints_same A8 (some ⟨w8.heap.size, 0, none⟩) c8 5 5 [1, 2, 0, 1, 11] _ rfl (by decide) (H8.out.1.below hb9) hr9).mono ?_
  rintro e w10 ⟨rfl, hb10⟩
  have H10 := Lib.hid (And.intro (below_then hb9' hb9'.size hb10) (And.intro ((H8.out.2.2.1.below hb9).below hb10) ((H8.out.2.2.2.below hb9).below hb10)))
  clear hr9 hb9 hb9' hb10
  obtain ⟨csp, hcsp⟩ : ∃ csp, p.map B = csp := ⟨_, rfl⟩
  have heq : ∀ wx, (binOp .eql 28 (.agg csp.toArray) (.agg csp.toArray)).run Tryd.prog wx = .ok (.bool true) wx := by
    intro wx
    have h := run_eql_bytes aHash5 wx p p H1.out.2.2.2.2.1 H1.out.2.2.2.2.1
    rw [hcsp] at h
    simpa using h
  rw [hcsp] at H10 HLL
  have HC := Lib.hid hcsp
  clear hcsp
  go_wp2_with (first
    | (refine wpList_load_want (by kernel_rfl) 28 (.tmp 3) rfl w2.heap.size rfl 28 csp _ H10.out.2.1 Tryd.underlying28 rfl (Eq.trans (by kernel_rfl) HLL.out) ?_)
    | (refine wpList_load_want (by kernel_rfl) 28 (.tmp 5) rfl w5.heap.size rfl 28 csp _ H10.out.2.2 Tryd.underlying28 rfl (Eq.trans (by kernel_rfl) HLL.out) ?_))
  go_ret
  exact ⟨rfl, H10.out.1⟩
#print axioms sure05_any
end Go.Proofs.YtcgdojdiihdkeaaDoor
