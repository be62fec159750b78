/- ShaTrees: the walk. -/
import Derived.Test.YtcgdojdiihdkeaaDoorTrees2
namespace Go.Proofs.YtcgdojdiihdkeaaDoor
open Go Go.RowKit Go.Isth

/-- What stands from the leaf's sum on. -/
structure GoodT (w : World) (A7 A8 A10 : Option Addr) (l op : List (List UInt8)) (g12 : Nat) (csl : List Value) (v9 : Value) (kp : Nat) (wc : World) : Prop where
  bl : Below w.heap.size w wc
  r7 : Rd wc A7 (cellsH l)
  r8 : Rd wc A8 (cellsH op)
  r10 : Rd wc A10 (cellsH op)
  b12 : Blk wc g12 28 csl
  n9 : N1Is wc v9 kp
theorem GoodT.below {w : World} {A7 A8 A10 : Option Addr} {l op : List (List UInt8)} {g12 : Nat} {csl : List Value} {v9 : Value} {kp : Nat} {wc w' : World} (h : GoodT w A7 A8 A10 l op g12 csl v9 kp wc) (hb : Below wc.heap.size wc w') : GoodT w A7 A8 A10 l op g12 csl v9 kp w' :=
  ⟨below_then h.bl h.bl.size hb, h.r7.below hb, h.r8.below hb, h.r10.below hb, h.b12.below hb, h.n9.below hb⟩
set_option maxRecDepth 100000 in
set_option maxHeartbeats 4000000 in
theorem trees_any (A0 A2 : Option Addr) (n c0 m c2 : Nat) (i : Int) (l : List (List UInt8)) (bs : List UInt8) (w : World) (hl : l.length = n) (hc : n ≤ c0) (h32 : All32 l) (hr : Rd w A0 (cellsH l)) (hm : bs.length = m) (hmb : m ≤ 140737488351232) (hrb : Rd w A2 (bs.map B)) (ht : TabLaid w) (htl : TypeLaid w) :
    Calls Tryd.prog 11 #[.slice A0 n c0, .int .i64 i, .slice A2 m c2] w fun e w' => e = .returned (.bool true) ∧ Below w.heap.size w w' := by
  by_cases hbig : 200 < n
  · have HT := Lib.hid ht
    have hbI : (200 : Int) < (n : Int) := by omega
    clear hl hc h32 hr hm hmb hrb ht htl hbig
    go_enter Tryd.func11, Tryd.ntmps11
    go_wp2_with fail
    refine (sure01_any w HT.out).mono ?_
    rintro e w1 ⟨rfl, hb⟩
    have HB := Lib.hid hb
    clear hb
    go_wp2_with fail
    go_ret
    exact ⟨rfl, HB.out⟩
  have HT := Lib.hid (And.intro trivial (And.intro hm (And.intro (show m ≤ 140737488355328 by omega) (And.intro hrb (And.intro hmb (And.intro hl (And.intro hc (And.intro (show n ≤ 1000 by omega) (And.intro h32 hr)))))))))
  have ht : Hid (TabLaid w ∧ TypeLaid w) := Lib.hid ⟨ht, htl⟩
  have hbI : ¬ (200 : Int) < (n : Int) := by omega
  have hnI : (n : Int) ≤ 200 := by omega
  have hn200 : n ≤ 200 := by omega
  clear hl hc h32 hr hm hmb hrb htl hbig
  obtain ⟨op, kp, hP⟩ := PathIs.any i n l
  obtain ⟨M, hM⟩ : ∃ M, op.length = M := ⟨_, rfl⟩
  have hrow := hP.row HT.out.2.2.2.2.2.1 HT.out.2.2.2.2.2.2.2.2.1
  have HP := Lib.hid (And.intro hP (And.intro hM (And.intro hrow.1 (show M ≤ 1000 by have := hrow.2; omega))))
  obtain ⟨o1, k1, hF1⟩ := FoldIs.any (leafF bs) i n l
  obtain ⟨o2, k2, hF2⟩ := FoldIs.any (leafF bs) i n op
  have ho1 := hF1.length (leafF_length bs)
  have ho2 := hF2.length (leafF_length bs)
  have HF := Lib.hid (And.intro hF1 hF2)
  obtain ⟨csl, hcsl⟩ : ∃ cs, cs = (leafF bs).map B := ⟨_, rfl⟩
  obtain ⟨csz, hcsz⟩ : ∃ cs, cs = List.replicate 32 (B 0) := ⟨_, rfl⟩
  obtain ⟨csn, hcsn⟩ : ∃ cs, cs = (nodeF (leafF bs) Y32).map B := ⟨_, rfl⟩
  obtain ⟨csr, hcsr⟩ : ∃ cs, cs = (rootH l).map B := ⟨_, rfl⟩
  obtain ⟨cs1, hcs1⟩ : ∃ cs, cs = o1.map B := ⟨_, rfl⟩
  obtain ⟨cs2, hcs2⟩ : ∃ cs, cs = o2.map B := ⟨_, rfl⟩
  have heqv : ∀ (cs : List Value) (x : List UInt8), cs = x.map B → x.length = 32 → ∀ wx, (binOp .eql 28 (.agg cs.toArray) (.agg cs.toArray)).run Tryd.prog wx = .ok (.bool true) wx := by
    intro cs x hx hxl wx
    have h := run_eql_bytes aHash wx x x hxl hxl
    rw [← hx] at h
    simpa using h
  have heql := heqv csl _ hcsl (leafF_length _)
  have heqn := heqv csn _ hcsn (nodeF_length _ _)
  have heqr := heqv csr _ hcsr (rootH_length _ HT.out.2.2.2.2.2.2.2.2.1)
  have heq1 := heqv cs1 _ hcs1 ho1
  have heq2 := heqv cs2 _ hcs2 ho2
  have hll : csl.length = 32 := by rw [hcsl, List.length_map, leafF_length]
  have h1l : cs1.length = 32 := by rw [hcs1, List.length_map, ho1]
  have h2l : cs2.length = 32 := by rw [hcs2, List.length_map, ho2]
  have hone_l : ∀ u ∈ csl, u.oneCell' = true := by rw [hcsl]; exact one_bytes
  have hone_1 : ∀ u ∈ cs1, u.oneCell' = true := by rw [hcs1]; exact one_bytes
  have hone_2 : ∀ u ∈ cs2, u.oneCell' = true := by rw [hcs2]; exact one_bytes
  have hil : (Tryd.prog.info? 28).map (·.size) = some csl.length := by rw [hll]; kernel_rfl
  have hi1 : (Tryd.prog.info? 28).map (·.size) = some cs1.length := by rw [h1l]; kernel_rfl
  have hi2 : (Tryd.prog.info? 28).map (·.size) = some cs2.length := by rw [h2l]; kernel_rfl
  have hu28 := Tryd.underlying28
  have HLL := Lib.hid (show (some 32 : Option Nat) = some csl.length by rw [hll])
  have HL1 := Lib.hid (show (some 32 : Option Nat) = some cs1.length by rw [h1l])
  have HL2 := Lib.hid (show (some 32 : Option Nat) = some cs2.length by rw [h2l])
  have HCS := Lib.hid (And.intro hcsl (And.intro hcsz (And.intro hcsn (And.intro hcsr (And.intro hcs1 hcs2)))))
  clear hcsl hcsz hcsn hcsr hcs1 hcs2 heqv hP hM hrow hF1 hF2 ho1 ho2
  go_enter Tryd.func11, Tryd.ntmps11
  have HCL := Lib.hid (show (cellsH l).length = n * 32 by rw [cellsH_length HT.out.2.2.2.2.2.2.2.2.1, HT.out.2.2.2.2.2.1])
  have HML := Lib.hid (show 0 + n ≤ maxLen ∧ (0 + n) * 32 ≤ 140737488355328 by unfold maxLen; omega)
  go_wp2_with (at_builtin; refine wpList_app tHs rfl _ _ rfl w.heap.size (.slice none 0 0) 0 [] rfl (World.ownsRow_nil _ _ _ _) A0 n c0 (cellsH l) rfl HT.out.2.2.2.2.2.2.2.2.2 HCL.out cellsH_one HML.out.1 HML.out.2 (Nat.le_refl _) ?_)
  intro v1 w1 ho1 hx1
  have hb1 := hx1.below (B := w.heap.size) (Nat.le_refl _) (fun k e => by cases e)
  have ho1' : w1.ownsRow w.heap.size 28 32 v1 n (cellsH l) := by simpa using ho1
  obtain ⟨A7, c7, rfl, hc7, hr7, _⟩ := own_slice ho1'
  have H1 := Lib.hid (And.intro hb1 (And.intro hr7 hc7))
  clear ho1 ho1' hx1 hb1 hr7 hc7
  go_wp2_with fail
  refine (wpath_all A7 c7 n kp M i l op w1 w HP.out.1 HP.out.2.1 HT.out.2.2.2.2.2.1 H1.out.2.2 HT.out.2.2.2.2.2.2.2.1 HT.out.2.2.2.2.2.2.2.2.1 H1.out.2.1 H1.out.1 ht.out.1).mono ?_
  rintro e w2 ⟨A8, c8, v9, rfl, hc8, hr8, hn9, hb2⟩
  have H2 := Lib.hid (And.intro (below_then H1.out.1 H1.out.1.size hb2) (And.intro (H1.out.2.1.below hb2) (And.intro hr8 (And.intro hn9 hc8))))
  clear hc8 hr8 hn9 hb2
  go_wp2_with fail
  refine (rpath_all A0 c0 n kp M i l op w2 HP.out.1 HP.out.2.1 HT.out.2.2.2.2.2.1 HT.out.2.2.2.2.2.2.1 HT.out.2.2.2.2.2.2.2.1 HT.out.2.2.2.2.2.2.2.2.1 (HT.out.2.2.2.2.2.2.2.2.2.below H2.out.1)).mono ?_
  rintro e w3 ⟨A10, c10, rfl, hc10, hr10, hb3⟩
  have H3 := Lib.hid (And.intro (below_then H2.out.1 H2.out.1.size hb3) (And.intro (H2.out.2.1.below hb3) (And.intro (H2.out.2.2.1.below hb3) (And.intro (H2.out.2.2.2.1.below hb3) (And.intro hr10 hc10)))))
  clear hc10 hr10 hb3
  go_wp2_with fail
  refine (rleaf1_any A2 c2 m bs csl w3 HT.out.2.1 HT.out.2.2.2.2.1 HCS.out.1 (HT.out.2.2.2.1.below H3.out.1)).mono ?_
  rintro e w4 ⟨rfl, hb4⟩
  have H4 := Lib.hid (And.intro (below_then H3.out.1 H3.out.1.size hb4) (And.intro (H3.out.2.1.below hb4) (And.intro (H3.out.2.2.1.below hb4) (And.intro (H3.out.2.2.2.1.below hb4) (H3.out.2.2.2.2.1.below hb4)))))
  clear hb4
  go_wp2_with (first
    | (refine wpList_store_blk rfl 28 (.tmp 12) (.tmp 41) rfl w4.heap.size csl rfl rfl 28 _ (heap_alloc_new w4 _) (Eq.trans (by kernel_rfl) HLL.out) (by rw [hll]; rfl) hone_l ?_; intro w5 hw5 hg5
       have hb5 : Below w4.heap.size w4 w5 := ((Below.refl w4.heap.size w4).alloc (Nat.le_refl _) _).grown hg5 (by simp) (fun r e => by injection e with e; omega)
       have H5 : Hid (GoodT w A7 A8 A10 l op w4.heap.size csl v9 kp w5) := Lib.hid ⟨below_then H4.out.1 H4.out.1.size hb5, H4.out.2.1.below hb5, H4.out.2.2.1.below hb5, H4.out.2.2.2.2.below hb5, hw5, H4.out.2.2.2.1.below hb5⟩
       clear hw5 hg5 hb5)
    | (refine wpList_load_blk rfl 28 (.tmp 12) rfl w4.heap.size rfl 28 csl _ H5.out.b12 Tryd.underlying28 rfl (Eq.trans (by kernel_rfl) HLL.out) ?_))
  generalize w4.heap.size = g12 at *
  refine (wfold_all csl cs1 (leafF bs) o1 i n n c0 k1 A0 l w5 w HF.out.1 HCS.out.1 HCS.out.2.2.2.2.1 (leafF_length _) HT.out.2.2.2.2.2.2.2.1 HT.out.2.2.2.2.2.1 HT.out.2.2.2.2.2.2.1 HT.out.2.2.2.2.2.2.2.2.1 (HT.out.2.2.2.2.2.2.2.2.2.below H5.out.bl) H5.out.bl ht.out.1).mono ?_
  rintro e w6 ⟨v14, rfl, hn14, hb6⟩
  have H6 := Lib.hid (And.intro (H5.out.below hb6) hn14)
  clear hb6 hn14
  go_wp2_with (first
    | (refine wpList_store_blk rfl 28 (.tmp 13) (.tmp 49) rfl w6.heap.size cs1 rfl rfl 28 _ (heap_alloc_new w6 _) (Eq.trans (by kernel_rfl) HL1.out) (by rw [h1l]; rfl) hone_1 ?_; intro w7 hw7 hg7
       have hb7 : Below w6.heap.size w6 w7 := ((Below.refl w6.heap.size w6).alloc (Nat.le_refl _) _).grown hg7 (by simp) (fun r e => by injection e with e; omega)
       have H7 := Lib.hid (And.intro (H6.out.1.below hb7) (And.intro (H6.out.2.below hb7) hw7))
       clear hw7 hg7 hb7)
    | (refine wpList_load_blk rfl 28 (.tmp 12) rfl g12 rfl 28 csl _ H7.out.1.b12 Tryd.underlying28 rfl (Eq.trans (by kernel_rfl) HLL.out) ?_))
  generalize w6.heap.size = g13 at *
  refine (rfold_all csl cs1 (leafF bs) o1 i n n c0 k1 A0 l w7 HF.out.1 HCS.out.1 HCS.out.2.2.2.2.1 (leafF_length _) HT.out.2.2.2.2.2.2.2.1 HT.out.2.2.2.2.2.1 HT.out.2.2.2.2.2.2.1 HT.out.2.2.2.2.2.2.2.2.1 (HT.out.2.2.2.2.2.2.2.2.2.below H7.out.1.bl)).mono ?_
  rintro e w8 ⟨rfl, hb8⟩
  have H8 := Lib.hid (And.intro (H7.out.1.below hb8) (And.intro (H7.out.2.1.below hb8) (H7.out.2.2.below hb8)))
  clear hb8
  go_wp2_with (first
    | (refine wpList_store_blk rfl 28 (.tmp 15) (.tmp 58) rfl w8.heap.size cs1 rfl rfl 28 _ (heap_alloc_new w8 _) (Eq.trans (by kernel_rfl) HL1.out) (by rw [h1l]; rfl) hone_1 ?_; intro w9 hw9 hg9
       have hb9 : Below w8.heap.size w8 w9 := ((Below.refl w8.heap.size w8).alloc (Nat.le_refl _) _).grown hg9 (by simp) (fun r e => by injection e with e; omega)
       have H9 := Lib.hid (And.intro (H8.out.1.below hb9) (And.intro (H8.out.2.1.below hb9) (And.intro (H8.out.2.2.below hb9) hw9)))
       clear hw9 hg9 hb9)
    | (refine wpList_load_blk rfl 28 (.tmp 12) rfl g12 rfl 28 csl _ H9.out.1.b12 Tryd.underlying28 rfl (Eq.trans (by kernel_rfl) HLL.out) ?_))
  generalize w8.heap.size = g15 at *
  refine (wfold_all csl cs2 (leafF bs) o2 i n M c8 k2 A8 op w9 w HF.out.2 HCS.out.1 HCS.out.2.2.2.2.2 (leafF_length _) HT.out.2.2.2.2.2.2.2.1 HP.out.2.1 H2.out.2.2.2.2 HP.out.2.2.1 H9.out.1.r8 H9.out.1.bl ht.out.1).mono ?_
  rintro e w10 ⟨v18, rfl, hn18, hb10⟩
  have H10 := Lib.hid (And.intro (H9.out.1.below hb10) (And.intro (H9.out.2.1.below hb10) (And.intro (H9.out.2.2.1.below hb10) (And.intro (H9.out.2.2.2.below hb10) hn18))))
  clear hb10 hn18
  go_wp2_with (first
    | (refine wpList_store_blk rfl 28 (.tmp 17) (.tmp 67) rfl w10.heap.size cs2 rfl rfl 28 _ (heap_alloc_new w10 _) (Eq.trans (by kernel_rfl) HL2.out) (by rw [h2l]; rfl) hone_2 ?_; intro w11 hw11 hg11
       have hb11 : Below w10.heap.size w10 w11 := ((Below.refl w10.heap.size w10).alloc (Nat.le_refl _) _).grown hg11 (by simp) (fun r e => by injection e with e; omega)
       have H11 := Lib.hid (And.intro (H10.out.1.below hb11) (And.intro (H10.out.2.1.below hb11) (And.intro (H10.out.2.2.1.below hb11) (And.intro (H10.out.2.2.2.1.below hb11) (And.intro (H10.out.2.2.2.2.below hb11) hw11)))))
       clear hw11 hg11 hb11)
    | (refine wpList_load_blk rfl 28 (.tmp 12) rfl g12 rfl 28 csl _ H11.out.1.b12 Tryd.underlying28 rfl (Eq.trans (by kernel_rfl) HLL.out) ?_))
  generalize w10.heap.size = g17 at *
  refine (rfold_all csl cs2 (leafF bs) o2 i n M c10 k2 A10 op w11 HF.out.2 HCS.out.1 HCS.out.2.2.2.2.2 (leafF_length _) HT.out.2.2.2.2.2.2.2.1 HP.out.2.1 H3.out.2.2.2.2.2 HP.out.2.2.1 H11.out.1.r10).mono ?_
  rintro e w12 ⟨rfl, hb12⟩
  have H12 := Lib.hid (And.intro (H11.out.1.below hb12) (And.intro (H11.out.2.1.below hb12) (And.intro (H11.out.2.2.1.below hb12) (And.intro (H11.out.2.2.2.1.below hb12) (And.intro (H11.out.2.2.2.2.1.below hb12) (H11.out.2.2.2.2.2.below hb12))))))
  clear hb12
  go_wp2_with (refine wpList_store_blk rfl 28 (.tmp 19) (.tmp 76) rfl w12.heap.size cs2 rfl rfl 28 _ (heap_alloc_new w12 _) (Eq.trans (by kernel_rfl) HL2.out) (by rw [h2l]; rfl) hone_2 ?_; intro w20 hw20 hg20)
  have hb20 : Below w12.heap.size w12 w20 := ((Below.refl w12.heap.size w12).alloc (Nat.le_refl _) _).grown hg20 (by simp) (fun r e => by injection e with e; omega)
  have HN := Lib.hid (show Below w.heap.size w w20 ∧ Rd w20 A7 (cellsH l) ∧ Rd w20 A8 (cellsH op) ∧ Rd w20 A10 (cellsH op) ∧ n ≤ c7 ∧ N1Is w20 v9 kp ∧ N1Is w20 v14 k1 ∧ N1Is w20 v18 k2 from
    ⟨(H12.out.1.below hb20).bl, (H12.out.1.below hb20).r7, (H12.out.1.below hb20).r8, (H12.out.1.below hb20).r10, H1.out.2.2, (H12.out.1.below hb20).n9, H12.out.2.1.below hb20, H12.out.2.2.2.2.1.below hb20⟩)
  have HTS : Hid (∀ w', Below w20.heap.size w20 w' → w'.rangeAt g12 0 csl ∧ w'.rangeAt g13 0 cs1 ∧ w'.rangeAt g15 0 cs1 ∧ w'.rangeAt g17 0 cs2 ∧ w'.rangeAt w12.heap.size 0 cs2) := by
    refine Lib.hid (fun w' hw' => ?_)
    have hx := below_then hb20 hb20.size hw'
    refine ⟨fun j u hj => ?_, fun j u hj => ?_, fun j u hj => ?_, fun j u hj => ?_, fun j u hj => ?_⟩
    · rw [Nat.zero_add]; exact (H12.out.1.below hx).b12.cellD j u hj
    · rw [Nat.zero_add]; exact (H12.out.2.2.1.below hx).cellD j u hj
    · rw [Nat.zero_add]; exact (H12.out.2.2.2.1.below hx).cellD j u hj
    · rw [Nat.zero_add]; exact (H12.out.2.2.2.2.2.below hx).cellD j u hj
    · rw [Nat.zero_add]; exact (hw20.below hw').cellD j u hj
  clear hw20 hg20 hb20
  generalize w12.heap.size = g19 at *
  go_wp2_with fail
  refine wp_region_held_drew (S := (fun w' => w'.rangeAt g12 0 csl ∧ w'.rangeAt g13 0 cs1 ∧ w'.rangeAt g15 0 cs1 ∧ w'.rangeAt g17 0 cs2 ∧ w'.rangeAt g19 0 cs2)) (by kernel_rfl) ?qs0 (fun hHeld => ?_)
  case qs0 => exact HTS.out _ (refl_drewN _ 1)
  refine held_take (i := 0) (v := ?qv0) rfl (by kernel_rfl) (by kernel_rfl) (by kernel_rfl) (fun _ _ _ h => h) (by rfl) ?qy0 hHeld ?_
  case qy0 => ((intro w _hSw; (try dsimp only at _hSw); go_simp); try (with_reducible rfl))
  try simp only [Act.put, List.setIfInBounds_toArray, List.set_cons_zero, List.set_cons_succ]
  refine held_row (i := 3) rfl (by kernel_rfl) (by kernel_rfl) (by kernel_rfl) _ _ rfl _ _ rfl ?qC3 ?qD3 (fun _ _ _ h => h) (by rfl) ?qa3 ?qb3 ?qc3 ?qd3 hHeld ?_
  case qa3 => (intro w hSw; (try dsimp only at hSw); go_split_ands; assumption)
  case qb3 => assumption
  case qc3 => rfl
  case qd3 => first | assumption | (simp only [*]; done)
  try simp only [Act.put, List.setIfInBounds_toArray, List.set_cons_zero, List.set_cons_succ]
  refine held_step (i := 1) rfl (by kernel_rfl) (by rfl) (fun K hK => ?_)
  go_simp
  refine (twin01_to A2 c2 m bs _ w HT.out.2.1 HT.out.2.2.1 HT.out.2.2.2.1 (below_then HN.out.1 HN.out.1.size (refl_drewN _ 1))).mono ?_
  rintro e wa ⟨At, ct, rfl, hct, hrt, _, hb⟩
  have J1 := Lib.hid (And.intro (below_then (refl_drewN w20 1) (Nat.le_refl _) hb) (And.intro hct hrt))
  clear hb hct hrt
  go_wp2_with fail
  have hHeld := HTS.out _ J1.out.1
  refine hK.out _ _ (HTS.out _ J1.out.1) ?_
  clear hK K
  try simp only [Act.put, List.setIfInBounds_toArray, List.set_cons_zero, List.set_cons_succ]
  refine held_step (i := 2) rfl (by kernel_rfl) (by rfl) (fun K hK => ?_)
  go_simp
  refine (wleaf_to At ct m bs csl wa w HT.out.2.1 HT.out.2.2.2.2.1 HCS.out.1 J1.out.2.2 (below_then HN.out.1 HN.out.1.size J1.out.1) ht.out.1).mono ?_
  rintro e wb ⟨rfl, hb⟩
  have J2 := Lib.hid (below_then J1.out.1 J1.out.1.size hb)
  clear hb
  go_wp2_with fail
  have hHeld := HTS.out _ J2.out
  refine hK.out _ _ (HTS.out _ J2.out) ?_
  clear hK K
  try simp only [Act.put, List.setIfInBounds_toArray, List.set_cons_zero, List.set_cons_succ]
  refine held_take (i := 4) (v := ?qv4) rfl (by kernel_rfl) (by kernel_rfl) (by kernel_rfl) (fun _ _ _ h => h) (by rfl) ?qy4 hHeld ?_
  case qy4 => ((intro w _hSw; (try dsimp only at _hSw); go_simp); try (with_reducible rfl))
  try simp only [Act.put, List.setIfInBounds_toArray, List.set_cons_zero, List.set_cons_succ]
  refine held_take (i := 5) (v := ?qv5) rfl (by kernel_rfl) (by kernel_rfl) (by kernel_rfl) (fun _ _ _ h => h) (by rfl) ?qy5 hHeld ?_
  case qy5 => ((intro w _hSw; (try dsimp only at _hSw); go_simp); try (with_reducible rfl))
  try simp only [Act.put, List.setIfInBounds_toArray, List.set_cons_zero, List.set_cons_succ]
  refine held_row (i := 6) rfl (by kernel_rfl) (by kernel_rfl) (by kernel_rfl) _ _ rfl _ _ rfl ?qC6 ?qD6 (fun _ _ _ h => h) (by rfl) ?qa6 ?qb6 ?qc6 ?qd6 hHeld ?_
  case qa6 => (intro w hSw; (try dsimp only at hSw); go_split_ands; assumption)
  case qb6 => assumption
  case qc6 => rfl
  case qd6 => first | assumption | (simp only [*]; done)
  try simp only [Act.put, List.setIfInBounds_toArray, List.set_cons_zero, List.set_cons_succ]
  refine held_row (i := 9) rfl (by kernel_rfl) (by kernel_rfl) (by kernel_rfl) _ _ rfl _ _ rfl ?qC9 ?qD9 (fun _ _ _ h => h) (by rfl) ?qa9 ?qb9 ?qc9 ?qd9 hHeld ?_
  case qa9 => (intro w hSw; (try dsimp only at hSw); go_split_ands; assumption)
  case qb9 => assumption
  case qc9 => rfl
  case qd9 => first | assumption | (simp only [*]; done)
  try simp only [Act.put, List.setIfInBounds_toArray, List.set_cons_zero, List.set_cons_succ]
  refine held_take (i := 7) (v := (.agg csz.toArray)) rfl (by kernel_rfl) (by kernel_rfl) (by kernel_rfl) (fun _ _ _ h => h) (by rfl) ?qy7 hHeld ?_
  case qy7 => (intro w _; go_simp; rw [HCS.out.2.1]; rfl)
  try simp only [Act.put, List.setIfInBounds_toArray, List.set_cons_zero, List.set_cons_succ]
  refine held_take (i := 10) (v := (.agg csz.toArray)) rfl (by kernel_rfl) (by kernel_rfl) (by kernel_rfl) (fun _ _ _ h => h) (by rfl) ?qy10 hHeld ?_
  case qy10 => (intro w _; go_simp; rw [HCS.out.2.1]; rfl)
  try simp only [Act.put, List.setIfInBounds_toArray, List.set_cons_zero, List.set_cons_succ]
  refine held_step (i := 8) rfl (by kernel_rfl) (by rfl) (fun K hK => ?_)
  go_simp
  refine (wnode_to csl csz csn (leafF bs) Y32 wb w HCS.out.1 HCS.out.2.1 HCS.out.2.2.1 (leafF_length _) rfl (below_then HN.out.1 HN.out.1.size J2.out) ht.out.1).mono ?_
  rintro e wd ⟨rfl, hb⟩
  have J3 := Lib.hid (below_then J2.out J2.out.size hb)
  clear hb
  go_wp2_with fail
  have hHeld := HTS.out _ J3.out
  refine hK.out _ _ (HTS.out _ J3.out) ?_
  clear hK K
  try simp only [Act.put, List.setIfInBounds_toArray, List.set_cons_zero, List.set_cons_succ]
  refine held_step (i := 11) rfl (by kernel_rfl) (by rfl) (fun K hK => ?_)
  go_simp
  refine (rnode_any (leafF bs) Y32 csl csz csn HCS.out.1 (by rw [HCS.out.2.1]; rfl) HCS.out.2.2.1 (leafF_length _) rfl wd).mono ?_
  rintro e we ⟨rfl, hb⟩
  have J4 := Lib.hid (below_then J3.out J3.out.size hb)
  clear hb
  go_wp2_with fail
  have hHeld := HTS.out _ J4.out
  refine hK.out _ _ (HTS.out _ J4.out) ?_
  clear hK K
  try simp only [Act.put, List.setIfInBounds_toArray, List.set_cons_zero, List.set_cons_succ]
  refine held_take (i := 12) (v := ?qv12) rfl (by kernel_rfl) (by kernel_rfl) (by kernel_rfl) (fun _ _ _ h => h) (by rfl) ?qy12 hHeld ?_
  case qy12 => ((intro w _hSw; (try dsimp only at _hSw); go_simp); try (with_reducible rfl))
  try simp only [Act.put, List.setIfInBounds_toArray, List.set_cons_zero, List.set_cons_succ]
  refine held_take (i := 13) (v := ?qv13) rfl (by kernel_rfl) (by kernel_rfl) (by kernel_rfl) (fun _ _ _ h => h) (by rfl) ?qy13 hHeld ?_
  case qy13 => ((intro w _hSw; (try dsimp only at _hSw); go_simp); try (with_reducible rfl))
  try simp only [Act.put, List.setIfInBounds_toArray, List.set_cons_zero, List.set_cons_succ]
  refine held_take (i := 14) (v := ?qv14) rfl (by kernel_rfl) (by kernel_rfl) (by kernel_rfl) (fun _ _ _ h => h) (by rfl) ?qy14 hHeld ?_
  case qy14 => ((intro w _hSw; (try dsimp only at _hSw); go_simp); try (with_reducible rfl))
  try simp only [Act.put, List.setIfInBounds_toArray, List.set_cons_zero, List.set_cons_succ]
  refine held_take (i := 15) (v := ?qv15) rfl (by kernel_rfl) (by kernel_rfl) (by kernel_rfl) (fun _ _ _ h => h) (by rfl) ?qy15 hHeld ?_
  case qy15 => ((intro w _hSw; (try dsimp only at _hSw); go_simp); try (with_reducible rfl))
  try simp only [Act.put, List.setIfInBounds_toArray, List.set_cons_zero, List.set_cons_succ]
  refine held_take (i := 17) (v := ?qv17) rfl (by kernel_rfl) (by kernel_rfl) (by kernel_rfl) (fun _ _ _ h => h) (by rfl) ?qy17 hHeld ?_
  case qy17 => ((intro w _hSw; (try dsimp only at _hSw); go_simp); try (with_reducible rfl))
  try simp only [Act.put, List.setIfInBounds_toArray, List.set_cons_zero, List.set_cons_succ]
  refine held_step (i := 16) rfl (by kernel_rfl) (by rfl) (fun K hK => ?_)
  go_simp
  refine (wroot_to A7 c7 n l csr we w HT.out.2.2.2.2.2.1 HN.out.2.2.2.2.1 HT.out.2.2.2.2.2.2.2.1 HT.out.2.2.2.2.2.2.2.2.1 (HN.out.2.1.below J4.out) HCS.out.2.2.2.1 (below_then HN.out.1 HN.out.1.size J4.out) ht.out.1).mono ?_
  rintro e wf ⟨rfl, hb⟩
  have J5 := Lib.hid (below_then J4.out J4.out.size hb)
  clear hb
  go_wp2_with fail
  have hHeld := HTS.out _ J5.out
  refine hK.out _ _ (HTS.out _ J5.out) ?_
  clear hK K
  try simp only [Act.put, List.setIfInBounds_toArray, List.set_cons_zero, List.set_cons_succ]
  refine held_step (i := 18) rfl (by kernel_rfl) (by rfl) (fun K hK => ?_)
  go_simp
  refine (rroot_any n A0 c0 l csr wf HT.out.2.2.2.2.2.1 HT.out.2.2.2.2.2.2.1 HT.out.2.2.2.2.2.2.2.1 HT.out.2.2.2.2.2.2.2.2.1 (HT.out.2.2.2.2.2.2.2.2.2.below (below_then HN.out.1 HN.out.1.size J5.out)) HCS.out.2.2.2.1).mono ?_
  rintro e wg ⟨rfl, hb⟩
  have J6 := Lib.hid (below_then J5.out J5.out.size hb)
  clear hb
  go_wp2_with fail
  have hHeld := HTS.out _ J6.out
  refine hK.out _ _ (HTS.out _ J6.out) ?_
  clear hK K
  try simp only [Act.put, List.setIfInBounds_toArray, List.set_cons_zero, List.set_cons_succ]
  refine held_take (i := 19) (v := ?qv19) rfl (by kernel_rfl) (by kernel_rfl) (by kernel_rfl) (fun _ _ _ h => h) (by rfl) ?qy19 hHeld ?_
  case qy19 => ((intro w _hSw; (try dsimp only at _hSw); go_simp); try (with_reducible rfl))
  try simp only [Act.put, List.setIfInBounds_toArray, List.set_cons_zero, List.set_cons_succ]
  refine held_take (i := 20) (v := ?qv20) rfl (by kernel_rfl) (by kernel_rfl) (by kernel_rfl) (fun _ _ _ h => h) (by rfl) ?qy20 hHeld ?_
  case qy20 => ((intro w _hSw; (try dsimp only at _hSw); go_simp); try (with_reducible rfl))
  try simp only [Act.put, List.setIfInBounds_toArray, List.set_cons_zero, List.set_cons_succ]
  refine held_take (i := 21) (v := ?qv21) rfl (by kernel_rfl) (by kernel_rfl) (by kernel_rfl) (fun _ _ _ h => h) (by rfl) ?qy21 hHeld ?_
  case qy21 => ((intro w _hSw; (try dsimp only at _hSw); go_simp); try (with_reducible rfl))
  try simp only [Act.put, List.setIfInBounds_toArray, List.set_cons_zero, List.set_cons_succ]
  refine held_take (i := 22) (v := ?qv22) rfl (by kernel_rfl) (by kernel_rfl) (by kernel_rfl) (fun _ _ _ h => h) (by rfl) ?qy22 hHeld ?_
  case qy22 => ((intro w _hSw; (try dsimp only at _hSw); go_simp); try (with_reducible rfl))
  try simp only [Act.put, List.setIfInBounds_toArray, List.set_cons_zero, List.set_cons_succ]
  refine held_take (i := 23) (v := ?qv23) rfl (by kernel_rfl) (by kernel_rfl) (by kernel_rfl) (fun _ _ _ h => h) (by rfl) ?qy23 hHeld ?_
  case qy23 => ((intro w _hSw; (try dsimp only at _hSw); go_simp); try (with_reducible rfl))
  try simp only [Act.put, List.setIfInBounds_toArray, List.set_cons_zero, List.set_cons_succ]
  refine held_step (i := 24) rfl (by kernel_rfl) (by rfl) (fun K hK => ?_)
  go_simp
  refine (hashes_same A8 A10 c8 c10 M op wg HP.out.2.1 HP.out.2.2.2 HP.out.2.2.1 (HN.out.2.2.1.below J6.out) (HN.out.2.2.2.1.below J6.out)).mono ?_
  rintro e wh ⟨rfl, hb⟩
  have J7 := Lib.hid (below_then J6.out J6.out.size hb)
  clear hb
  go_wp2_with fail
  have hHeld := HTS.out _ J7.out
  refine hK.out _ _ (HTS.out _ J7.out) ?_
  clear hK K
  try simp only [Act.put, List.setIfInBounds_toArray, List.set_cons_zero, List.set_cons_succ]
  refine held_take (i := 25) (v := ?qv25) rfl (by kernel_rfl) (by kernel_rfl) (by kernel_rfl) (fun _ _ _ h => h) (by rfl) ?qy25 hHeld ?_
  case qy25 => ((intro w _hSw; (try dsimp only at _hSw); go_simp); try (with_reducible rfl))
  try simp only [Act.put, List.setIfInBounds_toArray, List.set_cons_zero, List.set_cons_succ]
  refine held_take (i := 26) (v := ?qv26) rfl (by kernel_rfl) (by kernel_rfl) (by kernel_rfl) (fun _ _ _ h => h) (by rfl) ?qy26 hHeld ?_
  case qy26 => ((intro w _hSw; (try dsimp only at _hSw); go_simp); try (with_reducible rfl))
  try simp only [Act.put, List.setIfInBounds_toArray, List.set_cons_zero, List.set_cons_succ]
  refine held_take (i := 27) (v := ?qv27) rfl (by kernel_rfl) (by kernel_rfl) (by kernel_rfl) (fun _ _ _ h => h) (by rfl) ?qy27 hHeld ?_
  case qy27 => ((intro w _hSw; (try dsimp only at _hSw); go_simp); try (with_reducible rfl))
  try simp only [Act.put, List.setIfInBounds_toArray, List.set_cons_zero, List.set_cons_succ]
  refine held_take (i := 29) (v := ?qv29) rfl (by kernel_rfl) (by kernel_rfl) (by kernel_rfl) (fun _ _ _ h => h) (by rfl) ?qy29 hHeld ?_
  case qy29 => ((intro w _hSw; (try dsimp only at _hSw); go_simp); try (with_reducible rfl))
  try simp only [Act.put, List.setIfInBounds_toArray, List.set_cons_zero, List.set_cons_succ]
  refine held_step (i := 28) rfl (by kernel_rfl) (by rfl) (fun K hK => ?_)
  go_simp
  refine (num01_all v9 kp _ (HN.out.2.2.2.2.2.1.below J7.out) (ht.out.2.below (below_then HN.out.1 HN.out.1.size J7.out) ht.out.2.lt)).mono ?_
  rintro e wi ⟨rfl, hb⟩
  have J8 := Lib.hid (below_then J7.out J7.out.size hb)
  clear hb
  go_wp2_with fail
  have hHeld := HTS.out _ J8.out
  refine hK.out _ _ (HTS.out _ J8.out) ?_
  clear hK K
  try simp only [Act.put, List.setIfInBounds_toArray, List.set_cons_zero, List.set_cons_succ]
  refine held_take (i := 30) (v := ?qv30) rfl (by kernel_rfl) (by kernel_rfl) (by kernel_rfl) (fun _ _ _ h => h) (by rfl) ?qy30 hHeld ?_
  case qy30 => ((intro w _hSw; (try dsimp only at _hSw); go_simp); try (with_reducible rfl))
  try simp only [Act.put, List.setIfInBounds_toArray, List.set_cons_zero, List.set_cons_succ]
  refine held_take (i := 31) (v := ?qv31) rfl (by kernel_rfl) (by kernel_rfl) (by kernel_rfl) (fun _ _ _ h => h) (by rfl) ?qy31 hHeld ?_
  case qy31 => ((intro w _hSw; (try dsimp only at _hSw); go_simp); try (with_reducible rfl))
  try simp only [Act.put, List.setIfInBounds_toArray, List.set_cons_zero, List.set_cons_succ]
  refine held_take (i := 32) (v := ?qv32) rfl (by kernel_rfl) (by kernel_rfl) (by kernel_rfl) (fun _ _ _ h => h) (by rfl) ?qy32 hHeld ?_
  case qy32 => ((intro w _hSw; (try dsimp only at _hSw); go_simp); try (with_reducible rfl))
  try simp only [Act.put, List.setIfInBounds_toArray, List.set_cons_zero, List.set_cons_succ]
  refine held_row (i := 33) rfl (by kernel_rfl) (by kernel_rfl) (by kernel_rfl) _ _ rfl _ _ rfl ?qC33 ?qD33 (fun _ _ _ h => h) (by rfl) ?qa33 ?qb33 ?qc33 ?qd33 hHeld ?_
  case qa33 => (intro w hSw; (try dsimp only at hSw); go_split_ands; assumption)
  case qb33 => assumption
  case qc33 => rfl
  case qd33 => first | assumption | (simp only [*]; done)
  try simp only [Act.put, List.setIfInBounds_toArray, List.set_cons_zero, List.set_cons_succ]
  refine held_row (i := 34) rfl (by kernel_rfl) (by kernel_rfl) (by kernel_rfl) _ _ rfl _ _ rfl ?qC34 ?qD34 (fun _ _ _ h => h) (by rfl) ?qa34 ?qb34 ?qc34 ?qd34 hHeld ?_
  case qa34 => (intro w hSw; (try dsimp only at hSw); go_split_ands; assumption)
  case qb34 => assumption
  case qc34 => rfl
  case qd34 => first | assumption | (simp only [*]; done)
  try simp only [Act.put, List.setIfInBounds_toArray, List.set_cons_zero, List.set_cons_succ]
  refine held_take (i := 35) (v := ?qv35) rfl (by kernel_rfl) (by kernel_rfl) (by kernel_rfl) (fun _ _ _ h => h) (by rfl) ?qy35 hHeld ?_
  case qy35 => ((intro w _hSw; (try dsimp only at _hSw); go_simp); try (with_reducible rfl))
  try simp only [Act.put, List.setIfInBounds_toArray, List.set_cons_zero, List.set_cons_succ]
  refine held_take (i := 36) (v := ?qv36) rfl (by kernel_rfl) (by kernel_rfl) (by kernel_rfl) (fun _ _ _ h => h) (by rfl) ?qy36 hHeld ?_
  case qy36 => ((intro w _hSw; (try dsimp only at _hSw); go_simp); try (with_reducible rfl))
  try simp only [Act.put, List.setIfInBounds_toArray, List.set_cons_zero, List.set_cons_succ]
  refine held_take (i := 37) (v := ?qv37) rfl (by kernel_rfl) (by kernel_rfl) (by kernel_rfl) (fun _ _ _ h => h) (by rfl) ?qy37 hHeld ?_
  case qy37 => ((intro w _hSw; (try dsimp only at _hSw); go_simp); try (with_reducible rfl))
  try simp only [Act.put, List.setIfInBounds_toArray, List.set_cons_zero, List.set_cons_succ]
  refine held_take (i := 38) (v := ?qv38) rfl (by kernel_rfl) (by kernel_rfl) (by kernel_rfl) (fun _ _ _ h => h) (by rfl) ?qy38 hHeld ?_
  case qy38 => ((intro w _hSw; (try dsimp only at _hSw); go_simp); try (with_reducible rfl))
  try simp only [Act.put, List.setIfInBounds_toArray, List.set_cons_zero, List.set_cons_succ]
  refine held_take (i := 40) (v := ?qv40) rfl (by kernel_rfl) (by kernel_rfl) (by kernel_rfl) (fun _ _ _ h => h) (by rfl) ?qy40 hHeld ?_
  case qy40 => ((intro w _hSw; (try dsimp only at _hSw); go_simp); try (with_reducible rfl))
  try simp only [Act.put, List.setIfInBounds_toArray, List.set_cons_zero, List.set_cons_succ]
  refine held_step (i := 39) rfl (by kernel_rfl) (by rfl) (fun K hK => ?_)
  go_simp
  refine (num01_all v14 k1 _ (HN.out.2.2.2.2.2.2.1.below J8.out) (ht.out.2.below (below_then HN.out.1 HN.out.1.size J8.out) ht.out.2.lt)).mono ?_
  rintro e wj ⟨rfl, hb⟩
  have J9 := Lib.hid (below_then J8.out J8.out.size hb)
  clear hb
  go_wp2_with fail
  have hHeld := HTS.out _ J9.out
  refine hK.out _ _ (HTS.out _ J9.out) ?_
  clear hK K
  try simp only [Act.put, List.setIfInBounds_toArray, List.set_cons_zero, List.set_cons_succ]
  refine held_take (i := 41) (v := ?qv41) rfl (by kernel_rfl) (by kernel_rfl) (by kernel_rfl) (fun _ _ _ h => h) (by rfl) ?qy41 hHeld ?_
  case qy41 => ((intro w _hSw; (try dsimp only at _hSw); go_simp); try (with_reducible rfl))
  try simp only [Act.put, List.setIfInBounds_toArray, List.set_cons_zero, List.set_cons_succ]
  refine held_take (i := 42) (v := ?qv42) rfl (by kernel_rfl) (by kernel_rfl) (by kernel_rfl) (fun _ _ _ h => h) (by rfl) ?qy42 hHeld ?_
  case qy42 => ((intro w _hSw; (try dsimp only at _hSw); go_simp); try (with_reducible rfl))
  try simp only [Act.put, List.setIfInBounds_toArray, List.set_cons_zero, List.set_cons_succ]
  refine held_take (i := 43) (v := ?qv43) rfl (by kernel_rfl) (by kernel_rfl) (by kernel_rfl) (fun _ _ _ h => h) (by rfl) ?qy43 hHeld ?_
  case qy43 => ((intro w _hSw; (try dsimp only at _hSw); go_simp); try (with_reducible rfl))
  try simp only [Act.put, List.setIfInBounds_toArray, List.set_cons_zero, List.set_cons_succ]
  refine held_row (i := 44) rfl (by kernel_rfl) (by kernel_rfl) (by kernel_rfl) _ _ rfl _ _ rfl ?qC44 ?qD44 (fun _ _ _ h => h) (by rfl) ?qa44 ?qb44 ?qc44 ?qd44 hHeld ?_
  case qa44 => (intro w hSw; (try dsimp only at hSw); go_split_ands; assumption)
  case qb44 => assumption
  case qc44 => rfl
  case qd44 => first | assumption | (simp only [*]; done)
  try simp only [Act.put, List.setIfInBounds_toArray, List.set_cons_zero, List.set_cons_succ]
  refine held_row (i := 45) rfl (by kernel_rfl) (by kernel_rfl) (by kernel_rfl) _ _ rfl _ _ rfl ?qC45 ?qD45 (fun _ _ _ h => h) (by rfl) ?qa45 ?qb45 ?qc45 ?qd45 hHeld ?_
  case qa45 => (intro w hSw; (try dsimp only at hSw); go_split_ands; assumption)
  case qb45 => assumption
  case qc45 => rfl
  case qd45 => first | assumption | (simp only [*]; done)
  try simp only [Act.put, List.setIfInBounds_toArray, List.set_cons_zero, List.set_cons_succ]
  refine held_take (i := 46) (v := ?qv46) rfl (by kernel_rfl) (by kernel_rfl) (by kernel_rfl) (fun _ _ _ h => h) (by rfl) ?qy46 hHeld ?_
  case qy46 => ((intro w _hSw; (try dsimp only at _hSw); go_simp); try (with_reducible rfl))
  try simp only [Act.put, List.setIfInBounds_toArray, List.set_cons_zero, List.set_cons_succ]
  refine held_take (i := 47) (v := ?qv47) rfl (by kernel_rfl) (by kernel_rfl) (by kernel_rfl) (fun _ _ _ h => h) (by rfl) ?qy47 hHeld ?_
  case qy47 => ((intro w _hSw; (try dsimp only at _hSw); go_simp); try (with_reducible rfl))
  try simp only [Act.put, List.setIfInBounds_toArray, List.set_cons_zero, List.set_cons_succ]
  refine held_take (i := 48) (v := ?qv48) rfl (by kernel_rfl) (by kernel_rfl) (by kernel_rfl) (fun _ _ _ h => h) (by rfl) ?qy48 hHeld ?_
  case qy48 => ((intro w _hSw; (try dsimp only at _hSw); go_simp); try (with_reducible rfl))
  try simp only [Act.put, List.setIfInBounds_toArray, List.set_cons_zero, List.set_cons_succ]
  refine held_take (i := 49) (v := ?qv49) rfl (by kernel_rfl) (by kernel_rfl) (by kernel_rfl) (fun _ _ _ h => h) (by rfl) ?qy49 hHeld ?_
  case qy49 => ((intro w _hSw; (try dsimp only at _hSw); go_simp); try (with_reducible rfl))
  try simp only [Act.put, List.setIfInBounds_toArray, List.set_cons_zero, List.set_cons_succ]
  refine held_take (i := 51) (v := ?qv51) rfl (by kernel_rfl) (by kernel_rfl) (by kernel_rfl) (fun _ _ _ h => h) (by rfl) ?qy51 hHeld ?_
  case qy51 => ((intro w _hSw; (try dsimp only at _hSw); go_simp); try (with_reducible rfl))
  try simp only [Act.put, List.setIfInBounds_toArray, List.set_cons_zero, List.set_cons_succ]
  refine held_step (i := 50) rfl (by kernel_rfl) (by rfl) (fun K hK => ?_)
  go_simp
  refine (num01_all v18 k2 _ (HN.out.2.2.2.2.2.2.2.below J9.out) (ht.out.2.below (below_then HN.out.1 HN.out.1.size J9.out) ht.out.2.lt)).mono ?_
  rintro e wk ⟨rfl, hb⟩
  have J10 := Lib.hid (below_then J9.out J9.out.size hb)
  clear hb
  go_wp2_with fail
  have hHeld := HTS.out _ J10.out
  refine hK.out _ _ (HTS.out _ J10.out) ?_
  clear hK K
  try simp only [Act.put, List.setIfInBounds_toArray, List.set_cons_zero, List.set_cons_succ]
  refine held_take (i := 52) (v := ?qv52) rfl (by kernel_rfl) (by kernel_rfl) (by kernel_rfl) (fun _ _ _ h => h) (by rfl) ?qy52 hHeld ?_
  case qy52 => ((intro w _hSw; (try dsimp only at _hSw); go_simp); try (with_reducible rfl))
  try simp only [Act.put, List.setIfInBounds_toArray, List.set_cons_zero, List.set_cons_succ]
  refine held_take (i := 53) (v := ?qv53) rfl (by kernel_rfl) (by kernel_rfl) (by kernel_rfl) (fun _ _ _ h => h) (by rfl) ?qy53 hHeld ?_
  case qy53 => ((intro w _hSw; (try dsimp only at _hSw); go_simp); try (with_reducible rfl))
  try simp only [Act.put, List.setIfInBounds_toArray, List.set_cons_zero, List.set_cons_succ]
  refine held_take (i := 54) (v := ?qv54) rfl (by kernel_rfl) (by kernel_rfl) (by kernel_rfl) (fun _ _ _ h => h) (by rfl) ?qy54 hHeld ?_
  case qy54 => ((intro w _hSw; (try dsimp only at _hSw); go_simp); try (with_reducible rfl))
  try simp only [Act.put, List.setIfInBounds_toArray, List.set_cons_zero, List.set_cons_succ]
  refine held_take (i := 55) (v := ?qv55) rfl (by kernel_rfl) (by kernel_rfl) (by kernel_rfl) (fun _ _ _ h => h) (by rfl) ?qy55 hHeld ?_
  case qy55 => ((intro w _hSw; (try dsimp only at _hSw); go_simp); try (with_reducible rfl))
  try simp only [Act.put, List.setIfInBounds_toArray, List.set_cons_zero, List.set_cons_succ]
  refine held_take (i := 56) (v := ?qv56) rfl (by kernel_rfl) (by kernel_rfl) (by kernel_rfl) (fun _ _ _ h => h) (by rfl) ?qy56 hHeld ?_
  case qy56 => ((intro w _hSw; (try dsimp only at _hSw); go_simp); try (with_reducible rfl))
  try simp only [Act.put, List.setIfInBounds_toArray, List.set_cons_zero, List.set_cons_succ]
  refine held_step (i := 57) rfl (by kernel_rfl) (by rfl) (fun K hK => ?_)
  go_simp
  refine (hashes_same A7 A0 c7 c0 n l wk HT.out.2.2.2.2.2.1 HT.out.2.2.2.2.2.2.2.1 HT.out.2.2.2.2.2.2.2.2.1 (HN.out.2.1.below J10.out) (HT.out.2.2.2.2.2.2.2.2.2.below (below_then HN.out.1 HN.out.1.size J10.out))).mono ?_
  rintro e wl ⟨rfl, hb⟩
  have J11 := Lib.hid (below_then J10.out J10.out.size hb)
  clear hb
  go_wp2_with fail
  have hHeld := HTS.out _ J11.out
  refine hK.out _ _ (HTS.out _ J11.out) ?_
  clear hK K
  try simp only [Act.put, List.setIfInBounds_toArray, List.set_cons_zero, List.set_cons_succ]
  refine held_take (i := 58) (v := ?qv58) rfl (by kernel_rfl) (by kernel_rfl) (by kernel_rfl) (fun _ _ _ h => h) (by rfl) ?qy58 hHeld ?_
  case qy58 => ((intro w _hSw; (try dsimp only at _hSw); go_simp); try (with_reducible rfl))
  try simp only [Act.put, List.setIfInBounds_toArray, List.set_cons_zero, List.set_cons_succ]
  refine held_take (i := 59) (v := ?qv59) rfl (by kernel_rfl) (by kernel_rfl) (by kernel_rfl) (fun _ _ _ h => h) (by rfl) ?qy59 hHeld ?_
  case qy59 => ((intro w _hSw; (try dsimp only at _hSw); go_simp); try (with_reducible rfl))
  try simp only [Act.put, List.setIfInBounds_toArray, List.set_cons_zero, List.set_cons_succ]
  refine held_step (i := 60) rfl (by kernel_rfl) (by rfl) (fun K hK => ?_)
  go_simp
  refine (sure01_any _ (ht.out.1.below (below_then HN.out.1 HN.out.1.size J11.out) ht.out.1.lt)).mono ?_
  rintro e wm ⟨rfl, hb⟩
  have J12 := Lib.hid (below_then J11.out J11.out.size hb)
  clear hb
  go_wp2_with fail
  have hHeld := HTS.out _ J12.out
  refine hK.out _ _ (HTS.out _ J12.out) ?_
  clear hK K
  try simp only [Act.put, List.setIfInBounds_toArray, List.set_cons_zero, List.set_cons_succ]
  refine held_take (i := 61) (v := ?qv61) rfl (by kernel_rfl) (by kernel_rfl) (by kernel_rfl) (fun _ _ _ h => h) (by rfl) ?qy61 hHeld ?_
  case qy61 => ((intro w _hSw; (try dsimp only at _hSw); go_simp); try (with_reducible rfl))
  try simp only [Act.put, List.setIfInBounds_toArray, List.set_cons_zero, List.set_cons_succ]
  refine held_take (i := 62) (v := ?qv62) rfl (by kernel_rfl) (by kernel_rfl) (by kernel_rfl) (fun _ _ _ h => h) (by rfl) ?qy62 hHeld ?_
  case qy62 => ((intro w _hSw; (try dsimp only at _hSw); go_simp); try (with_reducible rfl))
  try simp only [Act.put, List.setIfInBounds_toArray, List.set_cons_zero, List.set_cons_succ]
  refine wpAnyH_done (by kernel_rfl) ?_ _
  go_wp2_with fail
  go_ret
  exact ⟨rfl, below_then HN.out.1 HN.out.1.size J12.out⟩
#print axioms trees_any
end Go.Proofs.YtcgdojdiihdkeaaDoor
