/- ShaProves: the walk. -/
import Derived.Test.YtcgdojdiihdkeaaDoorFold
import Derived.Test.YtcgdojdiihdkeaaDoorCuts
import Derived.Test.YtcgdojdiihdkeaaDoorReg
namespace Go.Proofs.YtcgdojdiihdkeaaDoor
open Go Go.RowKit Go.Isth

/-- What the walk asks at 'int(uint(i) % uint(len))'. -/
theorem umod_n (i : Int) (n : Nat) (h0 : 0 < n) (h : n ≤ 4611686018427387903) : ∃ k : Nat, k < n ∧ IntKind.u64.wrap (n : Int) = (n : Int) ∧ ((n : Int) == 0) = false ∧ IntKind.i64.wrap ((IntKind.u64.wrap i).tmod (n : Int)) = (k : Int) := by
  obtain ⟨k, hk, e⟩ := umod i (n : Int) (by omega) (by omega)
  refine ⟨k, by omega, ?_, ?_, ?_⟩
  · simp only [IntKind.wrap, IntKind.bits, IntKind.signed, Bool.false_and, Bool.false_eq_true, if_false]; omega
  · simp; omega
  · rw [IntKind.wrap_i64, ← e, wrap64]
/-- A guarded load, the guard open. -/
theorem wpList_load_g {P : Program} {w : World} {ops : Array Oper} {rest : List Oper} {o : Oper} {a : Act} {Q : Exit → Act → World → Prop} {t : TypeId}
    (hw : Region.wanted o (yielded ops a.tmps) = true) (x : Operand) (ho : o.op = .load t x) (A : Addr) (v : Value) (hx : a.eval x = .pointer (some A)) (hl : (loadVar t A).run P w = .ok v w)
    (h : wpList P ops Q rest (a.put o.dst v) w) : wpList P ops Q (o :: rest) a w := by
  rw [wpList, if_pos hw]
  refine Or.inl ?_
  unfold Oper.wp execOp
  simp [ho, hx, Instr.loadAt, Instr.sureAddr, hl, Oper.upon]
  exact h
theorem load_blk {P : Program} {t tb : TypeId} {d : TypeDesc} {w : World} {g n : Nat} {cs : List Value} (hu : P.underlying t = some d) (hd : (match d with | .struct _ => true | .array _ _ => true | _ => false) = true) (hi : (P.info? t).map (·.size) = some n) (hl : cs.length = n) (hg : Blk w g tb cs) :
    (loadVar t ⟨g, 0, none⟩).run P w = .ok (.agg cs.toArray) w :=
  run_load_agg hu hd hi w ⟨g, 0, none⟩ cs hl (fun j u hj => by rw [add_plain, Nat.zero_add]; exact hg.cellD j u hj)
theorem rootH_nil : rootH [] = sumF [] := by unfold rootH; rw [rootG_one (by simp)]; rfl
theorem fold_back (l : List (List UInt8)) (i : Nat) (x : List UInt8) (hx : l[i]? = some x) : foldH x (turnsG i l.length).reverse (pathH l i) = rootH l := fold_path l.length l i x rfl hx
theorem path_len (l : List (List UInt8)) (i : Nat) (hi : i < l.length) : (pathH l i).length = (turnsG i l.length).length := path_turns l.length l i rfl hi

set_option maxRecDepth 100000 in
set_option maxHeartbeats 2000000 in
theorem proves_far (A : Option Addr) (c : Nat) (n : Nat) (i k : Int) (w : World) (hn : n = 0 ∨ 200 < n) (hb : n ≤ 4611686018427387904) (ht : TabLaid w) :
    Calls Tryd.prog 7 #[.slice A n c, .int .i64 i, .int .i64 k] w fun e w' => e = .returned (.bool true) ∧ Below w.heap.size w w' := by
  have HT := Lib.hid ht
  clear ht
  have hor : ((n : Int) == 0) = true ∨ (((n : Int) == 0) = false ∧ (200 : Int) < (n : Int)) := by
    rcases hn with h | h
    · left; simp [h]
    · right; simp; omega
  clear hn
  go_enter Tryd.func7, Tryd.ntmps7
  rcases hor with h0 | ⟨h0, h1⟩
  all_goals
    go_wp2_with fail
    refine (root_any 0 none 0 [] w rfl (by decide) (by decide) (fun h hh => by simp at hh) (Rd.nil _ _) HT.out).mono ?_
    rintro e w1 ⟨rfl, hb1⟩
    rw [rootH_nil]
    have H1 := Lib.hid hb1
    clear hb1
    go_wp2_with fail
    refine (sum_to none 0 0 [] w1 w rfl H1.out (by decide) (by decide) (Rd.nil _ _) HT.out).mono ?_
    rintro e w2 ⟨rfl, hb2⟩
    have H2 := Lib.hid (below_then H1.out H1.out.size hb2)
    have heq : ∀ wx, _ := fun wx => run_eql_bytes aHash wx (sumF []) (sumF []) (sumF_length _) (sumF_length _)
    simp only [beq_self_eq_true] at heq
    clear hb2
    go_wp2_with fail
    refine (sure01_any w2 (HT.out.below H2.out HT.out.lt)).mono ?_
    rintro e w3 ⟨rfl, hb3⟩
    have H3 := Lib.hid (below_then H2.out H2.out.size hb3)
    clear hb3
    go_wp2
    go_ret
    exact ⟨rfl, H3.out⟩
#print axioms proves_far
set_option maxRecDepth 100000 in
set_option maxHeartbeats 4000000 in
set_option linter.unusedSimpArgs false in
theorem proves_near (b o n : Nat) (c : Nat) (l : List (List UInt8)) (i k : Int) (w : World) (hl : l.length = n) (hn : 0 < n) (hb : n ≤ 200) (hc : n ≤ c) (h32 : All32 l) (hr : Rd w (some ⟨b, o, none⟩) (cellsH l)) (ht : TabLaid w) :
    Calls Tryd.prog 7 #[.slice (some ⟨b, o, none⟩) n c, .int .i64 i, .int .i64 k] w fun e w' => e = .returned (.bool true) ∧ Below w.heap.size w w' := by
  obtain ⟨p, hp, hu1, hu2, hp1⟩ := umod_n i n hn (by omega)
  obtain ⟨q, hq, _, _, hq1⟩ := umod_n k n hn (by omega)
  obtain ⟨x, hx⟩ : ∃ x, l[p]? = some x := ⟨_, List.getElem?_eq_getElem (by omega)⟩
  obtain ⟨y, hy⟩ : ∃ y, l[q]? = some y := ⟨_, List.getElem?_eq_getElem (by omega)⟩
  have HT := Lib.hid (And.intro hn (And.intro hb (And.intro hc (And.intro h32 (And.intro hr (And.intro ht (And.intro hp (And.intro hq (And.intro hx (And.intro hy hl))))))))))
  have hn0 : ((n : Int) == 0) = false := hu2
  have hn2 : ¬ (200 : Int) < (n : Int) := by omega
  have hnz : ¬ n = 0 := by omega
  clear hl hn hb hc h32 hr ht hp hq hx hy
  go_enter Tryd.func7, Tryd.ntmps7
  go_wp2_with fail
  go_region
  clear hu1 hu2 hp1 hq1 hn2 hn0 hnz
  go_wp2_with fail
  refine (root_any n _ c l w.drew HT.out.2.2.2.2.2.2.2.2.2.2 HT.out.2.2.1 (by have := HT.out.2.1; omega) HT.out.2.2.2.1 HT.out.2.2.2.2.1.drew HT.out.2.2.2.2.2.1).mono ?_
  rintro e w1 ⟨rfl, hb1⟩
  have HR := Lib.hid (show Below w.heap.size w w1 from ⟨hb1.os, hb1.tape, hb1.output, hb1.size, hb1.block⟩)
  have hR32 := rootH_length l HT.out.2.2.2.1
  generalize hroot : rootH l = root at *
  have HRT := Lib.hid (And.intro hroot hR32)
  have HL1 := Lib.hid (show (some 32 : Option Nat) = some (root.map B).length by rw [List.length_map, hR32])
  clear hb1 hroot hR32
  go_wp2_with (refine wpList_store_blk rfl 28 (.tmp 9) (.tmp 45) rfl w1.heap.size (root.map B) rfl rfl 28 _ (heap_alloc_new w1 _) (Eq.trans (by kernel_rfl) HL1.out) (by rw [List.length_map, HRT.out.2]; rfl) one_bytes ?_; intro w2 hw2 hg2)
  have HB2 := Lib.hid (And.intro hw2 (((HR.out.alloc HR.out.size _).grown hg2 (by have := HR.out.size; rw [World.size_alloc]; omega) (fun r e => by injection e with e; have := HR.out.size; omega)) : Below w.heap.size w w2))
  clear hw2 hg2
  refine (path_any n _ c l p w2 HT.out.2.2.2.2.2.2.2.2.2.2 HT.out.2.2.1 (by have := HT.out.2.1; omega) HT.out.2.2.2.2.2.2.1 HT.out.2.2.2.1 (HT.out.2.2.2.2.1.below HB2.out.2) (HT.out.2.2.2.2.2.1.below HB2.out.2 HT.out.2.2.2.2.2.1.lt)).mono ?_
  rintro e w3 ⟨v3, rfl, ho3, hb3⟩
  obtain ⟨A3, c3, rfl, hfit, hrd, _, _⟩ := own_slice ho3
  have hpl := path_len l p (by have := HT.out; omega)
  rw [HT.out.2.2.2.2.2.2.2.2.2.2] at hpl
  have hp32 := pathH_32 n l p HT.out.2.2.2.2.2.2.2.2.2.2 HT.out.2.2.2.1
  have hfx := fold_back l p x HT.out.2.2.2.2.2.2.2.2.1
  rw [HT.out.2.2.2.2.2.2.2.2.2.2, HRT.out.1] at hfx
  have hx32 := HT.out.2.2.2.1 x (List.mem_of_getElem? HT.out.2.2.2.2.2.2.2.2.1)
  have hy32 := HT.out.2.2.2.1 y (List.mem_of_getElem? HT.out.2.2.2.2.2.2.2.2.2.1)
  generalize hps : pathH l p = ps at *
  have HB3 := Lib.hid (And.intro (HB2.out.1.below hb3) (And.intro (below_then HB2.out.2 HB2.out.2.size hb3) (And.intro hfit (And.intro hrd (And.intro hpl (And.intro hp32 (And.intro hfx (And.intro hx32 hy32))))))))
  have hld := load_hash (P := Tryd.prog) Tryd.underlying28 rfl (by kernel_rfl) (HT.out.2.2.2.2.1.below HB3.out.2.1) HT.out.2.2.2.1 HT.out.2.2.2.2.2.2.2.2.1
  have HLD := Lib.hid hld
  have hpn : (p : Int) < (n : Int) := by have := HT.out; omega
  clear ho3 hb3 hfit hrd hpl hp32 hfx hx32 hy32 hld hps
  go_wp2_with (refine wpList_load rfl (.tmp 55) rfl _ _ rfl HLD.out ?_)
  refine (fold_any x p n A3 c3 ps w3 HB3.out.2.2.2.2.2.2.2.1 HT.out.2.2.2.2.2.2.1 (by have := HT.out.2.1; omega) HB3.out.2.2.2.2.1 HB3.out.2.2.1 HB3.out.2.2.2.2.2.1 HB3.out.2.2.2.1 (HT.out.2.2.2.2.2.1.below HB3.out.2.1 HT.out.2.2.2.2.2.1.lt)).mono ?_
  rintro e w4 ⟨rfl, hb4⟩
  rw [HB3.out.2.2.2.2.2.2.1]
  have HB4 := Lib.hid (And.intro (HB3.out.1.below hb4) (And.intro (below_then HB3.out.2.1 HB3.out.2.1.size hb4) (HB3.out.2.2.2.1.below hb4)))
  clear hb4
  have hqn : (q : Int) < (n : Int) := by have := HT.out; omega
  go_wp2_with (first
    | (refine wpList_store_blk rfl 28 (.tmp 12) (.tmp 62) rfl w4.heap.size (root.map B) rfl rfl 28 _ (heap_alloc_new w4 _) (Eq.trans (by kernel_rfl) HL1.out) (by rw [List.length_map, HRT.out.2]; rfl) one_bytes ?_; intro w5 hw5 hg5
       have hb5 : Below w4.heap.size w4 w5 := ((Below.refl w4.heap.size w4).alloc (Nat.le_refl _) _).grown hg5 (by simp) (fun r e => by injection e with e; omega)
       have HB5 := Lib.hid (And.intro hw5 (And.intro (HB4.out.1.below hb5) (And.intro (below_then HB4.out.2.1 HB4.out.2.1.size hb5) (HB4.out.2.2.below hb5))))
       have HLD5 := Lib.hid (load_hash (P := Tryd.prog) Tryd.underlying28 rfl (by kernel_rfl) (HT.out.2.2.2.2.1.below HB5.out.2.2.1) HT.out.2.2.2.1 HT.out.2.2.2.2.2.2.2.2.2.1)
       clear hw5 hg5 hb5)
    | refine wpList_load rfl (.tmp 67) rfl _ _ rfl HLD5.out ?_)
  refine (fold_any y p n A3 c3 ps w5 HB3.out.2.2.2.2.2.2.2.2 HT.out.2.2.2.2.2.2.1 (by have := HT.out.2.1; omega) HB3.out.2.2.2.2.1 HB3.out.2.2.1 HB3.out.2.2.2.2.2.1 HB5.out.2.2.2 (HT.out.2.2.2.2.2.1.below HB5.out.2.2.1 HT.out.2.2.2.2.2.1.lt)).mono ?_
  rintro e w6 ⟨rfl, hb6⟩
  have hyr : x = y → foldH y (turnsG p n).reverse ps = root := fun e => by rw [← e]; exact HB3.out.2.2.2.2.2.2.1
  have hm32 := foldH_length (turnsG p n).reverse ps y HB3.out.2.2.2.2.2.2.2.2
  generalize foldH y (turnsG p n).reverse ps = ym at *
  have HB6 := Lib.hid (And.intro (HB5.out.1.below hb6) (And.intro (HB5.out.2.1.below hb6) (And.intro (below_then HB5.out.2.2.1 HB5.out.2.2.1.size hb6) (And.intro hyr hm32))))
  have HLM := Lib.hid (show (some 32 : Option Nat) = some (ym.map B).length by rw [List.length_map, hm32])
  have hne : ∀ wx, _ := fun wx => run_neq_bytes aHash wx root root HRT.out.2 HRT.out.2
  simp only [beq_self_eq_true, Bool.not_true] at hne
  clear hb6 hyr hm32
  go_wp2_with (first
    | (refine wpList_store_blk rfl 28 (.tmp 14) (.tmp 74) rfl w6.heap.size (ym.map B) rfl rfl 28 _ (heap_alloc_new w6 _) (Eq.trans (by kernel_rfl) HLM.out) (by rw [List.length_map, HB6.out.2.2.2.2]; rfl) one_bytes ?_; intro w7 hw7 hg7
       have hb7 : Below w6.heap.size w6 w7 := ((Below.refl w6.heap.size w6).alloc (Nat.le_refl _) _).grown hg7 (by simp) (fun r e => by injection e with e; omega)
       have HB7 := Lib.hid (And.intro hw7 (And.intro (HB6.out.1.below hb7) (And.intro (HB6.out.2.1.below hb7) (below_then HB6.out.2.2.1 HB6.out.2.2.1.size hb7))))
       clear hw7 hg7 hb7)
    | refine wpList_load_g rfl (.tmp 12) rfl _ _ rfl (load_blk (n := 32) Tryd.underlying28 rfl (by kernel_rfl) (by rw [List.length_map]; exact HRT.out.2) HB7.out.2.1) ?_
    | refine wpList_load_g rfl (.tmp 9) rfl _ _ rfl (load_blk (n := 32) Tryd.underlying28 rfl (by kernel_rfl) (by rw [List.length_map]; exact HRT.out.2) HB7.out.2.2.1) ?_)
  clear hne hpn hqn
  obtain ⟨csx, hcx⟩ : ∃ cs, cs = x.map B := ⟨_, rfl⟩
  obtain ⟨csy, hcy⟩ : ∃ cs, cs = y.map B := ⟨_, rfl⟩
  obtain ⟨csm, hcm⟩ : ∃ cs, cs = ym.map B := ⟨_, rfl⟩
  obtain ⟨csr, hcr⟩ : ∃ cs, cs = root.map B := ⟨_, rfl⟩
  have hlx : csx.length = 32 := by rw [hcx, List.length_map]; exact HB3.out.2.2.2.2.2.2.2.1
  have hly : csy.length = 32 := by rw [hcy, List.length_map]; exact HB3.out.2.2.2.2.2.2.2.2
  have hlm : csm.length = 32 := by rw [hcm, List.length_map]; exact HB6.out.2.2.2.2
  have hlr : csr.length = 32 := by rw [hcr, List.length_map]; exact HRT.out.2
  have h1x : ∀ u ∈ csx, u.oneCell' = true := by rw [hcx]; exact one_bytes
  have h1y : ∀ u ∈ csy, u.oneCell' = true := by rw [hcy]; exact one_bytes
  have h1m : ∀ u ∈ csm, u.oneCell' = true := by rw [hcm]; exact one_bytes
  have h1r : ∀ u ∈ csr, u.oneCell' = true := by rw [hcr]; exact one_bytes
  have hix : (Tryd.prog.info? 28).map (·.size) = some csx.length := by rw [hlx]; kernel_rfl
  have hiy : (Tryd.prog.info? 28).map (·.size) = some csy.length := by rw [hly]; kernel_rfl
  have him : (Tryd.prog.info? 28).map (·.size) = some csm.length := by rw [hlm]; kernel_rfl
  have hir : (Tryd.prog.info? 28).map (·.size) = some csr.length := by rw [hlr]; kernel_rfl
  have hu28 := Tryd.underlying28
  have hpn : (p : Int) < (n : Int) := by have := HT.out; omega
  have hqn : (q : Int) < (n : Int) := by have := HT.out; omega
  have hneq : ∀ wx, (binOp .neq 28 (.agg csx.toArray) (.agg csy.toArray)).run Tryd.prog wx = .ok (.bool (!(x == y))) wx := by
    rw [hcx, hcy]; exact fun wx => run_neq_bytes aHash wx x y HB3.out.2.2.2.2.2.2.2.1 HB3.out.2.2.2.2.2.2.2.2
  have heql : ∀ wx, (binOp .eql 28 (.agg csm.toArray) (.agg csr.toArray)).run Tryd.prog wx = .ok (.bool (ym == root)) wx := by
    rw [hcm, hcr]; exact fun wx => run_eql_bytes aHash wx ym root HB6.out.2.2.2.2 HRT.out.2
  have HTS : Hid (∀ w', Below w.heap.size w w' → Blk w' w6.heap.size 28 (ym.map B) → Blk w' w1.heap.size 28 (root.map B) → (w'.rangeAt b (o + p * 32) csx ∧ w'.rangeAt b (o + q * 32) csy ∧ w'.rangeAt w6.heap.size 0 csm ∧ w'.rangeAt w1.heap.size 0 csr)) := Lib.hid (fun w' hb hm hr => by
    refine ⟨?_, ?_, ?_, ?_⟩
    · rw [hcx]; exact rdH_cell (HT.out.2.2.2.2.1.below hb) HT.out.2.2.2.1 HT.out.2.2.2.2.2.2.2.2.1 rfl
    · rw [hcy]; exact rdH_cell (HT.out.2.2.2.2.1.below hb) HT.out.2.2.2.1 HT.out.2.2.2.2.2.2.2.2.2.1 rfl
    · rw [hcm]; intro j v hv; rw [Nat.zero_add]; exact hm.cellD j v hv
    · rw [hcr]; intro j v hv; rw [Nat.zero_add]; exact hr.cellD j v hv)
  clear hcx hcy hcm hcr
  by_cases hxy : x = y
  · have e1 : (!(x == y)) = false := by simp [hxy]
    have e2 : (ym == root) = true := by simp [HB6.out.2.2.2.1 hxy]
    rw [e1] at hneq
    rw [e2] at heql
    clear e1 e2 hxy
    refine wp_region_held_drew (S := (fun w' => w'.rangeAt b (o + p * 32) csx ∧ w'.rangeAt b (o + q * 32) csy ∧ w'.rangeAt w6.heap.size 0 csm ∧ w'.rangeAt w1.heap.size 0 csr)) (by kernel_rfl) ?qs0 (fun hHeld => ?_)
    case qs0 => exact HTS.out _ (below_drewN HB7.out.2.2.2 1) HB7.out.1.drew HB7.out.2.2.1.drew
    refine held_take (i := 0) (v := ?qv0) rfl (by kernel_rfl) (by kernel_rfl) (by kernel_rfl) (fun _ _ _ h => h) (by rfl) ?qy0 hHeld ?_
    case qy0 => ((intro w _hSw; (try dsimp only at _hSw); go_simp); try (with_reducible rfl))
    try simp only [Act.put, List.setIfInBounds_toArray, List.set_cons_zero, List.set_cons_succ]
    refine held_take (i := 1) (v := ?qv1) rfl (by kernel_rfl) (by kernel_rfl) (by kernel_rfl) (fun _ _ _ h => h) (by rfl) ?qy1 hHeld ?_
    case qy1 => ((intro w _hSw; (try dsimp only at _hSw); go_simp); try (with_reducible rfl))
    try simp only [Act.put, List.setIfInBounds_toArray, List.set_cons_zero, List.set_cons_succ]
    refine held_take (i := 2) (v := ?qv2) rfl (by kernel_rfl) (by kernel_rfl) (by kernel_rfl) (fun _ _ _ h => h) (by rfl) ?qy2 hHeld ?_
    case qy2 => ((intro w _hSw; (try dsimp only at _hSw); go_simp); try (with_reducible rfl))
    try simp only [Act.put, List.setIfInBounds_toArray, List.set_cons_zero, List.set_cons_succ]
    refine held_row (i := 3) rfl (by kernel_rfl) (by kernel_rfl) (by kernel_rfl) _ _ rfl _ _ rfl ?qC3 ?qD3 (fun _ _ _ h => h) (by rfl) ?qa3 ?qb3 ?qc3 ?qd3 hHeld ?_
    case qa3 => (intro w hSw; (try dsimp only at hSw); go_split_ands; assumption)
    case qb3 => assumption
    case qc3 => rfl
    case qd3 => first | assumption | (simp only [*]; done)
    try simp only [Act.put, List.setIfInBounds_toArray, List.set_cons_zero, List.set_cons_succ]
    refine held_take (i := 4) (v := ?qv4) rfl (by kernel_rfl) (by kernel_rfl) (by kernel_rfl) (fun _ _ _ h => h) (by rfl) ?qy4 hHeld ?_
    case qy4 => ((intro w _hSw; (try dsimp only at _hSw); go_simp); try (with_reducible rfl))
    try simp only [Act.put, List.setIfInBounds_toArray, List.set_cons_zero, List.set_cons_succ]
    refine held_take (i := 5) (v := ?qv5) rfl (by kernel_rfl) (by kernel_rfl) (by kernel_rfl) (fun _ _ _ h => h) (by rfl) ?qy5 hHeld ?_
    case qy5 => ((intro w _hSw; (try dsimp only at _hSw); go_simp); try (with_reducible rfl))
    try simp only [Act.put, List.setIfInBounds_toArray, List.set_cons_zero, List.set_cons_succ]
    refine held_take (i := 6) (v := ?qv6) rfl (by kernel_rfl) (by kernel_rfl) (by kernel_rfl) (fun _ _ _ h => h) (by rfl) ?qy6 hHeld ?_
    case qy6 => ((intro w _hSw; (try dsimp only at _hSw); go_simp); try (with_reducible rfl))
    try simp only [Act.put, List.setIfInBounds_toArray, List.set_cons_zero, List.set_cons_succ]
    refine held_row (i := 7) rfl (by kernel_rfl) (by kernel_rfl) (by kernel_rfl) _ _ rfl _ _ rfl ?qC7 ?qD7 (fun _ _ _ h => h) (by rfl) ?qa7 ?qb7 ?qc7 ?qd7 hHeld ?_
    case qa7 => (intro w hSw; (try dsimp only at hSw); go_split_ands; assumption)
    case qb7 => assumption
    case qc7 => rfl
    case qd7 => first | assumption | (simp only [*]; done)
    try simp only [Act.put, List.setIfInBounds_toArray, List.set_cons_zero, List.set_cons_succ]
    refine held_take (i := 8) (v := ?qv8) rfl (by kernel_rfl) (by kernel_rfl) (by kernel_rfl) (fun _ _ _ h => h) (by rfl) ?qy8 hHeld ?_
    case qy8 => ((intro w _hSw; (try dsimp only at _hSw); go_simp); try (with_reducible rfl))
    try simp only [Act.put, List.setIfInBounds_toArray, List.set_cons_zero, List.set_cons_succ]
    refine held_take (i := 9) (v := ?qv9) rfl (by kernel_rfl) (by kernel_rfl) (by kernel_rfl) (fun _ _ _ h => h) (by rfl) ?qy9 hHeld ?_
    case qy9 => ((intro w _hSw; (try dsimp only at _hSw); go_simp); try (with_reducible rfl))
    try simp only [Act.put, List.setIfInBounds_toArray, List.set_cons_zero, List.set_cons_succ]
    refine held_row (i := 10) rfl (by kernel_rfl) (by kernel_rfl) (by kernel_rfl) _ _ rfl _ _ rfl ?qC10 ?qD10 (fun _ _ _ h => h) (by rfl) ?qa10 ?qb10 ?qc10 ?qd10 hHeld ?_
    case qa10 => (intro w hSw; (try dsimp only at hSw); go_split_ands; assumption)
    case qb10 => assumption
    case qc10 => rfl
    case qd10 => first | assumption | (simp only [*]; done)
    try simp only [Act.put, List.setIfInBounds_toArray, List.set_cons_zero, List.set_cons_succ]
    refine held_row (i := 11) rfl (by kernel_rfl) (by kernel_rfl) (by kernel_rfl) _ _ rfl _ _ rfl ?qC11 ?qD11 (fun _ _ _ h => h) (by rfl) ?qa11 ?qb11 ?qc11 ?qd11 hHeld ?_
    case qa11 => (intro w hSw; (try dsimp only at hSw); go_split_ands; assumption)
    case qb11 => assumption
    case qc11 => rfl
    case qd11 => first | assumption | (simp only [*]; done)
    try simp only [Act.put, List.setIfInBounds_toArray, List.set_cons_zero, List.set_cons_succ]
    refine held_take (i := 12) (v := ?qv12) rfl (by kernel_rfl) (by kernel_rfl) (by kernel_rfl) (fun _ _ _ h => h) (by rfl) ?qy12 hHeld ?_
    case qy12 => ((intro w _hSw; (try dsimp only at _hSw); go_simp); try (with_reducible rfl))
    try simp only [Act.put, List.setIfInBounds_toArray, List.set_cons_zero, List.set_cons_succ]
    refine held_take (i := 13) (v := ?qv13) rfl (by kernel_rfl) (by kernel_rfl) (by kernel_rfl) (fun _ _ _ h => h) (by rfl) ?qy13 hHeld ?_
    case qy13 => ((intro w _hSw; (try dsimp only at _hSw); go_simp); try (with_reducible rfl))
    try simp only [Act.put, List.setIfInBounds_toArray, List.set_cons_zero, List.set_cons_succ]
    refine held_take (i := 14) (v := ?qv14) rfl (by kernel_rfl) (by kernel_rfl) (by kernel_rfl) (fun _ _ _ h => h) (by rfl) ?qy14 hHeld ?_
    case qy14 => ((intro w _hSw; (try dsimp only at _hSw); go_simp); try (with_reducible rfl))
    try simp only [Act.put, List.setIfInBounds_toArray, List.set_cons_zero, List.set_cons_succ]
    refine held_step (i := 15) rfl (by kernel_rfl) (by rfl) (fun K hK => ?_)
    go_simp
    refine (sure01_any _ (HT.out.2.2.2.2.2.1.below (below_drewN HB7.out.2.2.2 1) HT.out.2.2.2.2.2.1.lt)).mono ?_
    rintro e w8 ⟨rfl, hb8⟩
    have H8 := Lib.hid (And.intro (below_then (below_drewN HB7.out.2.2.2 1) (below_drewN HB7.out.2.2.2 1).size hb8) (And.intro (HB7.out.1.drew.below hb8) (HB7.out.2.2.1.drew.below hb8)))
    clear hb8
    go_wp2_with fail
    have hHeld := HTS.out _ H8.out.1 H8.out.2.1 H8.out.2.2
    refine hK.out _ _ (HTS.out _ H8.out.1 H8.out.2.1 H8.out.2.2) ?_
    clear hK K
    try simp only [Act.put, List.setIfInBounds_toArray, List.set_cons_zero, List.set_cons_succ]
    refine held_take (i := 16) (v := ?qv16) rfl (by kernel_rfl) (by kernel_rfl) (by kernel_rfl) (fun _ _ _ h => h) (by rfl) ?qy16 hHeld ?_
    case qy16 => ((intro w _hSw; (try dsimp only at _hSw); go_simp); try (with_reducible rfl))
    try simp only [Act.put, List.setIfInBounds_toArray, List.set_cons_zero, List.set_cons_succ]
    refine held_take (i := 17) (v := ?qv17) rfl (by kernel_rfl) (by kernel_rfl) (by kernel_rfl) (fun _ _ _ h => h) (by rfl) ?qy17 hHeld ?_
    case qy17 => ((intro w _hSw; (try dsimp only at _hSw); go_simp); try (with_reducible rfl))
    try simp only [Act.put, List.setIfInBounds_toArray, List.set_cons_zero, List.set_cons_succ]
    refine wpAnyH_done (by kernel_rfl) ?_ _
    go_wp2
    go_ret
    exact ⟨rfl, H8.out.1⟩
  · have e1 : (!(x == y)) = true := by simp [hxy]
    rw [e1] at hneq
    clear e1 hxy heql
    refine wp_region_held_drew (S := (fun w' => w'.rangeAt b (o + p * 32) csx ∧ w'.rangeAt b (o + q * 32) csy ∧ w'.rangeAt w6.heap.size 0 csm ∧ w'.rangeAt w1.heap.size 0 csr)) (by kernel_rfl) ?rs0 (fun hHeld => ?_)
    case rs0 => exact HTS.out _ (below_drewN HB7.out.2.2.2 1) HB7.out.1.drew HB7.out.2.2.1.drew
    refine held_take (i := 0) (v := ?rv0) rfl (by kernel_rfl) (by kernel_rfl) (by kernel_rfl) (fun _ _ _ h => h) (by rfl) ?ry0 hHeld ?_
    case ry0 => ((intro w _hSw; (try dsimp only at _hSw); go_simp); try (with_reducible rfl))
    try simp only [Act.put, List.setIfInBounds_toArray, List.set_cons_zero, List.set_cons_succ]
    refine held_take (i := 1) (v := ?rv1) rfl (by kernel_rfl) (by kernel_rfl) (by kernel_rfl) (fun _ _ _ h => h) (by rfl) ?ry1 hHeld ?_
    case ry1 => ((intro w _hSw; (try dsimp only at _hSw); go_simp); try (with_reducible rfl))
    try simp only [Act.put, List.setIfInBounds_toArray, List.set_cons_zero, List.set_cons_succ]
    refine held_take (i := 2) (v := ?rv2) rfl (by kernel_rfl) (by kernel_rfl) (by kernel_rfl) (fun _ _ _ h => h) (by rfl) ?ry2 hHeld ?_
    case ry2 => ((intro w _hSw; (try dsimp only at _hSw); go_simp); try (with_reducible rfl))
    try simp only [Act.put, List.setIfInBounds_toArray, List.set_cons_zero, List.set_cons_succ]
    refine held_row (i := 3) rfl (by kernel_rfl) (by kernel_rfl) (by kernel_rfl) _ _ rfl _ _ rfl ?rC3 ?rD3 (fun _ _ _ h => h) (by rfl) ?ra3 ?rb3 ?rc3 ?rd3 hHeld ?_
    case ra3 => (intro w hSw; (try dsimp only at hSw); go_split_ands; assumption)
    case rb3 => assumption
    case rc3 => rfl
    case rd3 => first | assumption | (simp only [*]; done)
    try simp only [Act.put, List.setIfInBounds_toArray, List.set_cons_zero, List.set_cons_succ]
    refine held_take (i := 4) (v := ?rv4) rfl (by kernel_rfl) (by kernel_rfl) (by kernel_rfl) (fun _ _ _ h => h) (by rfl) ?ry4 hHeld ?_
    case ry4 => ((intro w _hSw; (try dsimp only at _hSw); go_simp); try (with_reducible rfl))
    try simp only [Act.put, List.setIfInBounds_toArray, List.set_cons_zero, List.set_cons_succ]
    refine held_take (i := 5) (v := ?rv5) rfl (by kernel_rfl) (by kernel_rfl) (by kernel_rfl) (fun _ _ _ h => h) (by rfl) ?ry5 hHeld ?_
    case ry5 => ((intro w _hSw; (try dsimp only at _hSw); go_simp); try (with_reducible rfl))
    try simp only [Act.put, List.setIfInBounds_toArray, List.set_cons_zero, List.set_cons_succ]
    refine held_take (i := 6) (v := ?rv6) rfl (by kernel_rfl) (by kernel_rfl) (by kernel_rfl) (fun _ _ _ h => h) (by rfl) ?ry6 hHeld ?_
    case ry6 => ((intro w _hSw; (try dsimp only at _hSw); go_simp); try (with_reducible rfl))
    try simp only [Act.put, List.setIfInBounds_toArray, List.set_cons_zero, List.set_cons_succ]
    refine held_row (i := 7) rfl (by kernel_rfl) (by kernel_rfl) (by kernel_rfl) _ _ rfl _ _ rfl ?rC7 ?rD7 (fun _ _ _ h => h) (by rfl) ?ra7 ?rb7 ?rc7 ?rd7 hHeld ?_
    case ra7 => (intro w hSw; (try dsimp only at hSw); go_split_ands; assumption)
    case rb7 => assumption
    case rc7 => rfl
    case rd7 => first | assumption | (simp only [*]; done)
    try simp only [Act.put, List.setIfInBounds_toArray, List.set_cons_zero, List.set_cons_succ]
    refine held_take (i := 8) (v := ?rv8) rfl (by kernel_rfl) (by kernel_rfl) (by kernel_rfl) (fun _ _ _ h => h) (by rfl) ?ry8 hHeld ?_
    case ry8 => ((intro w _hSw; (try dsimp only at _hSw); go_simp); try (with_reducible rfl))
    try simp only [Act.put, List.setIfInBounds_toArray, List.set_cons_zero, List.set_cons_succ]
    refine held_take (i := 9) (v := ?rv9) rfl (by kernel_rfl) (by kernel_rfl) (by kernel_rfl) (fun _ _ _ h => h) (by rfl) ?ry9 hHeld ?_
    case ry9 => ((intro w _hSw; (try dsimp only at _hSw); go_simp); try (with_reducible rfl))
    try simp only [Act.put, List.setIfInBounds_toArray, List.set_cons_zero, List.set_cons_succ]
    refine wpAnyH_take (i := 10) (v := undef) rfl (by kernel_rfl) (by kernel_rfl) (by kernel_rfl) (fun _ _ _ h => h) (.inr ⟨by rfl, rfl⟩) hHeld ?_
    try simp only [Act.put, List.setIfInBounds_toArray, List.set_cons_zero, List.set_cons_succ]
    refine wpAnyH_take (i := 11) (v := undef) rfl (by kernel_rfl) (by kernel_rfl) (by kernel_rfl) (fun _ _ _ h => h) (.inr ⟨by rfl, rfl⟩) hHeld ?_
    try simp only [Act.put, List.setIfInBounds_toArray, List.set_cons_zero, List.set_cons_succ]
    refine wpAnyH_take (i := 12) (v := undef) rfl (by kernel_rfl) (by kernel_rfl) (by kernel_rfl) (fun _ _ _ h => h) (.inr ⟨by rfl, rfl⟩) hHeld ?_
    try simp only [Act.put, List.setIfInBounds_toArray, List.set_cons_zero, List.set_cons_succ]
    refine held_take (i := 13) (v := ?rv13) rfl (by kernel_rfl) (by kernel_rfl) (by kernel_rfl) (fun _ _ _ h => h) (by rfl) ?ry13 hHeld ?_
    case ry13 => ((intro w _hSw; (try dsimp only at _hSw); go_simp); try (with_reducible rfl))
    try simp only [Act.put, List.setIfInBounds_toArray, List.set_cons_zero, List.set_cons_succ]
    refine held_take (i := 14) (v := ?rv14) rfl (by kernel_rfl) (by kernel_rfl) (by kernel_rfl) (fun _ _ _ h => h) (by rfl) ?ry14 hHeld ?_
    case ry14 => ((intro w _hSw; (try dsimp only at _hSw); go_simp); try (with_reducible rfl))
    try simp only [Act.put, List.setIfInBounds_toArray, List.set_cons_zero, List.set_cons_succ]
    refine held_step (i := 15) rfl (by kernel_rfl) (by rfl) (fun K hK => ?_)
    go_simp
    refine (sure01_any _ (HT.out.2.2.2.2.2.1.below (below_drewN HB7.out.2.2.2 1) HT.out.2.2.2.2.2.1.lt)).mono ?_
    rintro e w8 ⟨rfl, hb8⟩
    have H8 := Lib.hid (And.intro (below_then (below_drewN HB7.out.2.2.2 1) (below_drewN HB7.out.2.2.2 1).size hb8) (And.intro (HB7.out.1.drew.below hb8) (HB7.out.2.2.1.drew.below hb8)))
    clear hb8
    go_wp2_with fail
    have hHeld := HTS.out _ H8.out.1 H8.out.2.1 H8.out.2.2
    refine hK.out _ _ (HTS.out _ H8.out.1 H8.out.2.1 H8.out.2.2) ?_
    clear hK K
    try simp only [Act.put, List.setIfInBounds_toArray, List.set_cons_zero, List.set_cons_succ]
    refine held_take (i := 16) (v := ?rv16) rfl (by kernel_rfl) (by kernel_rfl) (by kernel_rfl) (fun _ _ _ h => h) (by rfl) ?ry16 hHeld ?_
    case ry16 => ((intro w _hSw; (try dsimp only at _hSw); go_simp); try (with_reducible rfl))
    try simp only [Act.put, List.setIfInBounds_toArray, List.set_cons_zero, List.set_cons_succ]
    refine held_take (i := 17) (v := ?rv17) rfl (by kernel_rfl) (by kernel_rfl) (by kernel_rfl) (fun _ _ _ h => h) (by rfl) ?ry17 hHeld ?_
    case ry17 => ((intro w _hSw; (try dsimp only at _hSw); go_simp); try (with_reducible rfl))
    try simp only [Act.put, List.setIfInBounds_toArray, List.set_cons_zero, List.set_cons_succ]
    refine wpAnyH_done (by kernel_rfl) ?_ _
    go_wp2
    go_ret
    exact ⟨rfl, H8.out.1⟩
#print axioms proves_near
end Go.Proofs.YtcgdojdiihdkeaaDoor
