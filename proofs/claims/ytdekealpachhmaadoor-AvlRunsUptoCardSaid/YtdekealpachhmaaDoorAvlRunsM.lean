/- What is asked, truths, sums, bytes: opened where the bulk is bounded. AvlRuns holds for every input whose bulk is at most 1048576, what the program lays as it is laid. -/
import Derived.Test.YtdekealpachhmaaDoorOpenA
import Derived.Test.YtdekealpachhmaaDoorCard7
import Derived.ChangeMaps5
import Derived.Test.YtdekealpachhmaaDoorMruB

namespace Go.Proofs.YtdekealpachhmaaDoor
open Go Go.RowKit Go.ChangeAt Go.Isth

theorem agg_ofU {t : TypeId} {α : Type} {R : World → List Value → α → Prop} {H : Type} {enc : TypeId × Value → H} {W : World} {v : Value} {d : DataW H} {p : List MemPlace} (hv : ∃ cs : Array Value, v = .agg cs) (ho : OpensU Tryd.prog t R)
    (h : DataW.Trod enc Tryd.prog W 0 (fun _ => true) true t v d p) (hb : Rows.uptoBulk d ≤ 1048576) : ∃ (cs : List Value) (x : α), v = .agg cs.toArray ∧ R W cs x := by
  obtain ⟨cs, rfl⟩ := hv
  obtain ⟨fuel, hf⟩ := h
  obtain ⟨x, hx⟩ := ho H enc W true fuel _ d p hf hb
  exact ⟨cs.toList, x, rfl, hx⟩
/-- What is asked. -/
def AskR (_ : World) (cs : List Value) (a : Str × Str × Int) : Prop := cs = [S8 a.1, S8 a.2.1, .int .i64 a.2.2] ∧ a.1.length ≤ 1048576 ∧ a.2.1.length ≤ 1048576
set_option maxRecDepth 100000 in
theorem OpensU.asked : OpensU Tryd.prog 76 AskR := fun H enc w held fuel cs d pl h hw => by
  obtain ⟨xs, m, _, hx, hl, hxl, hf⟩ := DataW.trod_struct Tryd.underlying76 h
  have c3 : Tryd.prog.cellsOf 3 = 1 := by kernel_rfl
  have c9 : Tryd.prog.cellsOf 9 = 1 := by kernel_rfl
  have c76 : Tryd.prog.cellsOf 76 = 3 := by kernel_rfl
  rw [c76] at hl
  injection hx with hd _
  match xs, hxl with
  | [y0, y1, y2], _ =>
    have f0 : DataW.trod enc Tryd.prog w 0 (fun _ => true) held m 9 ((cs.drop 0).take (Tryd.prog.cellsOf 9)) = some y0 := hf 0 _ rfl
    rw [c9] at f0
    have f1 : DataW.trod enc Tryd.prog w 0 (fun _ => true) held m 9 ((cs.drop 1).take (Tryd.prog.cellsOf 9)) = some y1 := hf 1 _ rfl
    rw [c9] at f1
    have f2 : DataW.trod enc Tryd.prog w 0 (fun _ => true) held m 3 ((cs.drop 2).take (Tryd.prog.cellsOf 3)) = some y2 := hf 2 _ rfl
    rw [c3] at f2
    subst hd
    simp only [Rows.uptoBulk, Rows.uptoBulkAll, List.map_cons, List.map_nil] at hw
    obtain ⟨s0, e0, h0⟩ := OpensU.string Tryd.underlying9 H enc w held m _ y0.1 y0.2 f0 (by omega)
    obtain ⟨s1, e1, h1⟩ := OpensU.string Tryd.underlying9 H enc w held m _ y1.1 y1.2 f1 (by omega)
    obtain ⟨k, e2, _⟩ := OpensU.int Tryd.underlying3 H enc w held m _ y2.1 y2.2 f2 (by omega)
    refine ⟨(s0, s1, k), ?_, h0, h1⟩
    match cs, hl with
    | [a, b, c], _ =>
      have e0' : a = S8 s0 := by simpa using e0
      have e1' : b = S8 s1 := by simpa using e1
      have e2' : c = .int .i64 k := by simpa using e2
      subst e0' e1' e2'
      rfl
set_option maxRecDepth 100000 in
theorem asked_ofU {H : Type} {enc : TypeId × Value → H} {W : World} {base : Nat} {v : Value} {d : DataW H} {p : List MemPlace} (hv : Value.okWide Tryd.prog W .any base 76 v) (h : DataW.Trod enc Tryd.prog W 0 (fun _ => true) true 76 v d p) (hb : Rows.uptoBulk d ≤ 1048576) :
    ∃ a : Str × Str × Int, v = .agg #[S8 a.1, S8 a.2.1, .int .i64 a.2.2] ∧ a.1.length ≤ 2000000 ∧ a.2.1.length ≤ 2000000 := by
  simp only [Value.okWide, Tryd.underlying76] at hv
  obtain ⟨cs, rfl, _⟩ := hv
  obtain ⟨cs', x, e, rfl, h1, h2⟩ := agg_ofU ⟨cs, rfl⟩ OpensU.asked h hb
  exact ⟨x, e, Nat.le_trans h1 (by decide), Nat.le_trans h2 (by decide)⟩
end Go.Proofs.YtdekealpachhmaaDoor

namespace Go.Proofs.YtdekealpachhmaaDoor.avlRuns
open Go.ChangeShapes Go.WideShapes Go.ChangeAt Go.RowKit Go.Isth Go.ChangeMaps Go.Proofs.YtdekealpachhmaaDoor.card

theorem bulk_bound {H : Type} {l : List (DataW H)} (hk : Rows.uptoSmall H l = true) : Rows.uptoBulkAll l ≤ 1048576 := by
  simpa [Rows.uptoSmall] using hk
set_option maxRecDepth 100000 in
theorem contract (H : Type) (enc : TypeId × Value → H) (W : World) (base : Nat) (args : Array Value) (ds gs : List (DataW H)) (before : List MemPlace)
    (hval : ∀ (j : Nat) t v, Tryd.f7.params[j]? = some t → args[j]? = some v → Value.okWide Tryd.prog W .any base t v)
    (hW : DataW.Whole enc Tryd.prog Tryd.f7.params.toList Rows.avlRunsSpec.vars false W args.toList ds gs before) (hL : laidMetH Tryd.prog Rows.avlRunsUptoRow.laid W)
    (hk : Rows.uptoSmall H (ds ++ gs) = true) :
    Calls Tryd.prog 7 args W fun e W' => ∃ v, e = .returned v ∧ Rows.avlRunsSpec.post enc Tryd.prog Tryd.f7 false true false false W args v W' := by
  have hW' := hW
  obtain ⟨p, q, hA0, hV, rfl, hfz, hnd⟩ := hW
  have hA : DataW.TrodAll enc Tryd.prog W 0 (fun _ => true) true Tryd.f7.params.toList args.toList ds p := hA0
  rw [Tryd.params7] at hA hval
  obtain ⟨v0, vs0, d0, ds0, p0, q0, hargs, rfl, rfl, h0, r0⟩ := trodAll_cons hA
  obtain ⟨v1, vs1, d1, ds1, p1, q1, rfl, rfl, rfl, h1, r1⟩ := trodAll_cons r0
  obtain ⟨rfl, rfl, rfl⟩ := trodAll_nil r1
  obtain rfl : args = #[v0, v1] := by cases args; simp_all
  obtain ⟨rfl, rfl⟩ := trodVars_none hV
  have hbulk : Rows.uptoBulk d0 ≤ 1048576 ∧ Rows.uptoBulk d1 ≤ 1048576 := by
    have h1 := bulk_bound hk
    simp only [List.append_nil, Rows.uptoBulkAll] at h1
    omega
  obtain ⟨A0, len0, cap0, rfl⟩ := okWide_slice Tryd.underlying54 (hval 0 54 v0 rfl rfl)
  have k0 := h0
  have lt0 : ∀ x ∈ p0, x.block < W.heap.size := by obtain ⟨m, hm⟩ := k0; exact DataW.trod_lt m _ _ _ hm
  obtain ⟨fuel0, hf0⟩ := h0
  obtain ⟨xs0, v0, e0, hs0⟩ := o_acts H enc W true fuel0 _ d0 p0 hf0 hbulk.1
  obtain ⟨A0', c0', rfl, hc0, hm0, hr0, ha0⟩ := acts_ofU hs0
  simp only [Value.cells, List.cons.injEq, and_true] at e0
  injection e0 with e1 e2 e3
  subst e1
  subst e2
  subst e3
  have k1 := h1
  have lt1 : ∀ x ∈ p1, x.block < W.heap.size := by obtain ⟨m, hm⟩ := k1; exact DataW.trod_lt m _ _ _ hm
  obtain ⟨x1, rfl, hx1⟩ := asked_ofU (hval 1 76 v1 rfl rfl) h1 hbulk.2
  clear hA0
  have tab : TabLaid W := rounds_of hL.1
  have ty : TypeCell W := type_of hL.2
  refine (runs_any A0 cap0 xs0 x1.1 x1.2.1 x1.2.2 W hc0 hr0 ha0 (by omega) hx1.1 hx1.2 tab ty).mono fun e W' ⟨he, bel⟩ => ?_
  subst he
  exact ⟨_, rfl, _, _, _, [], _, [], hW', trodAll_mk1 (shut_bool Tryd.underlying4 _), (trodAll_cons_mk (Below.trod laidOut (by kernel_rfl) (of_decide_eq_true (by kernel_rfl)) k0 bel lt0) (trodAll_cons_mk (Below.trod laidOut (by kernel_rfl) (of_decide_eq_true (by kernel_rfl)) k1 bel lt1) trodAll_mk0)), rfl, bel.frame _, fun h => by cases h⟩

abbrev wit : Array Value := #[.slice none 0 0, .agg #[.string .empty, .string .empty, .int .i64 0]]
theorem laid_met (os : Os) : laidMetH Tryd.prog Rows.avlRunsUptoRow.laid ((laidWorld os).forCall (fun _ _ => 0) ⟨#[], wit, []⟩).memory := laidMetH_of_parts (rounds_met os wit) (by kernel_rfl)
theorem reads (os : Os) {H : Type} (enc : TypeId × Value → H) : ∃ places, DataW.whole enc Tryd.prog ((laidWorld os).forCall (fun _ _ => 0) ⟨#[], wit, []⟩).memory Tryd.f7.params.toList Rows.avlRunsSpec.vars false wit.toList 8 = some ([.nil, .agg [.lit (.string []), .lit (.string []), .lit (.int .i64 0)]], [], places) :=
  ⟨[], by kernel_rfl⟩

set_option maxRecDepth 100000 in
theorem lifted (os : Os) (started : os.Started) (H : Type) (enc : TypeId × Value → H) (F : Stop.Interp) :
    ReturnsInHanded {} Tryd.checked os 7 .any ((Rows.OpenSpec.upto Rows.avlRunsSpec).preRow enc Tryd.prog Tryd.f7 Rows.avlRunsUptoRow.domain false Rows.avlRunsUptoRow.laid) (((Rows.OpenSpec.upto Rows.avlRunsSpec).at F).post enc Tryd.prog Tryd.f7 false true false false) := by
  obtain ⟨places, hx⟩ := reads os enc
  refine returnsInHanded_of_row (C := Tryd.checked) (s := Rows.OpenSpec.upto Rows.avlRunsSpec) own started (by kernel_rfl) Tryd.func7
    (witness_row_atRef (enc := enc) (C := Tryd.checked) false (laidWorld os) wit rfl (by kernel_rfl) (by kernel_rfl) (by kernel_rfl)
      (OpenSpec.preRow_of_cond 8 hx (by kernel_rfl) (fun k hk => by cases hk; rfl) (by kernel_rfl) (laid_met os))) ?_
  intro W base args ds gs before hval hW _ hk _ hL _ _
  exact contract H enc W base args ds gs before hval hW hL (hk Rows.uptoSmall rfl)

theorem said : Rows.AvlRunsUptoSaid :=
  OpenClaim.holds_of_cond 7 Tryd.f7 rfl rfl rfl rfl rfl rfl rfl ⟨rfl, rfl, rfl, rfl, rfl⟩ rfl rfl rfl rfl rfl (by kernel_rfl) Tryd.func7 (by kernel_rfl)
    (of_decide_eq_true (by kernel_rfl)) (by unfold Func.isWrapper; first | (rw [if_pos (by decide +kernel)]; kernel_rfl) | (rw [if_neg (by decide +kernel)]; exact ⟨rfl, rfl⟩))
    (fun os started H enc _ F => by rw [OpenClaim.pre_eq_preRow]; exact lifted os started H enc F)

theorem plain (f : FuncId) (fn : Func) (hf : Tryd.pinned.checked.prog.funcNamed "isthmus/isthmuslaw07.AvlRuns" = some f) (hfn : Tryd.pinned.checked.prog.funcs[f]? = some fn) :
    true = Tryd.pinned.checked.prog.looks [] ∧ ∀ (j : Nat) t, fn.params[j]? = some t → Tryd.pinned.checked.prog.wantsStandIn t = false := by
  obtain rfl : f = 7 := Option.some.inj ((show Tryd.prog.funcNamed "isthmus/isthmuslaw07.AvlRuns" = some 7 by kernel_rfl).symm.trans hf) |>.symm
  obtain rfl : fn = Tryd.f7 := (Option.some.inj (Tryd.func7.symm.trans hfn)).symm
  refine ⟨by kernel_rfl, fun j t ht => ?_⟩
  rw [Tryd.params7] at ht
  have hm := Array.mem_of_getElem? ht
  simp only [List.mem_toArray, List.mem_cons, List.not_mem_nil, or_false] at hm
  rcases hm with rfl | rfl
  · exact (show Tryd.prog.wantsStandIn 54 = false by kernel_rfl)
  · exact (show Tryd.prog.wantsStandIn 76 = false by kernel_rfl)

theorem card : Rows.AvlRunsUptoCardSaid :=
  Claim7.holds_tied_plain_at .later [] _ _ _ _ said (fun _ h => by cases h) (by kernel_rfl) (fun _ h => by cases h) avlRunsUpto_row_tie rfl ⟨rfl, rfl⟩ (by kernel_rfl) rfl plain (by kernel_rfl)
#print axioms card
end Go.Proofs.YtdekealpachhmaaDoor.avlRuns
