/- Acts and pairs, opened where the bulk is bounded. -/
import Derived.Test.YtdekealpachhmaaDoorOpenU
import Derived.Test.YtdekealpachhmaaDoorPaths
namespace Go.Proofs.YtdekealpachhmaaDoor
open Go Go.RowKit Go.ChangeAt Go.Isth

theorem chunk_flat {α : Type} {R : List Value → α → Prop} {size : Nat} {f : α → List Value} (hf : ∀ cs a, R cs a → cs = f a) : ∀ (xs : List α) (cells : List Value), Chunks R size cells xs → cells = xs.flatMap f
  | [], cells, h => by
    have := h.1
    simp only [List.length_nil, Nat.zero_mul] at this
    exact List.eq_nil_of_length_eq_zero this
  | x :: xs, cells, h => by
    have h0 := hf _ _ (h.2 0 x rfl)
    rw [Nat.zero_mul, List.drop_zero] at h0
    have hr : Chunks R size (cells.drop size) xs := by
      refine ⟨?_, fun i y hy => ?_⟩
      · rw [List.length_drop, h.1, List.length_cons, Nat.add_mul, Nat.one_mul, Nat.add_sub_cancel]
      · have := h.2 (i + 1) y hy
        rw [List.drop_drop]
        rw [Nat.add_mul, Nat.one_mul, Nat.add_comm] at this
        exact this
    have := chunk_flat hf xs _ hr
    rw [List.flatMap_cons, ← h0, ← this, List.take_append_drop]
theorem chunk_all {α : Type} {R : List Value → α → Prop} {size : Nat} {cells : List Value} {xs : List α} {p : α → Prop} (hp : ∀ cs a, R cs a → p a) (h : Chunks R size cells xs) : ∀ a ∈ xs, p a := by
  intro a ha
  obtain ⟨i, hi, rfl⟩ := List.getElem_of_mem ha
  exact hp _ _ (h.2 i _ (List.getElem?_eq_getElem hi))
theorem i64_wfA {n : Int} (h : (Lit.int .i64 n).wf = true) : -9223372036854775808 ≤ n ∧ n < 9223372036854775808 := by
  have : -9223372036854775808 ≤ n ∧ n ≤ 9223372036854775807 := by simpa [Lit.wf, IntKind.min, IntKind.max, IntKind.signed, IntKind.bits] using h
  omega
theorem OpensU.string {P : Program} {t : TypeId} (ht : P.underlying t = some .string) : OpensU P t (fun _ cs (s : Str) => cs = [S8 s] ∧ s.length ≤ 1048576) :=
  fun H enc w held fuel cs d pl h hw => by
    obtain ⟨s, e1, e2, _⟩ := DataW.trod_string ht h
    injection e2 with e2 _
    subst e2
    simp only [Rows.uptoBulk] at hw
    exact ⟨s.data.toList, e1, by omega⟩
/-- What an Act's cells are. -/
def ActR (_ : World) (cs : List Value) (a : ActV) : Prop := cs = actC a ∧ a.key.length ≤ 1048576 ∧ a.val.length ≤ 1048576
set_option maxRecDepth 100000 in
theorem OpensU.act : OpensU Tryd.prog 71 ActR := fun H enc w held fuel cs d pl h hw => by
  obtain ⟨xs, m, _, hx, hl, hxl, hf⟩ := DataW.trod_struct Tryd.underlying71 h
  have c3 : Tryd.prog.cellsOf 3 = 1 := by kernel_rfl
  have c9 : Tryd.prog.cellsOf 9 = 1 := by kernel_rfl
  have c71 : Tryd.prog.cellsOf 71 = 3 := by kernel_rfl
  rw [c71] at hl
  injection hx with hd _
  match xs, hxl with
  | [y0, y1, y2], _ =>
    have f0 : DataW.trod enc Tryd.prog w 0 (fun _ => true) held m 3 ((cs.drop 0).take (Tryd.prog.cellsOf 3)) = some y0 := hf 0 _ rfl
    rw [c3] at f0
    have f1 : DataW.trod enc Tryd.prog w 0 (fun _ => true) held m 9 ((cs.drop 1).take (Tryd.prog.cellsOf 9)) = some y1 := hf 1 _ rfl
    rw [c9] at f1
    have f2 : DataW.trod enc Tryd.prog w 0 (fun _ => true) held m 9 ((cs.drop 2).take (Tryd.prog.cellsOf 9)) = some y2 := hf 2 _ rfl
    rw [c9] at f2
    subst hd
    simp only [Rows.uptoBulk, Rows.uptoBulkAll, List.map_cons, List.map_nil] at hw
    obtain ⟨k, e0, w0⟩ := OpensU.int Tryd.underlying3 H enc w held m _ y0.1 y0.2 f0 (by omega)
    obtain ⟨s1, e1, h1⟩ := OpensU.string Tryd.underlying9 H enc w held m _ y1.1 y1.2 f1 (by omega)
    obtain ⟨s2, e2, h2⟩ := OpensU.string Tryd.underlying9 H enc w held m _ y2.1 y2.2 f2 (by omega)
    refine ⟨⟨k, s1, s2⟩, ?_, h1, h2⟩
    match cs, hl with
    | [a, b, c], _ =>
      have e0' : a = .int .i64 k := by simpa using e0
      have e1' : b = S8 s1 := by simpa using e1
      have e2' : c = S8 s2 := by simpa using e2
      subst e0' e1' e2'
      rfl
theorem o_acts : OpensU Tryd.prog 54 (fun w cs xs => ∃ v, cs = [v] ∧ SliceU ActR 3 w v xs) :=
  OpensU.slice Tryd.underlying54 (by kernel_rfl) OpensU.act
theorem acts_ofU {w : World} {v : Value} {xs : List ActV} (h : SliceU ActR 3 w v xs) : ∃ A c, v = .slice A xs.length c ∧ xs.length ≤ c ∧ xs.length ≤ 1048576 ∧ Rd w A (xs.flatMap actC) ∧ ∀ a ∈ xs, a.key.length ≤ 2000000 ∧ a.val.length ≤ 2000000 := by
  obtain ⟨A, c, cells, e, hc, hm, hr, hk, _⟩ := h
  have e2 := chunk_flat (R := ActR w) (f := actC) (fun cs a h => h.1) xs cells hk
  subst e2
  exact ⟨A, c, e, hc, hm, hr, chunk_all (R := ActR w) (p := fun a => a.key.length ≤ 2000000 ∧ a.val.length ≤ 2000000) (fun cs a h => ⟨Nat.le_trans h.2.1 (by decide), Nat.le_trans h.2.2 (by decide)⟩) hk⟩
end Go.Proofs.YtdekealpachhmaaDoor
