/- A Thing, opened within the form's reach. -/
import Derived.Test.YtdmopnmifdjcnaaDoorPackT2
namespace Go.Proofs.YtdmopnmifdjcnaaDoor
open Go Go.RowKit Go.ChangeAt Go.Isth

theorem Opens.array {P : Program} {t e : TypeId} {n : Nat} (ht : P.underlying t = some (.array n e)) (he : P.underlying e = some (.int .u8)) (hs : P.cellsOf e = 1) (hc : P.cellsOf t = n) : Opens P t (fun _ cs (hs : List UInt8) => cs = hs.map B ∧ hs.length = n) :=
  fun H enc w held fuel cs d pl h _ => by
    obtain ⟨xs, m, _, _, hl, hxl, hf⟩ := DataW.trod_array ht h
    rw [hc] at hl
    have each : ∀ i, i < n → ∃ b : UInt8, cs[i]? = some (B b) := by
      intro i hi
      have h1 := hf i hi
      rw [hs, List.getElem?_eq_getElem (by omega)] at h1
      obtain ⟨b, hb⟩ := byte_trod he h1
      refine ⟨b, ?_⟩
      have h2 : ((cs.drop (i * 1)).take 1)[0]? = some (B b) := by rw [hb]; rfl
      rwa [List.getElem?_take, if_pos (by omega), List.getElem?_drop, Nat.mul_one, Nat.add_zero] at h2
    obtain ⟨f, hfb⟩ := Go.Deep.choose_lt each
    refine ⟨(List.range n).map f, ?_, by simp⟩
    apply List.ext_getElem?
    intro i
    rcases Nat.lt_or_ge i n with hi | hi
    · rw [hfb i hi]; simp [hi]
    · rw [List.getElem?_eq_none (by omega), List.getElem?_eq_none (by simpa using hi)]

/-- What a Thing's cells are. -/
def ThingL (w : World) (cs : List Value) (t : ThingV) : Prop :=
  ∃ (A : Option Addr) (c : Nat), cs = thingCells t.k t.n (.slice A t.xs.length c) t.hs ∧ t.xs.length ≤ c ∧ Rd w A (t.xs.map B) ∧ t.xs.length ≤ 140737488351232 ∧ (∀ ad, A = some ad → 0 < t.xs.length → ad.block < w.heap.size) ∧ t.hs.length = 32 ∧
    -9223372036854775808 ≤ t.k ∧ t.k < 9223372036854775808 ∧ -9223372036854775808 ≤ t.n ∧ t.n < 9223372036854775808
theorem Opens.thing : Opens Tryd.prog 54 ThingL := fun H enc w held fuel cs d pl h hw => by
  obtain ⟨xs, m, _, hx, hl, hxl, hf⟩ := DataW.trod_struct Tryd.underlying54 h
  have c3 : Tryd.prog.cellsOf 3 = 1 := by kernel_rfl
  have c23 : Tryd.prog.cellsOf 22 = 1 := by kernel_rfl
  have c48 : Tryd.prog.cellsOf 52 = 32 := by kernel_rfl
  have c53 : Tryd.prog.cellsOf 54 = 35 := by kernel_rfl
  rw [c53] at hl
  injection hx with hd _
  match xs, hxl with
  | [y0, y1, y2, y3], _ =>
    have f0 : DataW.trod enc Tryd.prog w 0 (fun _ => true) held m 3 ((cs.drop 0).take (Tryd.prog.cellsOf 3)) = some y0 := hf 0 _ rfl
    rw [c3] at f0
    have f1 : DataW.trod enc Tryd.prog w 0 (fun _ => true) held m 3 ((cs.drop 1).take (Tryd.prog.cellsOf 3)) = some y1 := hf 1 _ rfl
    rw [c3] at f1
    have f2 : DataW.trod enc Tryd.prog w 0 (fun _ => true) held m 22 ((cs.drop 2).take (Tryd.prog.cellsOf 22)) = some y2 := hf 2 _ rfl
    rw [c23] at f2
    have f3 : DataW.trod enc Tryd.prog w 0 (fun _ => true) held m 52 ((cs.drop 3).take (Tryd.prog.cellsOf 52)) = some y3 := hf 3 _ rfl
    rw [c48] at f3
    subst hd
    have hw' : ∀ n ∈ DataW.weightsEach Tryd.prog [3, 3, 22, 52] [y0.1, y1.1, y2.1, y3.1], n ≤ reachBytes := by
      have h0 : ∀ n ∈ (DataW.agg [y0.1, y1.1, y2.1, y3.1]).weights Tryd.prog 54, n ≤ reachBytes := hw
      simp only [DataW.weights, Tryd.underlying54] at h0
      exact h0
    simp only [DataW.weightsEach, List.mem_append, List.append_nil] at hw'
    obtain ⟨k, e0, w0⟩ := Opens.int Tryd.underlying3 H enc w held m _ y0.1 y0.2 f0 (fun n hn => hw' n (.inl hn))
    obtain ⟨n, e1, w1⟩ := Opens.int Tryd.underlying3 H enc w held m _ y1.1 y1.2 f1 (fun n hn => hw' n (.inr (.inl hn)))
    obtain ⟨bs, v, e2, hb⟩ := Opens.slice (bytes := 1) Tryd.underlying22 (by kernel_rfl) (by kernel_rfl) (Opens.byte Tryd.underlying5) H enc w held m _ y2.1 y2.2 f2 (fun n hn => hw' n (.inr (.inr (.inl hn))))
    obtain ⟨hs, e3, hh⟩ := Opens.array Tryd.underlying52 Tryd.underlying5 (by kernel_rfl) (by kernel_rfl) H enc w held m _ y3.1 y3.2 f3 (fun n hn => hw' n (.inr (.inr (.inr hn))))
    obtain ⟨A, c, rfl, hc, hr, hm, hA⟩ := bytes_of hb
    have b0 := i64_wf w0
    have b1 := i64_wf w1
    refine ⟨⟨k, n, bs, hs⟩, A, c, ?_, hc, hr, hm, hA, hh, b0.1, b0.2, b1.1, b1.2⟩
    rcases cs with _ | ⟨a, cs⟩
    · simp at hl
    rcases cs with _ | ⟨b, cs⟩
    · simp at hl
    rcases cs with _ | ⟨c', rest⟩
    · simp at hl
    have hrl : rest.length ≤ 32 := by simp only [List.length_cons] at hl; omega
    have e0' : a = .int .i64 k := by simpa using e0
    have e1' : b = .int .i64 n := by simpa using e1
    have e2' : c' = .slice A bs.length c := by simpa using e2
    have e3' : rest = hs.map B := by
      have h3 : ((a :: b :: c' :: rest).drop 3).take 32 = rest := by
        rw [List.drop_succ_cons, List.drop_succ_cons, List.drop_succ_cons, List.drop_zero]
        exact List.take_of_length_le hrl
      rw [← h3]; exact e3
    subst e0' e1' e2' e3'
    rfl
/-- Things that came in. -/
def ThingsAt (w : World) (A0 : Option Addr) (ts : List ThingV) : Prop := ∀ i (hi : i < ts.length), ∃ b0 o0, A0 = some ⟨b0, o0, none⟩ ∧ b0 < w.heap.size ∧ ∃ A c,
  (∀ j u, (thingCells ts[i].k ts[i].n (.slice A ts[i].xs.length c) ts[i].hs)[j]? = some u → w.cell? ⟨b0, o0 + i * 35 + j, none⟩ = some u) ∧ ts[i].hs.length = 32 ∧ -9223372036854775808 ≤ ts[i].k ∧ ts[i].k < 9223372036854775808
theorem things_at {w : World} {v : Value} {xs : List ThingV} {bytes : Nat} (h : SliceIs ThingL 35 bytes w v xs) : ∃ A c, v = .slice A xs.length c ∧ ThingsAt w A xs := by
  obtain ⟨A, c, cells, rfl, hc, hm, hr, hk, hlt⟩ := h
  refine ⟨A, c, rfl, fun i hi => ?_⟩
  have hcl : 0 < cells.length := by rw [hk.1]; omega
  obtain ⟨b0, o0, rfl, hcell⟩ := hr hcl
  obtain ⟨A', c', e, h1, h2, h3, h4, h5, h6, h7, _⟩ := hk.2 i _ (List.getElem?_eq_getElem hi)
  refine ⟨b0, o0, rfl, hlt ⟨b0, o0, none⟩ rfl (by decide) (by omega), A', c', fun j u hu => ?_, h5, h6, h7⟩
  rw [Nat.add_assoc]
  refine hcell _ _ ?_
  rw [← e, List.getElem?_take] at hu
  split at hu
  · rwa [List.getElem?_drop] at hu
  · cases hu
#print axioms things_at
end Go.Proofs.YtdmopnmifdjcnaaDoor
