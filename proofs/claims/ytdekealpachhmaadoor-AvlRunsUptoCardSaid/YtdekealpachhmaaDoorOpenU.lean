/- Opening what comes in where the bulk is bounded: for an '..UptoSaid'. -/
import Derived.Test.YtdekealpachhmaaDoorRows
import Derived.Test.YtdekealpachhmaaDoorOpen
import Derived.ChangeArms
namespace Go.Proofs.YtdekealpachhmaaDoor
open Go Go.RowKit Go.ChangeAt Go.Isth

theorem bulk_part {H : Type} {d : DataW H} {l : List (DataW H)} (h : d ∈ l) : Rows.uptoBulk d ≤ Rows.uptoBulkAll l := by
  induction l with
  | nil => cases h
  | cons x r ih =>
    simp only [Rows.uptoBulkAll]
    cases List.mem_cons.1 h with
    | inl e => subst e; omega
    | inr e => have := ih e; omega
theorem bulk_one {H : Type} (d : DataW H) : 1 ≤ Rows.uptoBulk d := by
  cases d with
  | lit l => cases l <;> simp [Rows.uptoBulk]
  | _ => simp [Rows.uptoBulk]
theorem bulk_length {H : Type} (l : List (DataW H)) : l.length ≤ Rows.uptoBulkAll l := by
  induction l with
  | nil => simp [Rows.uptoBulkAll]
  | cons x r ih => have := bulk_one x; simp only [Rows.uptoBulkAll, List.length_cons]; omega

def OpensU (P : Program) (t : TypeId) {α : Type} (R : World → List Value → α → Prop) : Prop :=
  ∀ (H : Type) (enc : TypeId × Value → H) (w : World) (held : Bool) (fuel : Nat) (cs : List Value) (d : DataW H) (pl : List MemPlace),
    DataW.trod enc P w 0 (fun _ => true) held fuel t cs = some (d, pl) → Rows.uptoBulk d ≤ 1048576 → ∃ x, R w cs x

theorem OpensU.int {P : Program} {t : TypeId} {k : IntKind} (ht : P.underlying t = some (.int k)) : OpensU P t (fun _ cs (n : Int) => cs = [.int k n] ∧ (Lit.int k n).wf = true) :=
  fun H enc w held fuel cs d pl h _ => by
    obtain ⟨n, e1, _, e3⟩ := DataW.trod_int ht h
    exact ⟨n, e1, e3⟩
theorem byte_trod {P : Program} {t : TypeId} (ht : P.underlying t = some (.int .u8)) {H : Type} {enc : TypeId × Value → H} {w : World} {held : Bool} {fuel : Nat} {cs : List Value} {x : DataW H × List MemPlace} (h : DataW.trod enc P w 0 (fun _ => true) held fuel t cs = some x) : ∃ b : UInt8, cs = [B b] := by
  obtain ⟨n, e1, _, e3⟩ := DataW.trod_int ht h
  have hb : 0 ≤ n ∧ n ≤ 255 := by simpa [Lit.wf, IntKind.min, IntKind.max, IntKind.signed, IntKind.bits] using e3
  refine ⟨UInt8.ofNat n.toNat, ?_⟩
  have h3 : ((UInt8.ofNat n.toNat).toNat : Int) = n := by
    rw [UInt8.toNat_ofNat']; omega
  show cs = [Value.int .u8 ((UInt8.ofNat n.toNat).toNat : Int)]
  rw [h3]
  exact e1
theorem OpensU.byte {P : Program} {t : TypeId} (ht : P.underlying t = some (.int .u8)) : OpensU P t (fun _ cs (b : UInt8) => cs = [B b]) :=
  fun _ _ _ _ _ _ _ _ h _ => byte_trod ht h

/-- An array of bytes. -/
theorem OpensU.array {P : Program} {t e : TypeId} {n : Nat} (ht : P.underlying t = some (.array n e)) (he : P.underlying e = some (.int .u8)) (hs : P.cellsOf e = 1) (hc : P.cellsOf t = n) : OpensU P t (fun _ cs (hs : List UInt8) => cs = hs.map B ∧ hs.length = n) :=
  fun H enc w held fuel cs d pl h _ => by
    obtain ⟨xs, m, _, _, hl, hxl, hf⟩ := DataW.trod_array ht h
    rw [hc] at hl
    have each : ∀ i, i < n → ∃ b : UInt8, cs[i]? = some (B b) := by
      intro i hi
      have h1 := hf i hi
      rw [hs, List.getElem?_eq_getElem (by omega)] at h1
      obtain ⟨b, hb⟩ := byte_trod he h1
      refine ⟨b, ?_⟩
      have h2 : ((cs.drop (i * 1)).take 1)[0]? = some (B b) := by rw [hb]; rfl
      rwa [List.getElem?_take, if_pos (by omega), List.getElem?_drop, Nat.mul_one, Nat.add_zero] at h2
    obtain ⟨f, hfb⟩ := Go.Deep.choose_lt each
    refine ⟨(List.range n).map f, ?_, by simp⟩
    apply List.ext_getElem?
    intro i
    rcases Nat.lt_or_ge i n with hi | hi
    · rw [hfb i hi]; simp [hi]
    · rw [List.getElem?_eq_none (by omega), List.getElem?_eq_none (by simpa using hi)]

/-- A slice that came in. -/
def SliceU {α : Type} (R : World → List Value → α → Prop) (size : Nat) (w : World) (v : Value) (xs : List α) : Prop :=
  ∃ A c cells, v = .slice A xs.length c ∧ xs.length ≤ c ∧ xs.length ≤ 1048576 ∧ Rd w A cells ∧ Chunks (R w) size cells xs ∧ (∀ ad, A = some ad → 0 < size → 0 < xs.length → ad.block < w.heap.size)

theorem OpensU.slice {P : Program} {t e : TypeId} {α : Type} [Inhabited α] {R : World → List Value → α → Prop} {size : Nat} (ht : P.underlying t = some (.slice e)) (hs : P.cellsOf e = size) (ho : OpensU P e R) :
    OpensU P t (fun w cs xs => ∃ v, cs = [v] ∧ SliceU R size w v xs) :=
  fun H enc w held fuel cs d pl h hw => by
    rcases Go.Deep.open_slice ht h with ⟨rfl, _⟩ | ⟨a, len, cap, m, n, D, Pl, rfl, _, hl, _, hm, hx, hel⟩
    · exact ⟨[], _, rfl, none, 0, [], rfl, Nat.le_refl _, by simp, Rd.nil _ _, ⟨by simp, fun i x h => by simp at h⟩, fun ad e => by cases e⟩
    · injection hx with hd _
      subst hd
      simp only [if_true] at hm
      have hlm : len ≤ m := by omega
      simp only [Rows.uptoBulk] at hw
      have hlen := bulk_length ((List.range len).map D)
      simp only [List.length_map, List.length_range] at hlen
      have each : ∀ i, i < len → ∃ C : List Value × α, w.cells? 0 (a.add (i * size)) size = some C.1 ∧ R w C.1 C.2 := by
        intro i hi
        obtain ⟨cs', h1, h2⟩ := hel i (by omega)
        rw [hs] at h1
        have hb := bulk_part (l := (List.range len).map D) (d := D i) (List.mem_map.2 ⟨i, List.mem_range.2 hi, rfl⟩)
        obtain ⟨x, hx⟩ := ho H enc w held n cs' (D i) (Pl i) h2 (by omega)
        exact ⟨(cs', x), h1, hx⟩
      obtain ⟨C, hC⟩ := Go.Deep.choose_lt each
      have hcl : ∀ i, i < len → ((C i).1).length = size := fun i hi => (World.cells?_some (hC i hi).1).2.1
      obtain ⟨hfl, hfc⟩ := flatMap_chunk (C := fun i => (C i).1) len hcl
      refine ⟨(List.range len).map fun i => (C i).2, _, rfl, some a, cap, (List.range len).flatMap fun i => (C i).1, by simp, by simpa using hl, ?_, ?_, ⟨by simpa using hfl, ?_⟩, ?_⟩
      · simp only [List.length_map, List.length_range]
        omega
      · refine Rd.of_add fun j u hu => ?_
        have hj := (List.getElem?_eq_some_iff.1 hu).1
        rw [hfl] at hj
        have hs0 : 0 < size := by
          rcases Nat.eq_zero_or_pos size with h0 | h0
          · subst h0; simp at hj
          · exact h0
        have hq : j / size < len := by rw [Nat.div_lt_iff_lt_mul hs0]; exact hj
        have hr : j % size < size := Nat.mod_lt _ hs0
        have h3 := hfc (j / size) hq
        have h4 : ((C (j / size)).1)[j % size]? = some u := by
          rw [← h3, List.getElem?_take, if_pos hr, List.getElem?_drop, show j / size * size + j % size = j by rw [Nat.mul_comm]; exact Nat.div_add_mod j size]
          exact hu
        have h5 := (World.cells?_some (hC (j / size) hq).1).2.2 (j % size) hr
        rw [Go.Deep.add_add, show j / size * size + j % size = j by rw [Nat.mul_comm]; exact Nat.div_add_mod j size] at h5
        rw [h5]; exact h4
      · intro i x hx
        obtain ⟨hi, rfl⟩ : ∃ h : i < len, (C i).2 = x := by
          rw [List.getElem?_map] at hx
          obtain ⟨i', h1, h2⟩ := Option.map_eq_some_iff.1 hx
          have hlt : i < len := by
            have := (List.getElem?_eq_some_iff.1 h1).1
            simpa using this
          rw [List.getElem?_range hlt] at h1
          injection h1 with h1
          subst h1
          exact ⟨hlt, h2⟩
        show R w _ _
        rw [hfc i hi]
        exact (hC i hi).2
      · intro ad e1 h0 h1
        injection e1 with e1
        subst e1
        simp at h1
        have := World.cells?_block (hC 0 h1).1 h0
        rwa [Addr.add_block] at this

theorem bytes_ofU {w : World} {v : Value} {bs : List UInt8} (h : SliceU ByteR 1 w v bs) : ∃ A c, v = .slice A bs.length c ∧ bs.length ≤ c ∧ Rd w A (bs.map B) ∧ bs.length ≤ 1048576 ∧ ∀ ad, A = some ad → 0 < bs.length → ad.block < w.heap.size := by
  obtain ⟨A, c, cells, e, hc, hm, hr, hk, hlt⟩ := h
  have := chunk_one hk
  subst this
  exact ⟨A, c, e, hc, hr, hm, fun ad e h0 => hlt ad e (by decide) h0⟩
#print axioms OpensU.slice
end Go.Proofs.YtdekealpachhmaaDoor
