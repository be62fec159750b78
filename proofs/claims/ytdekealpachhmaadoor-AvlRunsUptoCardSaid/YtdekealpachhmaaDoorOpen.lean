/- Opening what comes in: for a type's number, what its cells are where they read as data within the form's reach. Over any program. -/
import Derived.Test.YtdekealpachhmaaDoorMem
import Derived.ProofKit
import Derived.OpenShut
import Derived.Deep.Slices
import Derived.SizedLaws
namespace Go.Isth
open Go Go.RowKit Go.ChangeAt

def Opens (P : Program) (t : TypeId) {α : Type} (R : World → List Value → α → Prop) : Prop :=
  ∀ (H : Type) (enc : TypeId × Value → H) (w : World) (held : Bool) (fuel : Nat) (cs : List Value) (d : DataW H) (pl : List MemPlace),
    DataW.trod enc P w 0 (fun _ => true) held fuel t cs = some (d, pl) → (∀ n ∈ d.weights P t, n ≤ reachBytes) → ∃ x, R w cs x

theorem Opens.int {P : Program} {t : TypeId} {k : IntKind} (ht : P.underlying t = some (.int k)) : Opens P t (fun _ cs (n : Int) => cs = [.int k n] ∧ (Lit.int k n).wf = true) :=
  fun H enc w held fuel cs d pl h _ => by
    obtain ⟨n, e1, _, e3⟩ := DataW.trod_int ht h
    exact ⟨n, e1, e3⟩
theorem Opens.bool {P : Program} {t : TypeId} (ht : P.underlying t = some .bool) : Opens P t (fun _ cs (b : Bool) => cs = [.bool b]) :=
  fun H enc w held fuel cs d pl h _ => by
    obtain ⟨b, e1, _⟩ := DataW.trod_bool ht h
    exact ⟨b, e1⟩
theorem Opens.string {P : Program} {t : TypeId} (ht : P.underlying t = some .string) : Opens P t (fun _ cs (s : ByteArray) => cs = [.string s] ∧ s.size ≤ reachBytes) :=
  fun H enc w held fuel cs d pl h hw => by
    obtain ⟨s, e1, e2, _⟩ := DataW.trod_string ht h
    injection e2 with e2 _
    subst e2
    refine ⟨s, e1, ?_⟩
    have := hw s.data.toList.length (by simp [DataW.weights])
    rwa [Array.length_toList] at this
/-- A byte. -/
theorem Opens.byte {P : Program} {t : TypeId} (ht : P.underlying t = some (.int .u8)) : Opens P t (fun _ cs (b : UInt8) => cs = [B b]) :=
  fun H enc w held fuel cs d pl h _ => by
    obtain ⟨n, e1, _, e3⟩ := DataW.trod_int ht h
    have hb : 0 ≤ n ∧ n ≤ 255 := by simpa [Lit.wf, IntKind.min, IntKind.max, IntKind.signed, IntKind.bits] using e3
    refine ⟨UInt8.ofNat n.toNat, ?_⟩
    have h3 : ((UInt8.ofNat n.toNat).toNat : Int) = n := by
      rw [UInt8.toNat_ofNat']; omega
    show cs = [Value.int .u8 ((UInt8.ofNat n.toNat).toNat : Int)]
    rw [h3]
    exact e1

/-- Rows of cells, one an element. -/
def Chunks {α : Type} (R : List Value → α → Prop) (size : Nat) (cells : List Value) (xs : List α) : Prop :=
  cells.length = xs.length * size ∧ ∀ (i : Nat) (x : α), xs[i]? = some x → R ((cells.drop (i * size)).take size) x

theorem flatMap_chunk {C : Nat → List Value} {size : Nat} (n : Nat) (h : ∀ i, i < n → (C i).length = size) :
    ((List.range n).flatMap C).length = n * size ∧ ∀ i, i < n → ((((List.range n).flatMap C).drop (i * size)).take size) = C i := by
  induction n with
  | zero => exact ⟨by simp, fun i hi => absurd hi (Nat.not_lt_zero i)⟩
  | succ n ih =>
    obtain ⟨h1, h2⟩ := ih fun i hi => h i (by omega)
    have e : (List.range (n + 1)).flatMap C = (List.range n).flatMap C ++ C n := by simp [List.range_succ]
    rw [e]
    refine ⟨by rw [List.length_append, h1, h n (by omega), Nat.succ_mul], fun i hi => ?_⟩
    by_cases hin : i < n
    · have : i * size + size ≤ n * size := by rw [← Nat.succ_mul]; exact Nat.mul_le_mul_right _ hin
      rw [List.drop_append_of_le_length (by omega), List.take_append_of_le_length (by rw [List.length_drop]; omega)]
      exact h2 i hin
    · have : i = n := by omega
      subst this
      rw [List.drop_left' h1, List.take_of_length_le (by rw [h i (by omega)]; exact Nat.le_refl _)]

/-- A slice that came in. -/
def SliceIs {α : Type} (R : World → List Value → α → Prop) (size bytes : Nat) (w : World) (v : Value) (xs : List α) : Prop :=
  ∃ A c cells, v = .slice A xs.length c ∧ xs.length ≤ c ∧ xs.length * bytes ≤ reachBytes ∧ Rd w A cells ∧ Chunks (R w) size cells xs ∧ (∀ ad, A = some ad → 0 < size → 0 < xs.length → ad.block < w.heap.size)

theorem Opens.slice {P : Program} {t e : TypeId} {α : Type} [Inhabited α] {R : World → List Value → α → Prop} {size bytes : Nat} (ht : P.underlying t = some (.slice e)) (hs : P.cellsOf e = size) (hb : P.bytesOf e = bytes) (ho : Opens P e R) :
    Opens P t (fun w cs xs => ∃ v, cs = [v] ∧ SliceIs R size bytes w v xs) :=
  fun H enc w held fuel cs d pl h hw => by
    rcases Go.Deep.open_slice ht h with ⟨rfl, _⟩ | ⟨a, len, cap, m, n, D, Pl, rfl, _, hl, _, hm, hx, hel⟩
    · exact ⟨[], _, rfl, none, 0, [], rfl, Nat.le_refl _, by simp, Rd.nil _ _, ⟨by simp, fun i x h => by simp at h⟩, fun ad e => by cases e⟩
    · injection hx with hd _
      subst hd
      simp only [if_true] at hm
      have hlm : len ≤ m := by omega
      have hwt : ∀ q ∈ (DataW.slice ((List.range len).map D) ((List.range (m - len)).map fun j => D (len + j))).weights P t, q ≤ reachBytes := hw
      simp only [DataW.weights, ht] at hwt
      have hreach := hwt _ (List.mem_cons_self ..)
      simp only [List.length_map, List.length_range, hb] at hreach
      have hin : ∀ (l : List (DataW H)) (x : DataW H), x ∈ l → ∀ q ∈ x.weights P e, q ∈ DataW.weightsAll P e l := by
        intro l
        induction l with
        | nil => intro x hx; cases hx
        | cons y l ih =>
          intro x hx q hq
          simp only [DataW.weightsAll, List.mem_append]
          rcases List.mem_cons.1 hx with rfl | hx
          · exact .inl hq
          · exact .inr (ih x hx q hq)
      have each : ∀ i, i < len → ∃ C : List Value × α, w.cells? 0 (a.add (i * size)) size = some C.1 ∧ R w C.1 C.2 := by
        intro i hi
        obtain ⟨cs', h1, h2⟩ := hel i (by omega)
        rw [hs] at h1
        obtain ⟨x, hx⟩ := ho H enc w held n cs' (D i) (Pl i) h2 fun q hq => hwt q (List.mem_cons_of_mem _ (List.mem_append.2 (.inl (hin _ (D i) (List.mem_map.2 ⟨i, List.mem_range.2 hi, rfl⟩) q hq))))
        exact ⟨(cs', x), h1, hx⟩
      obtain ⟨C, hC⟩ := Go.Deep.choose_lt each
      have hcl : ∀ i, i < len → ((C i).1).length = size := fun i hi => (World.cells?_some (hC i hi).1).2.1
      obtain ⟨hfl, hfc⟩ := flatMap_chunk (C := fun i => (C i).1) len hcl
      refine ⟨(List.range len).map fun i => (C i).2, _, rfl, some a, cap, (List.range len).flatMap fun i => (C i).1, by simp, by simpa using hl, ?_, ?_, ⟨by simpa using hfl, ?_⟩, ?_⟩
      · simp only [List.length_map, List.length_range]
        exact Nat.le_trans (Nat.mul_le_mul_right _ (by omega)) hreach
      · refine Rd.of_add fun j u hu => ?_
        have hj := (List.getElem?_eq_some_iff.1 hu).1
        rw [hfl] at hj
        have hs0 : 0 < size := by
          rcases Nat.eq_zero_or_pos size with h0 | h0
          · subst h0; simp at hj
          · exact h0
        have hq : j / size < len := by rw [Nat.div_lt_iff_lt_mul hs0]; exact hj
        have hr : j % size < size := Nat.mod_lt _ hs0
        have h3 := hfc (j / size) hq
        have h4 : ((C (j / size)).1)[j % size]? = some u := by
          rw [← h3, List.getElem?_take, if_pos hr, List.getElem?_drop, show j / size * size + j % size = j by rw [Nat.mul_comm]; exact Nat.div_add_mod j size]
          exact hu
        have h5 := (World.cells?_some (hC (j / size) hq).1).2.2 (j % size) hr
        rw [Go.Deep.add_add, show j / size * size + j % size = j by rw [Nat.mul_comm]; exact Nat.div_add_mod j size] at h5
        rw [h5]; exact h4
      · intro i x hx
        obtain ⟨hi, rfl⟩ : ∃ h : i < len, (C i).2 = x := by
          rw [List.getElem?_map] at hx
          obtain ⟨i', h1, h2⟩ := Option.map_eq_some_iff.1 hx
          have := List.getElem?_range (n := len) (i := i)
          have hlt : i < len := by
            have := (List.getElem?_eq_some_iff.1 h1).1
            simpa using this
          rw [List.getElem?_range hlt] at h1
          injection h1 with h1
          subst h1
          exact ⟨hlt, h2⟩
        show R w _ _
        rw [hfc i hi]
        exact (hC i hi).2
      · intro ad e1 h0 h1
        injection e1 with e1
        subst e1
        simp at h1
        have := World.cells?_block (hC 0 h1).1 h0
        rwa [Addr.add_block] at this
theorem chunk_one {α : Type} {f : α → Value} {cells : List Value} {xs : List α} (h : Chunks (fun cs x => cs = [f x]) 1 cells xs) : cells = xs.map f := by
  apply List.ext_getElem?
  intro i
  rcases Nat.lt_or_ge i xs.length with hi | hi
  · have h1 := h.2 i _ (List.getElem?_eq_getElem hi)
    have h2 : ((cells.drop (i * 1)).take 1)[0]? = some (f xs[i]) := by rw [h1]; rfl
    rw [List.getElem?_take, if_pos (by omega), List.getElem?_drop, Nat.mul_one, Nat.add_zero] at h2
    rw [h2]
    simp [hi]
  · have hl := h.1
    rw [List.getElem?_eq_none (by omega), List.getElem?_eq_none (by simp; omega)]

abbrev ByteR : World → List Value → UInt8 → Prop := fun _ cs b => cs = [B b]
abbrev BytesR : World → List Value → List UInt8 → Prop := fun w cs xs => ∃ v, cs = [v] ∧ SliceIs ByteR 1 1 w v xs

theorem bytes_of {w : World} {v : Value} {bs : List UInt8} (h : SliceIs ByteR 1 1 w v bs) : ∃ A c, v = .slice A bs.length c ∧ bs.length ≤ c ∧ Rd w A (bs.map B) ∧ bs.length ≤ 140737488351232 ∧ ∀ ad, A = some ad → 0 < bs.length → ad.block < w.heap.size := by
  obtain ⟨A, c, cells, e, hc, hm, hr, hk, hlt⟩ := h
  have := chunk_one hk
  subst this
  exact ⟨A, c, e, hc, hr, by simpa [reachBytes] using hm, fun ad e h0 => hlt ad e (by decide) h0⟩
theorem rows_of {w : World} {v : Value} {ps : List (List UInt8)} (h : SliceIs BytesR 1 24 w v ps) : ∃ A c vs, v = .slice A ps.length c ∧ ps.length ≤ c ∧ Rd w A vs ∧ vs.length = ps.length ∧ RdRows w vs ps := by
  obtain ⟨A, c, cells, e, hc, hm, hr, hk, _⟩ := h
  have hl : cells.length = ps.length := by rw [hk.1, Nat.mul_one]
  refine ⟨A, c, cells, e, hc, hr, hl, hl, fun i u p hu hp => ?_⟩
  obtain ⟨v', e1, h1⟩ := hk.2 i p hp
  obtain ⟨A', c', e2, hc', hr', hm', _⟩ := bytes_of h1
  have h2 : ((cells.drop (i * 1)).take 1)[0]? = some v' := by rw [e1]; rfl
  rw [List.getElem?_take, if_pos (by omega), List.getElem?_drop, Nat.mul_one, Nat.add_zero, hu] at h2
  injection h2 with h2
  subst h2
  exact ⟨A', c', e2, hc', hr', hm'⟩

/-- What the form's reach says of one argument. -/
theorem reach_of {P : Program} {H : Type} {ts : List TypeId} {ds : List (DataW H)} (h : (DataW.weightsEach P ts ds).all (· ≤ reachBytes) = true) {j : Nat} {t : TypeId} {d : DataW H} (ht : ts[j]? = some t) (hd : ds[j]? = some d) : ∀ n ∈ d.weights P t, n ≤ reachBytes := fun n hn => by
  have := List.all_eq_true.1 h _ (DataW.weights_mem_each ht hd n hn)
  simpa using this
#print axioms Opens.slice
end Go.Isth
