/- Reading a slice, appending to a row of the call's own, what is kept: laws over any program. -/
import Derived.Test.YtdekealpachhmaaDoorBits
import Derived.WalkLawsBesides
import Derived.ArgAppend
import Derived.Laws.AppendOwnNone
import Derived.Laws.BytesArg
import Derived.Lib.SlBytesConst
namespace Go.Isth
open Go Go.RowKit

/-- From the address on lie these cells. -/
def Rd (w : World) (A : Option Addr) (xs : List Value) : Prop :=
  0 < xs.length → ∃ b o, A = some ⟨b, o, none⟩ ∧ ∀ j u, xs[j]? = some u → w.cell? ⟨b, o + j, none⟩ = some u

theorem Rd.nil (w : World) (A : Option Addr) : Rd w A [] := fun h => by simp at h

theorem Addr.add_block (a : Addr) (n : Nat) : (a.add n).block = a.block := by unfold Addr.add; split <;> rfl
theorem add_plain (b o j : Nat) : (⟨b, o, none⟩ : Addr).add j = ⟨b, o + j, none⟩ := by unfold Addr.add; split <;> simp_all

theorem Rd.at_ {w : World} {A : Option Addr} {xs : List Value} (h : Rd w A xs) (hp : 0 < xs.length) :
    ∃ b o, A = some ⟨b, o, none⟩ ∧ b < w.heap.size ∧ ∀ j, (hj : j < xs.length) → w.cell? ⟨b, o + j, none⟩ = some xs[j] := by
  obtain ⟨b, o, e, hc⟩ := h hp
  exact ⟨b, o, e, World.block_lt_of_cell? w _ (hc 0 _ (List.getElem?_eq_getElem hp)), fun j hj => hc j _ (List.getElem?_eq_getElem hj)⟩

theorem Rd.of_block {w w' : World} {A : Option Addr} {xs : List Value} (h : Rd w A xs) (hk : ∀ ad, A = some ad → ad.block < w.heap.size → w'.heap[ad.block]? = w.heap[ad.block]?) : Rd w' A xs := by
  intro hp
  obtain ⟨b, o, e, hlt, _⟩ := h.at_ hp
  obtain ⟨b', o', e', hc⟩ := h hp
  obtain ⟨rfl, rfl⟩ : b = b' ∧ o = o' := by
    have := Option.some.inj (e.symm.trans e')
    simp at this
    exact this
  refine ⟨b, o, e, fun j u hu => ?_⟩
  have hbk : w'.heap[b]? = w.heap[b]? := hk _ e hlt
  rw [World.cell?_of_block (w := w) (a := ⟨b, o + j, none⟩) hbk]
  exact hc j u hu

/-- From an address of whatever form. -/
theorem Rd.of_add {w : World} {a : Addr} {xs : List Value} (h : ∀ j u, xs[j]? = some u → w.cell? (a.add j) = some u) : Rd w (some a) xs := by
  intro hp
  have h0 := h 0 _ (List.getElem?_eq_getElem hp)
  have hs : a.spot = none := by
    have e0 : a.add 0 = a := by simp [Addr.add]
    rw [e0] at h0
    exact World.cell?_spot h0
  obtain ⟨b, o, sp⟩ := a
  simp only at hs
  subst hs
  exact ⟨b, o, rfl, fun j u hu => by rw [← add_plain]; exact h j u hu⟩

theorem Rd.below {w w' : World} {A : Option Addr} {xs : List Value} (h : Rd w A xs) (hb : Below w.heap.size w w') : Rd w' A xs :=
  h.of_block fun _ _ hlt => hb.block _ hlt
theorem Rd.grown {w w' : World} {A : Option Addr} {xs : List Value} {row : Option Nat} (h : Rd w A xs) (hg : w.grownBy w' row) (hne : ∀ ad, A = some ad → row ≠ some ad.block) : Rd w' A xs :=
  h.of_block fun ad e hlt => hg.block _ hlt (fun e' => hne ad e e'.symm)
theorem Rd.alloc {w : World} {A : Option Addr} {xs : List Value} (h : Rd w A xs) (o : Obj) : Rd (w.alloc o) A xs :=
  h.below ((Below.refl _ _).alloc (Nat.le_refl _) o)
theorem Rd.drewN {w : World} {A : Option Addr} {xs : List Value} (h : Rd w A xs) (n : Nat) : Rd (w.drewN n) A xs := h
theorem Rd.drew {w : World} {A : Option Addr} {xs : List Value} (h : Rd w A xs) : Rd w.drew A xs := h

/-- The address of a cut, as Go reckons it. -/
def cutA (A : Option Addr) (c l size : Nat) : Option Addr := if c = l then A else A.map (·.add (l * size))

theorem Rd.cut {w : World} {A : Option Addr} {xs : List Value} (h : Rd w A xs) (c l size : Nat) (m : Nat) (hlc : xs.length ≤ c * size) (hm : l * size + m ≤ xs.length) : Rd w (cutA A c l size) ((xs.drop (l * size)).take m) := by
  intro hp
  simp only [List.length_take, List.length_drop] at hp
  obtain ⟨b, o, e, hc⟩ := h (by omega)
  have hne : c ≠ l := by
    intro e'
    subst e'
    omega
  refine ⟨b, o + l * size, by simp only [cutA, if_neg hne, e, Option.map_some, add_plain], fun j u hu => ?_⟩
  rw [Nat.add_assoc]
  refine hc _ _ ?_
  rw [List.getElem?_take] at hu
  split at hu
  · simpa using hu
  · cases hu

theorem Rd.front {w : World} {A : Option Addr} {xs : List Value} (h : Rd w A xs) (m : Nat) : Rd w A (xs.take m) := by
  intro hp
  simp only [List.length_take] at hp
  obtain ⟨b, o, e, hc⟩ := h (by omega)
  refine ⟨b, o, e, fun j u hu => ?_⟩
  rw [List.getElem?_take] at hu
  split at hu
  · exact hc _ _ hu
  · cases hu

theorem cutA_zero (A : Option Addr) (c size : Nat) : cutA A c 0 size = A := by
  unfold cutA
  split
  · rfl
  · cases A <;> simp [Addr.add]
theorem cutA_block {A : Option Addr} {c l size : Nat} {ad : Addr} (h : cutA A c l size = some ad) : ∃ a, A = some a ∧ a.block = ad.block := by
  unfold cutA at h
  split at h
  · exact ⟨ad, h, rfl⟩
  · cases A with
    | none => simp at h
    | some a => simp at h; exact ⟨a, rfl, by rw [← h, Addr.add_block]⟩

/-- What a row of the call's own is: a slice that reads as its cells. -/
theorem own_slice {w : World} {base : Nat} {e : TypeId} {size : Nat} {v : Value} {n : Nat} {xs : List Value} (h : w.ownsRow base e size v n xs) :
    ∃ A c, v = .slice A n c ∧ n ≤ c ∧ Rd w A xs ∧ v.ownBlock = A.map (·.block) ∧ ∀ ad, A = some ad → base ≤ ad.block ∧ ad.block < w.heap.size := by
  have hl := h.1
  rcases h.2 with ⟨rfl, rfl⟩ | ⟨g, cap, cur, rfl, hb, hh, hn, hm, hs, ht⟩
  · have : xs = [] := List.eq_nil_of_length_eq_zero (by simpa using hl)
    subst this
    exact ⟨none, 0, rfl, Nat.le_refl _, Rd.nil _ _, rfl, fun ad e => by cases e⟩
  · refine ⟨some ⟨g, 0, none⟩, cap, rfl, hn, fun _ => ⟨_, _, rfl, fun j u hu => ?_⟩, rfl, fun ad e => ?_⟩
    · rw [Nat.zero_add, cell_of_row w g j cur e (0, 0) hh]
      rw [← ht, List.getElem?_take] at hu
      split at hu
      · simpa using hu
      · cases hu
    · cases e
      exact ⟨hb, (Array.getElem?_eq_some_iff.1 hh).1⟩

theorem own_below {w w' : World} {base : Nat} {e : TypeId} {size : Nat} {v : Value} {n : Nat} {xs : List Value} (h : w.ownsRow base e size v n xs) (hb : Below w.heap.size w w') : w'.ownsRow base e size v n xs :=
  h.kept (row := none) ⟨hb.os, hb.tape, hb.output, hb.size, fun k hk _ => hb.block k hk⟩ (by cases v.ownBlock <;> simp)
theorem own_mono {w : World} {base base' : Nat} {e : TypeId} {size : Nat} {v : Value} {n : Nat} {xs : List Value} (h : w.ownsRow base e size v n xs) (hb : base' ≤ base) : w.ownsRow base' e size v n xs := by
  refine ⟨h.1, ?_⟩
  rcases h.2 with hn | ⟨g, cap, cur, rfl, hg, r⟩
  · exact .inl hn
  · exact .inr ⟨g, cap, cur, rfl, Nat.le_trans hb hg, r⟩
theorem own_lt {w : World} {base : Nat} {e : TypeId} {size : Nat} {v : Value} {n : Nat} {xs : List Value} (h : w.ownsRow base e size v n xs) : ∀ k, v.ownBlock = some k → base ≤ k ∧ k < w.heap.size := h.lt

theorem below_grown {B : Nat} {a w w' : World} {row : Option Nat} (h : Below B a w) (hB : B ≤ w.heap.size) (hg : w.grownBy w' row) (hr : ∀ k, row = some k → B ≤ k) : Below B a w' := h.grown hg hB hr
theorem grown_of_below {w w1 : World} (h : Below w.heap.size w w1) (row : Option Nat) : w.grownBy w1 row := ⟨h.os, h.tape, h.output, h.size, fun i hi _ => h.block i hi⟩
theorem below_then {B : Nat} {w w1 w2 : World} (h : Below B w w1) (hB : B ≤ w1.heap.size) (k : Below w1.heap.size w1 w2) : Below B w w2 := h.trans (k.mono hB)
theorem below_trans {w w1 w2 : World} (h : Below w.heap.size w w1) (k : Below w1.heap.size w1 w2) : Below w.heap.size w w2 := h.trans (k.mono h.size)
theorem grown_trans {w w1 w2 : World} {row row' : Option Nat} (h : w.grownBy w1 row) (k : w1.grownBy w2 row') (hr : row' = row ∨ ∀ b, row' = some b → w.heap.size ≤ b) : w.grownBy w2 row :=
  ⟨k.os.trans h.os, k.tape.trans h.tape, k.output.trans h.output, Nat.le_trans h.size k.size, fun i hi hne => by
    rw [k.block i (Nat.lt_of_lt_of_le hi h.size) ?_, h.block i hi hne]
    rcases hr with rfl | hr
    · exact hne
    · intro e; have := hr i e.symm; omega⟩
theorem grown_below {w w1 w2 : World} {row : Option Nat} (h : w.grownBy w1 row) (k : Below w1.heap.size w1 w2) : w.grownBy w2 row :=
  grown_trans h (grown_of_below k none) (.inr fun b e => by cases e)
theorem below_drewN {B : Nat} {w W : World} (h : Below B w W) (n : Nat) : Below B w (W.drewN n) := ⟨h.os, h.tape, h.output, h.size, h.block⟩

theorem Rd_alloc (w : World) (cs : Array Value) (t : TypeId) : Rd (w.alloc (.cells cs t)) (some ⟨w.heap.size, 0, none⟩) cs.toList := by
  refine fun _ => ⟨_, _, rfl, fun j u hu => ?_⟩
  rw [Nat.zero_add, cell_of_row _ _ j cs t (0, 0) (heap_alloc_new w _)]
  simpa using hu
theorem one_ints {k : IntKind} {l : List Int} : ∀ u ∈ l.map (Value.int k), u.oneCell' = true := by
  intro u hu
  simp only [List.mem_map] at hu
  obtain ⟨x, _, rfl⟩ := hu
  rfl
theorem one_bytes {l : List UInt8} : ∀ u ∈ l.map B, u.oneCell' = true := by
  intro u hu
  simp only [List.mem_map] at hu
  obtain ⟨x, _, rfl⟩ := hu
  rfl

theorem of_drewN {w w1 : World} {m : Nat} (h : Below (w.drewN m).heap.size (w.drewN m) w1) : Below w.heap.size w w1 := ⟨h.os, h.tape, h.output, h.size, h.block⟩
theorem of_drew {w w1 : World} (h : Below w.drew.heap.size w.drew w1) : Below w.heap.size w w1 := ⟨h.os, h.tape, h.output, h.size, h.block⟩
theorem refl_drewN (w : World) (m : Nat) : Below w.heap.size w (w.drewN m) := ⟨rfl, rfl, rfl, Nat.le_refl _, fun _ _ => rfl⟩

/-- A slice type's facts. -/
structure SlT (P : Program) (t e : TypeId) (z : Value) (size bytes : Nat) : Prop where
  under : P.underlying t = some (.slice e)
  info : (P.info? e).map (fun i => (i.zero, i.size, i.bytes)) = some (some z, size, bytes)
  cells : z.cells.size = size
  pos : 0 < size

theorem own_type_ne {w : World} {b b' : Nat} {e e' : TypeId} {s s' n n' : Nat} {v v' : Value} {xs xs' : List Value} (h : w.ownsRow b e s v n xs) (h' : w.ownsRow b' e' s' v' n' xs') (hne : e ≠ e') : v.ownBlock = none ∨ v.ownBlock ≠ v'.ownBlock := by
  rcases h.2 with ⟨rfl, _⟩ | ⟨g, cap, cur, rfl, _, hh, _⟩
  · exact .inl rfl
  · refine .inr fun hk => ?_
    rcases h'.2 with ⟨rfl, _⟩ | ⟨g', cap', cur', rfl, _, hh', _⟩
    · simp [Value.ownBlock] at hk
    · have : g = g' := by simpa [Value.ownBlock] using hk
      subst this
      rw [hh] at hh'
      injection hh' with hh'
      injection hh' with _ h2 _
      exact hne h2

/-- What an append (or a chain of them) to the row v, which ends in the row v', does to the world: new blocks, and v's own row. -/
structure Ext (w w' : World) (v v' : Value) : Prop where
  grown : w.grownBy w' v.ownBlock
  same : v'.ownBlock = v.ownBlock ∨ ∀ k, v'.ownBlock = some k → w.heap.size ≤ k

theorem Ext.refl (w : World) (v : Value) : Ext w w v v := ⟨World.grownBy.refl _ _, .inl rfl⟩
theorem Ext.size {w w' : World} {v v' : Value} (h : Ext w w' v v') : w.heap.size ≤ w'.heap.size := h.grown.size
theorem Ext.trans {w w1 w2 : World} {v v1 v2 : Value} (h : Ext w w1 v v1) (k : Ext w1 w2 v1 v2) : Ext w w2 v v2 := by
  refine ⟨grown_trans h.grown k.grown h.same, ?_⟩
  rcases k.same with e | e
  · rcases h.same with e' | e'
    · exact .inl (e.trans e')
    · exact .inr fun b hb => e' b (e ▸ hb)
  · exact .inr fun b hb => Nat.le_trans h.size (e b hb)
theorem Ext.of_below {w w' : World} (h : Below w.heap.size w w') (v : Value) : Ext w w' v v := ⟨grown_of_below h _, .inl rfl⟩
theorem Ext.alloc (w : World) (o : Obj) (v : Value) : Ext w (w.alloc o) v v := Ext.of_below ((Below.refl _ _).alloc (Nat.le_refl _) o) v
theorem Ext.below {w w' : World} {v v' : Value} (h : Ext w w' v v') {B : Nat} (hB : B ≤ w.heap.size) (hr : ∀ k, v.ownBlock = some k → B ≤ k) : Below B w w' := (Below.refl _ _).grown h.grown hB hr
theorem Ext.below_own {w w' : World} {base : Nat} {e : TypeId} {size : Nat} {v v' : Value} {n : Nat} {xs : List Value} (h : Ext w w' v v') (hown : w.ownsRow base e size v n xs) (hB : base ≤ w.heap.size) : Below base w w' :=
  h.below hB fun k hk => (hown.lt k hk).1
theorem Rd.ext {w w' : World} {v v' : Value} {A : Option Addr} {xs : List Value} (h : Rd w A xs) (hg : Ext w w' v v') (hne : ∀ ad, A = some ad → v.ownBlock ≠ some ad.block) : Rd w' A xs := h.grown hg.grown hne

theorem own_ext {w w' : World} {b b' : Nat} {e e' : TypeId} {s s' n n' : Nat} {v v' v'' : Value} {xs xs' : List Value} (h : w.ownsRow b e s v n xs) (h' : w.ownsRow b' e' s' v' n' xs') (hne : e ≠ e') (hx : Ext w w' v' v'') : w'.ownsRow b e s v n xs :=
  h.kept hx.grown (own_type_ne h h' hne)
/-- Rows of bytes, one a value. -/
def Rows1 (w : World) (base : Nat) (e : TypeId) (vs : List Value) (ps : List (List UInt8)) : Prop :=
  vs.length = ps.length ∧ ∀ (i : Nat) (v : Value) (p : List UInt8), vs[i]? = some v → ps[i]? = some p → w.ownsRow base e 1 v p.length (p.map B)
theorem Rows1.nil (w : World) (base : Nat) (e : TypeId) : Rows1 w base e [] [] := ⟨rfl, fun i v p h => by simp at h⟩
theorem Rows1.snoc {w : World} {base : Nat} {e : TypeId} {vs : List Value} {ps : List (List UInt8)} (h : Rows1 w base e vs ps) {v : Value} {p : List UInt8} (hv : w.ownsRow base e 1 v p.length (p.map B)) : Rows1 w base e (vs ++ [v]) (ps ++ [p]) := by
  refine ⟨by simp [h.1], fun i u q hu hq => ?_⟩
  by_cases hi : i < vs.length
  · rw [List.getElem?_append_left hi] at hu
    rw [List.getElem?_append_left (by rw [← h.1]; exact hi)] at hq
    exact h.2 i u q hu hq
  · have hi' : i = vs.length := by
      have := (List.getElem?_eq_some_iff.1 hu).1
      simp at this
      omega
    subst hi'
    rw [List.getElem?_append_right (Nat.le_refl _), Nat.sub_self] at hu
    rw [h.1, List.getElem?_append_right (Nat.le_refl _), Nat.sub_self] at hq
    simp at hu hq
    subst hu
    subst hq
    exact hv
theorem Rows1.below {w w' : World} {base : Nat} {e : TypeId} {vs : List Value} {ps : List (List UInt8)} (h : Rows1 w base e vs ps) (hb : Below w.heap.size w w') : Rows1 w' base e vs ps :=
  ⟨h.1, fun i v p hv hp => own_below (h.2 i v p hv hp) hb⟩
theorem Rows1.ext {w w' : World} {base b' : Nat} {e e' : TypeId} {s' n' : Nat} {v' v'' : Value} {xs' : List Value} {vs : List Value} {ps : List (List UInt8)} (h : Rows1 w base e vs ps) (h' : w.ownsRow b' e' s' v' n' xs') (hne : e ≠ e') (hx : Ext w w' v' v'') : Rows1 w' base e vs ps :=
  ⟨h.1, fun i v p hv hp => own_ext (h.2 i v p hv hp) h' hne hx⟩
theorem Rows1.mono {w : World} {base base' : Nat} {e : TypeId} {vs : List Value} {ps : List (List UInt8)} (h : Rows1 w base e vs ps) (hb : base' ≤ base) : Rows1 w base' e vs ps :=
  ⟨h.1, fun i v p hv hp => own_mono (h.2 i v p hv hp) hb⟩

/-- Slices of bytes that read as these lists. -/
def RdRows (w : World) (vs : List Value) (ps : List (List UInt8)) : Prop :=
  vs.length = ps.length ∧ ∀ (i : Nat) (v : Value) (p : List UInt8), vs[i]? = some v → ps[i]? = some p → ∃ A c, v = .slice A p.length c ∧ p.length ≤ c ∧ Rd w A (p.map B) ∧ p.length ≤ 140737488351232
theorem RdRows.nil (w : World) : RdRows w [] [] := ⟨rfl, fun i v p h => by simp at h⟩
theorem RdRows.below {w w' : World} {vs : List Value} {ps : List (List UInt8)} (h : RdRows w vs ps) (hb : Below w.heap.size w w') : RdRows w' vs ps :=
  ⟨h.1, fun i v p hv hp => by obtain ⟨A, c, e, hc, hr, hm⟩ := h.2 i v p hv hp; exact ⟨A, c, e, hc, hr.below hb, hm⟩⟩
theorem RdRows.snoc {w : World} {vs : List Value} {ps : List (List UInt8)} (h : RdRows w vs ps) {v : Value} {p : List UInt8} (hv : ∃ A c, v = .slice A p.length c ∧ p.length ≤ c ∧ Rd w A (p.map B) ∧ p.length ≤ 140737488351232) : RdRows w (vs ++ [v]) (ps ++ [p]) := by
  refine ⟨by simp [h.1], fun i u q hu hq => ?_⟩
  by_cases hi : i < vs.length
  · rw [List.getElem?_append_left hi] at hu
    rw [List.getElem?_append_left (by rw [← h.1]; exact hi)] at hq
    exact h.2 i u q hu hq
  · have hi' : i = vs.length := by
      have := (List.getElem?_eq_some_iff.1 hu).1
      simp at this
      omega
    subst hi'
    rw [List.getElem?_append_right (Nat.le_refl _), Nat.sub_self] at hu
    rw [h.1, List.getElem?_append_right (Nat.le_refl _), Nat.sub_self] at hq
    simp at hu hq
    subst hu
    subst hq
    exact hv
theorem RdRows.take {w : World} {vs : List Value} {ps : List (List UInt8)} (h : RdRows w vs ps) (k : Nat) : RdRows w (vs.take k) (ps.take k) := by
  refine ⟨by simp [h.1], fun i u q hu hq => ?_⟩
  rw [List.getElem?_take] at hu hq
  split at hu
  · rename_i hi
    rw [if_pos hi] at hq
    exact h.2 i u q hu hq
  · cases hu
theorem Rows1.rd {w : World} {base : Nat} {e : TypeId} {vs : List Value} {ps : List (List UInt8)} (h : Rows1 w base e vs ps) (hm : ∀ p ∈ ps, p.length ≤ 140737488351232) : RdRows w vs ps :=
  ⟨h.1, fun i v p hv hp => by
    obtain ⟨A, c, e1, hc, hr, _⟩ := own_slice (h.2 i v p hv hp)
    exact ⟨A, c, e1, hc, hr, hm p (List.mem_of_getElem? hp)⟩⟩

theorem run_app {P : Program} {t e : TypeId} {z : Value} {size bytes : Nat} (hT : SlT P t e z size bytes) (w : World) (ty : TypeId)
    (base : Nat) (v : Value) (n : Nat) (xs : List Value) (hown : w.ownsRow base e size v n xs)
    (A : Option Addr) (m c : Nat) (news : List Value) (hr : Rd w A news) (hl : news.length = m * size) (h1 : ∀ u ∈ news, u.oneCell' = true)
    (hmax : n + m ≤ maxLen) (hbytes : (n + m) * bytes ≤ 140737488355328) (hbase : base ≤ w.heap.size) :
    ∃ v' w', (Builtin.append_ #[t, t] ty #[v, .slice A m c]).run P w = .ok v' w' ∧ w'.ownsRow base e size v' (n + m) (xs ++ news) ∧ Ext w w' v v' := by
  obtain ⟨i, hi, hz, hsz, hby⟩ := info_parts hT.info
  rcases A with _ | ad
  · have hn0 : news = [] := by
      rcases news with _ | ⟨u, l⟩
      · rfl
      · obtain ⟨b, o, e', _⟩ := hr (by simp); cases e'
    subst hn0
    have hm0 : m = 0 := by
      have := hT.pos
      simp only [List.length_nil] at hl
      rcases Nat.mul_eq_zero.1 hl.symm with h' | h' <;> omega
    subst hm0
    have hrun : (Builtin.append_ #[t, t] ty #[v, .slice none 0 c]).run P w = .ok v w := by
      rcases hown.2 with ⟨rfl, rfl⟩ | ⟨g, cap, cur, rfl, _, _, hnc, _⟩
      · simp [Builtin.append_, run_underlying hT.under, sizeOf, typeInfo, hi, Builtin.lenOf, Builtin.firstCells]
      · simp [Builtin.append_, run_underlying hT.under, sizeOf, typeInfo, hi, Builtin.lenOf, Builtin.firstCells, hnc, storeCells]
    exact ⟨v, w, hrun, by simpa using hown, Ext.refl _ _⟩
  · have hnews : ∀ j u, news[j]? = some u → w.cell? (ad.add j) = some u := by
      intro j u hu
      have hp : 0 < news.length := by have := (List.getElem?_eq_some_iff.1 hu).1; omega
      obtain ⟨b, o, e', hc⟩ := hr hp
      cases e'
      rw [add_plain]
      exact hc j u hu
    rcases hown.2 with ⟨rfl, rfl⟩ | ⟨g, cap, cur, rfl, _, _, hnc, _⟩
    · have hx : xs = [] := List.eq_nil_of_length_eq_zero (by simpa using hown.1)
      subst hx
      obtain ⟨v', w', hrun, ho, hg, _⟩ := run_append_own (P := P) w w.heap.size t ty e i z size bytes hT.under hi hz hsz hby hT.cells hT.pos (.slice none 0 0) 0 [] (World.ownsRow_nil w _ e size) ad m c news hl hnews h1 hmax hbytes (Nat.le_refl _)
      exact ⟨v', w', hrun, own_mono ho hbase, hg, .inr fun k hk => (ho.lt k hk).1⟩
    · by_cases hroom : n + m ≤ cap
      · obtain ⟨w', hrun, ho, hg⟩ := run_append_fits (P := P) w base t ty e i size hT.under hi hsz g n cap xs hown ad m c news hl hnews h1 hroom
        exact ⟨_, w', hrun, ho, hg, .inl rfl⟩
      · have holds : ∀ j u, xs[j]? = some u → w.cell? ((⟨g, 0, none⟩ : Addr).add j) = some u := hown.cells (g := g) rfl
        obtain ⟨v', w', hrun, ho, hg⟩ := run_append_arg_grows (P := P) w t ty e i z size bytes hT.under hi hz hsz hby hT.cells hT.pos ⟨g, 0, none⟩ n cap xs hown.1 holds ad m c news hl hnews (by omega) hmax hbytes
        exact ⟨v', w', hrun, own_mono ho hbase, ⟨hg.os, hg.tape, hg.output, hg.size, fun k hk _ => hg.block k hk (by simp)⟩, .inr fun k hk => (ho.lt k hk).1⟩

theorem wpList_app {P : Program} {w : World} {ops : Array Oper} {rest : List Oper} {o : Oper} {a : Act} {Q : Exit → Act → World → Prop} {t e : TypeId} {z : Value} {size bytes : Nat} (hT : SlT P t e z size bytes)
    (hgd : o.guard = none) (s x : Operand) (ho : o.op = .call { callee := .builtin .append, args := #[s, x], argTypes := #[t, t] })
    (base : Nat) (v : Value) (n : Nat) (xs : List Value) (hs : a.eval s = v) (hown : w.ownsRow base e size v n xs)
    (A : Option Addr) (m c : Nat) (news : List Value) (hx : a.eval x = .slice A m c) (hr : Rd w A news) (hl : news.length = m * size) (h1 : ∀ u ∈ news, u.oneCell' = true)
    (hmax : n + m ≤ maxLen) (hbytes : (n + m) * bytes ≤ 140737488355328) (hbase : base ≤ w.heap.size)
    (h : ∀ v' w', w'.ownsRow base e size v' (n + m) (xs ++ news) → Ext w w' v v' → wpList P ops Q rest (a.put o.dst v') w') : wpList P ops Q (o :: rest) a w := by
  obtain ⟨v', w', hrun, h2, h3⟩ := run_app hT w o.type base v n xs hown A m c news hr hl h1 hmax hbytes hbase
  refine wpList_plain hgd fun K hK => ?_
  unfold Oper.wp execOp
  simp only [ho, resolve, invoke, builtin, Sem.run_bind, Sem.run_pure, Result.andThen_ok, List.map_toArray, List.map_cons, List.map_nil, hs, hx, hrun]
  exact hK _ _ (h v' w' h2 h3)

theorem SlT.sizeOf {P : Program} {t e : TypeId} {z : Value} {size bytes : Nat} (hT : SlT P t e z size bytes) (w : World) : (Go.sizeOf e).run P w = .ok size w := by
  obtain ⟨i, hi, hz, hsz, hby⟩ := info_parts hT.info
  simp [Go.sizeOf, typeInfo, hi, hsz]

/-- 's[i:]' -/
theorem run_cut_from {P : Program} {t e : TypeId} {z : Value} {size bytes : Nat} (hT : SlT P t e z size bytes) (A : Option Addr) (n c : Nat) (i : Int) (h0 : 0 ≤ i) (h1 : i ≤ n) (w : World) :
    (Instr.slice t (.slice A n c) (some (.int .i64 i)) none none).run P w = .ok (.slice (cutA A c i.toNat size) (n - i.toNat) (c - i.toNat)) w := by
  have hs := hT.sizeOf w
  simp [Instr.slice, run_underlying hT.under, Instr.sliceBounds, Instr.sliceBound, asIntOf, h0, h1, hs, cutA]
/-- 's[:j]' -/
theorem run_cut_to {P : Program} {t e : TypeId} {z : Value} {size bytes : Nat} (hT : SlT P t e z size bytes) (A : Option Addr) (n c : Nat) (j : Int) (h0 : 0 ≤ j) (h1 : j ≤ c) (w : World) :
    (Instr.slice t (.slice A n c) none (some (.int .i64 j)) none).run P w = .ok (.slice A j.toNat c) w := by
  have hs := hT.sizeOf w
  have := cutA_zero A c size
  unfold cutA at this
  simp [Instr.slice, run_underlying hT.under, Instr.sliceBounds, Instr.sliceBound, asIntOf, h0, h1, hs]
  simpa using this
/-- 's[i:j]' -/
theorem run_cut_mid {P : Program} {t e : TypeId} {z : Value} {size bytes : Nat} (hT : SlT P t e z size bytes) (A : Option Addr) (n c : Nat) (i j : Int) (h0 : 0 ≤ i) (h1 : i ≤ j) (h2 : j ≤ c) (w : World) :
    (Instr.slice t (.slice A n c) (some (.int .i64 i)) (some (.int .i64 j)) none).run P w = .ok (.slice (cutA A c i.toNat size) (j.toNat - i.toNat) (c - i.toNat)) w := by
  have hs := hT.sizeOf w
  have h3 : 0 ≤ j := by omega
  simp [Instr.slice, run_underlying hT.under, Instr.sliceBounds, Instr.sliceBound, asIntOf, h0, h2, h3, hs, cutA]
  intro hlt
  omega

/-- 'make([]T, n)' -/
theorem run_mk {P : Program} {t e : TypeId} {z : Value} {bytes : Nat} (hT : SlT P t e z 1 bytes) (hz1 : z.cells = #[z]) (n : Nat) (hb : bytes * n ≤ 281474976710656) (hm : n ≤ 9223372036854775807) (w : World) :
    (Instr.makeSlice t (.int .i64 (n : Int)) (.int .i64 (n : Int))).run P w = .ok (.slice (some ⟨w.heap.size, 0, none⟩) n n) (w.alloc (.cells (madeCells #[z] n) e)) := by
  obtain ⟨i, hi, hz, hsz, hby⟩ := info_parts hT.info
  have hb' : ((bytes : Int) * (n : Int)) ≤ 281474976710656 := by
    have h' : ((bytes * n : Nat) : Int) ≤ 281474976710656 := by omega
    rwa [Int.natCast_mul] at h'
  have h := run_make (P := P) w t e i z hT.under hi hz .i64 .i64 (n : Int) (n : Int) (by omega) (Int.le_refl _) (by rw [hby]; exact hb') (by omega)
  simpa [hsz, hz1] using h
theorem Rd_made (w : World) (z : Value) (n : Nat) (e : TypeId) : Rd (w.alloc (.cells (madeCells #[z] n) e)) (some ⟨w.heap.size, 0, none⟩) (List.replicate n z) := by
  have h := Rd_alloc w (madeCells #[z] n) e
  rwa [toList_madeCells_one] at h
theorem own_made (w : World) (z : Value) (n : Nat) (e : TypeId) (hm : n ≤ maxLen) : (w.alloc (.cells (madeCells #[z] n) e)).ownsRow w.heap.size e 1 (.slice (some ⟨w.heap.size, 0, none⟩) n n) n (List.replicate n z) := by
  have h := World.ownsRow_lit (base := w.heap.size) (e := e) (size := 1) w (madeCells #[z] n) n (Nat.le_refl _) hm (by rw [size_madeCells, Nat.mul_one])
  rwa [toList_madeCells_one] at h

/-- 'string(b)' -/
theorem run_str {P : Program} {src e dst : TypeId} (hs : P.underlying src = some (.slice e)) (he : P.underlying e = some (.int .u8)) (hd : P.underlying dst = some .string)
    (A : Option Addr) (n c : Nat) (bs : List UInt8) (w : World) (hn : n = bs.length) (hr : Rd w A (bs.map B)) : (convert src dst (.slice A n c)).run P w = .ok (.string ⟨bs.toArray⟩) w := by
  subst hn
  rcases A with _ | ad
  · have h0 : bs = [] := by
      rcases bs with _ | ⟨u, l⟩
      · rfl
      · obtain ⟨b, o, e', _⟩ := hr (by simp); cases e'
    subst h0
    exact run_convert_bytes_nil (P := P) w src e hs he _ _ dst hd
  · refine run_convert_bytes_back w src dst e ad c bs hs he hd fun j hj => ?_
    obtain ⟨b, o, e', _, hc⟩ := hr.at_ (by simp; omega)
    cases e'
    rw [add_plain, hc j (by simpa using hj)]
    simp

/-- '[]byte("constant")' : a row whose end is marked. -/
theorem Rd_alloc_mark (w : World) (cs : Array Value) (t : TypeId) (fr : Nat × Nat) : Rd (w.alloc (.cells cs t fr)) (some ⟨w.heap.size, 0, none⟩) cs.toList := by
  refine fun _ => ⟨_, _, rfl, fun j u hu => ?_⟩
  rw [Nat.zero_add, cell_of_row _ _ j cs t fr (heap_alloc_new w _)]
  simpa using hu

#print axioms wpList_app
#print axioms run_cut_mid
end Go.Isth
