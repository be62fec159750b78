/- A slice of bytes of the call's own that begins anywhere in its block: cut, appended to. Over any program. -/
import Derived.Test.YtdekealpachhmaaDoorPackP
import Derived.Test.YtdekealpachhmaaDoorBlk
import Derived.Deep.MidRow
namespace Go.Isth
open Go Go.RowKit

/-- A slice that owns what lies behind it, up to its capacity. -/
def TailIs (w : World) (base : Nat) (v : Value) (xs : List UInt8) : Prop :=
  (v = .slice none 0 0 ∧ xs = []) ∨ ∃ g off cap, v = .slice (some ⟨g, off, none⟩) xs.length cap ∧ base ≤ g ∧ g < w.heap.size ∧ xs.length ≤ cap ∧ w.rangeAt g off (xs.map B) ∧ w.there g off cap
theorem TailIs.nil (w : World) (base : Nat) : TailIs w base (.slice none 0 0) [] := .inl ⟨rfl, rfl⟩
theorem there_row {w : World} {g : Nat} {cur : Array Value} {t : TypeId} (h : w.heap[g]? = some (.cells cur t (0, 0))) (n : Nat) (hn : n ≤ cur.size) : w.there g 0 n := fun j hj =>
  ⟨by rw [cell_of_row w g (0 + j) cur t (0, 0) h, Array.getElem?_eq_getElem (by omega)]; rfl, by simp [World.frozen?, h]⟩
theorem TailIs.of_own {w : World} {base : Nat} {e : TypeId} {v : Value} {n : Nat} {xs : List UInt8} (h : w.ownsRow base e 1 v n (xs.map B)) : TailIs w base v xs := by
  have hl := h.1
  rw [List.length_map, Nat.mul_one] at hl
  subst hl
  rcases h.2 with ⟨rfl, h0⟩ | ⟨g, cap, cur, rfl, hb, hh, hn, hm, hs, ht⟩
  · exact .inl ⟨rfl, List.eq_nil_of_length_eq_zero h0⟩
  · refine .inr ⟨g, 0, cap, rfl, hb, (Array.getElem?_eq_some_iff.1 hh).1, hn, fun j u hu => ?_, there_row hh cap (by omega)⟩
    rw [Nat.zero_add, cell_of_row w g j cur e (0, 0) hh]
    rw [← ht, List.getElem?_take] at hu
    split at hu
    · simpa using hu
    · cases hu
theorem TailIs.slice {w : World} {base : Nat} {v : Value} {xs : List UInt8} (h : TailIs w base v xs) : ∃ A c, v = .slice A xs.length c ∧ xs.length ≤ c ∧ Rd w A (xs.map B) ∧ (∀ k, v.ownBlock = some k → base ≤ k ∧ k < w.heap.size) := by
  rcases h with ⟨rfl, rfl⟩ | ⟨g, off, cap, rfl, hb, hg, hn, hr, ht⟩
  · exact ⟨none, 0, rfl, Nat.le_refl _, Rd.nil _ _, fun k e => by cases e⟩
  · exact ⟨_, cap, rfl, hn, fun _ => ⟨g, off, rfl, hr⟩, fun k e => by injection e with e; subst e; exact ⟨hb, hg⟩⟩
theorem TailIs.lt {w : World} {base : Nat} {v : Value} {xs : List UInt8} (h : TailIs w base v xs) : ∀ k, v.ownBlock = some k → base ≤ k ∧ k < w.heap.size := by
  obtain ⟨_, _, _, _, _, h⟩ := h.slice; exact h
theorem TailIs.keep {w w' : World} {base : Nat} {v : Value} {xs : List UInt8} (h : TailIs w base v xs) (hs : w.heap.size ≤ w'.heap.size) (hk : ∀ k, v.ownBlock = some k → w'.heap[k]? = w.heap[k]?) : TailIs w' base v xs := by
  rcases h with h | ⟨g, off, cap, rfl, hb, hg, hn, hr, ht⟩
  · exact .inl h
  · have e := hk g rfl
    refine .inr ⟨g, off, cap, rfl, hb, by omega, hn, fun j u hu => ?_, fun j hj => ⟨?_, ?_⟩⟩
    · rw [World.cell?_of_block (w := w) (a := ⟨g, off + j, none⟩) e]; exact hr j u hu
    · rw [World.cell?_of_block (w := w) (a := ⟨g, off + j, none⟩) e]; exact (ht j hj).1
    · rw [World.frozen?_of_block (w := w) (a := ⟨g, off + j, none⟩) e]; exact (ht j hj).2
theorem TailIs.below {w w' : World} {base : Nat} {v : Value} {xs : List UInt8} (h : TailIs w base v xs) (hb : Below w.heap.size w w') : TailIs w' base v xs :=
  h.keep hb.size fun k e => hb.block k (h.lt k e).2
theorem TailIs.grown {w w' : World} {base : Nat} {v : Value} {xs : List UInt8} {row : Option Nat} (h : TailIs w base v xs) (hg : w.grownBy w' row) (hne : v.ownBlock = none ∨ row ≠ v.ownBlock) : TailIs w' base v xs :=
  h.keep hg.size fun k e => hg.block k (h.lt k e).2 (by rcases hne with hn | hn; · rw [hn] at e; cases e
                                                        · rw [← e]; exact fun e' => hn e'.symm)
theorem TailIs.mono {w : World} {base base' : Nat} {v : Value} {xs : List UInt8} (h : TailIs w base v xs) (hb : base' ≤ base) : TailIs w base' v xs := by
  rcases h with h | ⟨g, off, cap, e, hg, r⟩
  · exact .inl h
  · exact .inr ⟨g, off, cap, e, Nat.le_trans hb hg, r⟩
/-- Cut at the front. -/
theorem TailIs.cut {w : World} {base : Nat} {A : Option Addr} {c : Nat} {xs : List UInt8} (h : TailIs w base (.slice A xs.length c) xs) (k : Nat) (hk : k ≤ xs.length) :
    TailIs w base (.slice (cutA A c k 1) (xs.length - k) (c - k)) (xs.drop k) ∧ (Value.slice (cutA A c k 1) (xs.length - k) (c - k)).ownBlock = (Value.slice A xs.length c).ownBlock := by
  rcases h with ⟨e, rfl⟩ | ⟨g, off, cap, e, hb, hg, hn, hr, ht⟩
  · injection e with e1 _ e3
    subst e1
    subst e3
    refine ⟨.inl ⟨?_, by simp⟩, ?_⟩
    · unfold cutA; split <;> simp
    · unfold cutA; split <;> rfl
  · injection e with e1 _ e3
    subst e1
    subst e3
    have hl : (xs.drop k).length = xs.length - k := by simp
    unfold cutA
    by_cases hck : c = k
    · rw [if_pos hck]
      have h0 : xs.length - k = 0 := by omega
      refine ⟨.inr ⟨g, off, c - k, by rw [hl], hb, hg, by rw [hl]; omega, fun j u hu => ?_, fun j hj => ht j (by omega)⟩, rfl⟩
      have := (List.getElem?_eq_some_iff.1 hu).1
      simp at this
      omega
    · rw [if_neg hck, Option.map_some, add_plain, Nat.mul_one]
      refine ⟨.inr ⟨g, off + k, c - k, by rw [hl], hb, hg, by rw [hl]; omega, fun j u hu => ?_, fun j hj => ?_⟩, rfl⟩
      · rw [Nat.add_assoc]; refine hr (k + j) u ?_; rw [List.map_drop, List.getElem?_drop] at hu; exact hu
      · rw [Nat.add_assoc]; exact ht (k + j) (by omega)

theorem grown_setCells (g : Nat) : ∀ (vs : List Value) (o : Nat) (w : World), w.grownBy (w.setCells g o vs) (some g)
  | [], _, _ => World.grownBy.refl _ _
  | v :: r, o, w => grown_trans (grown_setC w g o v) (grown_setCells g r (o + 1) _) (.inl rfl)

theorem blk_setCells {g : Nat} {t : TypeId} : ∀ (vs : List Value) (pre old : List Value) (w : World), Blk w g t (pre ++ old) → old.length = vs.length → Blk (w.setCells g pre.length vs) g t (pre ++ vs)
  | [], pre, old, w, h, hl => by rw [List.eq_nil_of_length_eq_zero hl] at h; exact h
  | v :: r, pre, [], w, h, hl => by simp at hl
  | v :: r, pre, x :: old, w, h, hl => by
    have h1 := h.set pre.length v
    rw [List.set_append_right _ _ (Nat.le_refl _), Nat.sub_self, List.set_cons_zero, show pre ++ v :: old = (pre ++ [v]) ++ old by simp] at h1
    have h2 := blk_setCells r (pre ++ [v]) old _ h1 (by simpa using hl)
    rw [show (pre ++ [v]).length = pre.length + 1 by simp, show (pre ++ [v]) ++ r = pre ++ v :: r by simp] at h2
    exact h2
theorem Blk.setCells0 {w : World} {g : Nat} {t : TypeId} {old vs : List Value} (h : Blk w g t old) (hl : old.length = vs.length) : Blk (w.setCells g 0 vs) g t vs := blk_setCells vs [] old w h hl
theorem Blk.there {w : World} {g : Nat} {t : TypeId} {cs : List Value} (h : Blk w g t cs) {n : Nat} (hn : cs.length = n) : w.there g 0 n := fun j hj =>
  ⟨by rw [h.cell (0 + j) (by omega)]; rfl, h.frozen _⟩

/-- append. -/
theorem run_tail {P : Program} {t e : TypeId} (hT : SlT P t e (.int .u8 0) 1 1) (w : World) (ty : TypeId) (base : Nat) (v : Value) (xs : List UInt8) (h : TailIs w base v xs)
    (A : Option Addr) (c : Nat) (ys : List UInt8) (hr : Rd w A (ys.map B)) (hmax : xs.length + ys.length ≤ 140737488355328) (hbase : base ≤ w.heap.size) :
    ∃ v' w', (Builtin.append_ #[t, t] ty #[v, .slice A ys.length c]).run P w = .ok v' w' ∧ TailIs w' base v' (xs ++ ys) ∧ Ext w w' v v' := by
  obtain ⟨i, hi, hz, hsz, hby⟩ := info_parts hT.info
  rcases h with ⟨rfl, rfl⟩ | ⟨g, off, cap, rfl, hb, hg, hn, hx, ht⟩
  · obtain ⟨v', w', hrun, ho, hx⟩ := run_app hT w ty base (.slice none 0 0) 0 [] (World.ownsRow_nil w base e 1) A ys.length c (ys.map B) hr (by simp) one_bytes (by unfold maxLen; simp only [List.length_nil] at hmax; omega) (by simp only [List.length_nil] at hmax; omega) hbase
    refine ⟨v', w', hrun, TailIs.of_own (n := 0 + ys.length) (by simpa using ho), hx⟩
  · by_cases hy : ys = []
    · subst hy
      refine ⟨.slice (some ⟨g, off, none⟩) xs.length cap, w, ?_, .inr ⟨g, off, cap, by simp, hb, hg, by simpa using hn, by simpa using hx, ht⟩, Ext.refl _ _⟩
      rcases A with _ | ad
      · simp [Builtin.append_, run_underlying hT.under, sizeOf, typeInfo, hi, Builtin.lenOf, Builtin.firstCells, hn, storeCells]
      · exact run_append_room_cells (P := P) w t ty e i hT.under hi g off xs.length cap ad 0 c [] (by simp) (fun j u hu => by simp at hu) (fun u hu => by simp at hu) (by omega) (fun j hj => by simp at hj) (fun j hj => by simp at hj)
    · have hp : 0 < ys.length := List.length_pos_iff.2 hy
      obtain ⟨b, o, rfl, hc⟩ := hr (by simpa using hp)
      have hnews : ∀ j u, (ys.map B)[j]? = some u → w.cell? ((⟨b, o, none⟩ : Addr).add j) = some u := fun j u hu => by rw [add_plain]; exact hc j u hu
      by_cases hroom : xs.length + ys.length ≤ cap
      · have hrun := run_append_room_cells (P := P) w t ty e i hT.under hi g off xs.length cap ⟨b, o, none⟩ ys.length c (ys.map B) (by simp [hsz]) hnews one_bytes hroom
          (fun j hj => by rw [hsz, Nat.mul_one, Nat.add_assoc]; exact (ht (xs.length + j) (by simp at hj; omega)).1) (fun j hj => by rw [hsz, Nat.mul_one, Nat.add_assoc]; exact (ht (xs.length + j) (by simp at hj; omega)).2)
        rw [hsz, Nat.mul_one] at hrun
        refine ⟨_, _, hrun, .inr ⟨g, off, cap, by simp, hb, ?_, by simpa using hroom, ?_, World.there_setCells ht g _ _⟩, ⟨grown_setCells g _ _ w, .inl rfl⟩⟩
        · have := (grown_setCells g (ys.map B) (off + xs.length) w).size; omega
        · intro j u hu
          rw [List.map_append] at hu
          by_cases hj : j < xs.length
          · rw [List.getElem?_append_left (by simpa using hj)] at hu
            exact World.rangeAt_setCells_apart hx g (off + xs.length) (ys.map B) (.inr (.inl (by simp))) j u hu
          · rw [List.getElem?_append_right (by simp; omega), List.length_map] at hu
            have h3 := World.rangeAt_setCells_same w g (off + xs.length) (ys.map B) (fun j' hj' => by rw [Nat.add_assoc]; exact ht (xs.length + j') (by simp at hj'; omega)) (j - xs.length) u hu
            rwa [show off + xs.length + (j - xs.length) = off + j from by omega] at h3
      · obtain ⟨v', w', hrun, ho, hgr⟩ := run_append_arg_grows (P := P) w t ty e i (.int .u8 0) 1 1 hT.under hi hz hsz hby hT.cells hT.pos ⟨g, off, none⟩ xs.length cap (xs.map B) (by simp) (fun j u hu => by rw [add_plain]; exact hx j u hu) ⟨b, o, none⟩ ys.length c (ys.map B) (by simp) hnews (by omega) (by unfold maxLen; omega) (by omega)
        rw [← List.map_append] at ho
        exact ⟨v', w', hrun, (TailIs.of_own ho).mono hbase, ⟨hgr.os, hgr.tape, hgr.output, hgr.size, fun k hk _ => hgr.block k hk (by simp)⟩, .inr fun k hk => (ho.lt k hk).1⟩

theorem wpList_tail {P : Program} {w : World} {ops : Array Oper} {rest : List Oper} {o : Oper} {a : Act} {Q : Exit → Act → World → Prop} {t e : TypeId} (hT : SlT P t e (.int .u8 0) 1 1)
    (hgd : o.guard = none) (s x : Operand) (ho : o.op = .call { callee := .builtin .append, args := #[s, x], argTypes := #[t, t] })
    (base : Nat) (v : Value) (xs : List UInt8) (hs : a.eval s = v) (hv : TailIs w base v xs)
    (A : Option Addr) (c : Nat) (ys : List UInt8) (hx : a.eval x = .slice A ys.length c) (hr : Rd w A (ys.map B)) (hmax : xs.length + ys.length ≤ 140737488355328) (hbase : base ≤ w.heap.size)
    (h : ∀ v' w', TailIs w' base v' (xs ++ ys) → Ext w w' v v' → wpList P ops Q rest (a.put o.dst v') w') : wpList P ops Q (o :: rest) a w := by
  obtain ⟨v', w', hrun, h2, h3⟩ := run_tail hT w o.type base v xs hv A c ys hr hmax hbase
  refine wpList_plain hgd fun K hK => ?_
  unfold Oper.wp execOp
  simp only [ho, resolve, invoke, builtin, Sem.run_bind, Sem.run_pure, Result.andThen_ok, List.map_toArray, List.map_cons, List.map_nil, hs, hx, hrun]
  exact hK _ _ (h v' w' h2 h3)
#print axioms wpList_tail
end Go.Isth
