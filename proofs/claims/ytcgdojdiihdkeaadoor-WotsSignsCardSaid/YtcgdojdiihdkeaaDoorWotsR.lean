/- A room: an array of 64 bytes of the call's own, appended to where it lies. Over any program. -/
import Derived.Test.YtcgdojdiihdkeaaDoorTail
import Derived.Test.YtcgdojdiihdkeaaDoorReg
namespace Go.Isth
open Go Go.RowKit

/-- What lies in the room from its first byte on; its 64 cells are there. -/
structure RoomIs (w : World) (g : Nat) (xs : List UInt8) : Prop where
  rd : w.rangeAt g 0 (xs.map B)
  th : w.there g 0 64
  lt : g < w.heap.size
abbrev roomV (g n : Nat) : Value := .slice (some ⟨g, 0, none⟩) n 64
theorem RoomIs.keep {w w' : World} {g : Nat} {xs : List UInt8} (h : RoomIs w g xs) (hs : w.heap.size ≤ w'.heap.size) (e : w'.heap[g]? = w.heap[g]?) : RoomIs w' g xs :=
  ⟨fun j u hu => by rw [World.cell?_of_block (w := w) (a := ⟨g, 0 + j, none⟩) e]; exact h.rd j u hu,
   fun j hj => ⟨by rw [World.cell?_of_block (w := w) (a := ⟨g, 0 + j, none⟩) e]; exact (h.th j hj).1, by rw [World.frozen?_of_block (w := w) (a := ⟨g, 0 + j, none⟩) e]; exact (h.th j hj).2⟩,
   Nat.lt_of_lt_of_le h.lt hs⟩
theorem RoomIs.below {w w' : World} {g : Nat} {xs : List UInt8} (h : RoomIs w g xs) (hb : Below w.heap.size w w') : RoomIs w' g xs := h.keep hb.size (hb.block g h.lt)
theorem RoomIs.alloc {w : World} {g : Nat} {xs : List UInt8} (h : RoomIs w g xs) (o : Obj) : RoomIs (w.alloc o) g xs := h.below ((Below.refl _ _).alloc (Nat.le_refl _) o)
theorem RoomIs.grown {w w' : World} {g : Nat} {xs : List UInt8} {row : Option Nat} (h : RoomIs w g xs) (hg : w.grownBy w' row) (hne : row ≠ some g) : RoomIs w' g xs := h.keep hg.size (hg.block g h.lt (by intro e; exact hne e.symm))
theorem RoomIs.empty {w : World} {g : Nat} {xs : List UInt8} (h : RoomIs w g xs) : RoomIs w g [] := ⟨fun j u hu => by simp at hu, h.th, h.lt⟩
theorem RoomIs.Rd {w : World} {g : Nat} {xs : List UInt8} (h : RoomIs w g xs) : Rd w (some ⟨g, 0, none⟩) (xs.map B) := fun _ => ⟨g, 0, rfl, h.rd⟩
theorem RoomIs.of_blk {w : World} {g : Nat} {t : TypeId} {cs : List Value} (h : Blk w g t cs) (hl : cs.length = 64) : RoomIs w g [] := ⟨fun j u hu => by simp at hu, h.there hl, h.lt⟩

theorem run_room {P : Program} {t e : TypeId} (hT : SlT P t e (.int .u8 0) 1 1) (w : World) (ty : TypeId) (g : Nat) (xs : List UInt8) (h : RoomIs w g xs)
    (A : Option Addr) (c : Nat) (ys : List UInt8) (hr : Rd w A (ys.map B)) (hp : 0 < ys.length) (hfit : xs.length + ys.length ≤ 64) :
    ∃ w', (Builtin.append_ #[t, t] ty #[roomV g xs.length, .slice A ys.length c]).run P w = .ok (roomV g (xs.length + ys.length)) w' ∧ RoomIs w' g (xs ++ ys) ∧ w.grownBy w' (some g) := by
  obtain ⟨i, hi, hz, hsz, hby⟩ := info_parts hT.info
  obtain ⟨b, o, rfl, hc⟩ := hr (by simpa using hp)
  have hnews : ∀ j u, (ys.map B)[j]? = some u → w.cell? ((⟨b, o, none⟩ : Addr).add j) = some u := fun j u hu => by rw [add_plain]; exact hc j u hu
  have hrun := run_append_room_cells (P := P) w t ty e i hT.under hi g 0 xs.length 64 ⟨b, o, none⟩ ys.length c (ys.map B) (by simp [hsz]) hnews one_bytes hfit
    (fun j hj => by rw [hsz, Nat.mul_one, Nat.add_assoc]; exact (h.th (xs.length + j) (by simp at hj; omega)).1) (fun j hj => by rw [hsz, Nat.mul_one, Nat.add_assoc]; exact (h.th (xs.length + j) (by simp at hj; omega)).2)
  rw [hsz, Nat.mul_one] at hrun
  have hg := grown_setCells g (ys.map B) (0 + xs.length) w
  refine ⟨_, hrun, ⟨fun j u hu => ?_, World.there_setCells h.th g _ _, Nat.lt_of_lt_of_le h.lt hg.size⟩, hg⟩
  rw [List.map_append] at hu
  by_cases hj : j < xs.length
  · rw [List.getElem?_append_left (by simpa using hj)] at hu
    exact World.rangeAt_setCells_apart h.rd g (0 + xs.length) (ys.map B) (.inr (.inl (by simp))) j u hu
  · rw [List.getElem?_append_right (by simp; omega), List.length_map] at hu
    have h3 := World.rangeAt_setCells_same w g (0 + xs.length) (ys.map B) (fun j' hj' => by rw [Nat.add_assoc]; exact h.th (xs.length + j') (by simp at hj'; omega)) (j - xs.length) u hu
    rwa [show 0 + xs.length + (j - xs.length) = 0 + j from by omega] at h3

theorem wpList_in64 {P : Program} {w : World} {ops : Array Oper} {rest : List Oper} {o : Oper} {a : Act} {Q : Exit → Act → World → Prop} {t e : TypeId} (hT : SlT P t e (.int .u8 0) 1 1)
    (hgd : o.guard = none) (s x : Operand) (ho : o.op = .call { callee := .builtin .append, args := #[s, x], argTypes := #[t, t] })
    (g : Nat) (xs : List UInt8) (n : Nat) (hn : n = xs.length) (hs : a.eval s = roomV g n) (h : RoomIs w g xs)
    (A : Option Addr) (c m : Nat) (ys : List UInt8) (hm : m = ys.length) (hx : a.eval x = .slice A m c) (hr : Rd w A (ys.map B)) (hp : 0 < ys.length) (hfit : xs.length + ys.length ≤ 64)
    (hk : ∀ w', RoomIs w' g (xs ++ ys) → w.grownBy w' (some g) → wpList P ops Q rest (a.put o.dst (roomV g (n + m))) w') : wpList P ops Q (o :: rest) a w := by
  subst hn; subst hm
  obtain ⟨w', hrun, h2, h3⟩ := run_room hT w o.type g xs h A c ys hr hp hfit
  refine wpList_plain hgd fun K hK => ?_
  unfold Oper.wp execOp
  simp only [ho, resolve, invoke, builtin, Sem.run_bind, Sem.run_pure, Result.andThen_ok, List.map_toArray, List.map_cons, List.map_nil, hs, hx, hrun]
  exact hK _ _ (hk w' h2 h3)
#print axioms wpList_in64
end Go.Isth
