/- Rows of sums in memory. -/
import Derived.Test.YtcgdojdiihdkeaaDoorMem
import Derived.Test.YtcgdojdiihdkeaaDoorPackT
namespace Go.Isth
open Go Go.RowKit

/-- The cells of sums. -/
def cellsH (hs : List (List UInt8)) : List Value := hs.flatMap (·.map B)
def All32 (hs : List (List UInt8)) : Prop := ∀ h ∈ hs, h.length = 32
theorem All32.take {hs : List (List UInt8)} (h : All32 hs) (k : Nat) : All32 (hs.take k) := fun x hx => h x (List.mem_of_mem_take hx)
theorem All32.drop {hs : List (List UInt8)} (h : All32 hs) (k : Nat) : All32 (hs.drop k) := fun x hx => h x (List.mem_of_mem_drop hx)
theorem All32.snoc {hs : List (List UInt8)} (h : All32 hs) {x : List UInt8} (hx : x.length = 32) : All32 (hs ++ [x]) := by
  intro y hy
  rcases List.mem_append.1 hy with hy | hy
  · exact h y hy
  · rw [List.mem_singleton.1 hy]; exact hx
theorem cellsH_length : ∀ {hs : List (List UInt8)}, All32 hs → (cellsH hs).length = hs.length * 32
  | [], _ => rfl
  | x :: hs, h => by
    have ih := cellsH_length (hs := hs) (fun y hy => h y (List.mem_cons_of_mem _ hy))
    have hx := h x (List.mem_cons_self ..)
    simp only [cellsH, List.flatMap_cons, List.length_append, List.length_map, List.length_cons] at ih ⊢
    omega
theorem cellsH_one {hs : List (List UInt8)} : ∀ u ∈ cellsH hs, u.oneCell' = true := by
  intro u hu
  obtain ⟨x, _, hx⟩ := List.mem_flatMap.1 hu
  exact one_bytes u hx
theorem cellsH_take : ∀ {hs : List (List UInt8)} (k : Nat), All32 hs → (cellsH hs).take (k * 32) = cellsH (hs.take k)
  | [], k, _ => by simp [cellsH]
  | x :: hs, 0, _ => by simp [cellsH]
  | x :: hs, k + 1, h => by
    have ih := cellsH_take (hs := hs) k (fun y hy => h y (List.mem_cons_of_mem _ hy))
    have hx := h x (List.mem_cons_self ..)
    simp only [cellsH, List.flatMap_cons, List.take_succ_cons] at ih ⊢
    rw [List.take_append, List.take_of_length_le (by rw [List.length_map]; omega), List.length_map, hx, show (k + 1) * 32 - 32 = k * 32 by omega, ih]
theorem cellsH_drop : ∀ {hs : List (List UInt8)} (k : Nat), All32 hs → (cellsH hs).drop (k * 32) = cellsH (hs.drop k)
  | [], k, _ => by simp [cellsH]
  | x :: hs, 0, _ => by simp [cellsH]
  | x :: hs, k + 1, h => by
    have ih := cellsH_drop (hs := hs) k (fun y hy => h y (List.mem_cons_of_mem _ hy))
    have hx := h x (List.mem_cons_self ..)
    simp only [cellsH, List.flatMap_cons, List.drop_succ_cons] at ih ⊢
    rw [List.drop_append, List.drop_of_length_le (by rw [List.length_map]; omega), List.length_map, hx, show (k + 1) * 32 - 32 = k * 32 by omega, ih, List.nil_append]
theorem cellsH_append (a b : List (List UInt8)) : cellsH (a ++ b) = cellsH a ++ cellsH b := by simp [cellsH]
theorem cellsH_at {hs : List (List UInt8)} {k : Nat} {x : List UInt8} (h : All32 hs) (hk : hs[k]? = some x) (j : Nat) (u : Value) (hu : (x.map B)[j]? = some u) : (cellsH hs)[k * 32 + j]? = some u := by
  have e := cellsH_drop k h
  have hd : hs.drop k = x :: hs.drop (k + 1) := by
    obtain ⟨hl, rfl⟩ := List.getElem?_eq_some_iff.1 hk
    exact List.drop_eq_getElem_cons hl
  have : ((cellsH hs).drop (k * 32))[j]? = some u := by
    rw [e, hd]
    simp only [cellsH, List.flatMap_cons]
    rw [List.getElem?_append_left (List.getElem?_eq_some_iff.1 hu).1]
    exact hu
  rwa [List.getElem?_drop] at this
theorem rdH_to {A : Option Addr} {hs : List (List UInt8)} {w : World} (k : Nat) (hr : Rd w A (cellsH hs)) (h : All32 hs) : Rd w A (cellsH (hs.take k)) := by
  rw [← cellsH_take k h]; exact hr.front _
theorem rdH_from {A : Option Addr} {hs : List (List UInt8)} {w : World} (c k : Nat) (hr : Rd w A (cellsH hs)) (h : All32 hs) (hk : k ≤ hs.length) (hc : hs.length ≤ c) : Rd w (cutA A c k 32) (cellsH (hs.drop k)) := by
  have hl := cellsH_length h
  have h2 := hr.cut c k 32 ((hs.length - k) * 32) (by omega) (by omega)
  rw [cellsH_drop k h] at h2
  rwa [List.take_of_length_le (by rw [cellsH_length (h.drop k), List.length_drop]; omega)] at h2
theorem rdH_cell {A : Option Addr} {hs : List (List UInt8)} {w : World} {b o k : Nat} {x : List UInt8} (hr : Rd w A (cellsH hs)) (h : All32 hs) (hk : hs[k]? = some x) (hA : A = some ⟨b, o, none⟩) (j : Nat) (u : Value) (hu : (x.map B)[j]? = some u) : w.cell? ⟨b, o + k * 32 + j, none⟩ = some u := by
  have hlt := (List.getElem?_eq_some_iff.1 hk).1
  obtain ⟨b', o', e, hc⟩ := hr (by rw [cellsH_length h]; omega)
  rw [hA] at e
  injection e with e
  injection e with e1 e2
  subst e1; subst e2
  rw [Nat.add_assoc]
  exact hc _ u (cellsH_at h hk j u hu)
theorem rdH_some {A : Option Addr} {hs : List (List UInt8)} {w : World} (hr : Rd w A (cellsH hs)) (h : All32 hs) (hl : 0 < hs.length) : ∃ b o, A = some ⟨b, o, none⟩ := by
  obtain ⟨b, o, e, _⟩ := hr (by rw [cellsH_length h]; omega)
  exact ⟨b, o, e⟩
/-- One sum of a row, loaded whole. -/
theorem load_hash {P : Program} {t : TypeId} {d : TypeDesc} (hu : P.underlying t = some d) (hd : (match d with | .struct _ => true | .array _ _ => true | _ => false) = true) (hi : (P.info? t).map (·.size) = some 32) {b o : Nat} {hs : List (List UInt8)} {w : World} {k : Nat} {x : List UInt8} (hr : Rd w (some ⟨b, o, none⟩) (cellsH hs)) (h : All32 hs) (hk : hs[k]? = some x) :
    (loadVar t ⟨b, o + k * 32, none⟩).run P w = .ok (.agg (x.map B).toArray) w :=
  run_load_agg hu hd hi w ⟨b, o + k * 32, none⟩ (x.map B) (by rw [List.length_map]; exact h x (List.mem_of_getElem? hk)) (fun j u hj => by rw [add_plain]; exact rdH_cell hr h hk rfl j u hj)
end Go.Isth
