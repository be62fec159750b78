/- Rows of sums that came in: opened. -/
import Derived.Test.YtcgdojdiihdkeaaDoorOpen
import Derived.Test.YtcgdojdiihdkeaaDoorOpenU
import Derived.Test.YtcgdojdiihdkeaaDoorHs
import Derived.OpenShut
namespace Go.Proofs.YtcgdojdiihdkeaaDoor
open Go Go.RowKit Go.ChangeAt Go.Isth

theorem Opens.arrB {P : Program} {t e : TypeId} {n : Nat} (ht : P.underlying t = some (.array n e)) (he : P.underlying e = some (.int .u8)) (hs : P.cellsOf e = 1) (hc : P.cellsOf t = n) : Opens P t (fun _ cs (hs : List UInt8) => cs = hs.map B ∧ hs.length = n) :=
  fun H enc w held fuel cs d pl h _ => by
    obtain ⟨xs, m, _, _, hl, hxl, hf⟩ := DataW.trod_array ht h
    rw [hc] at hl
    have each : ∀ i, i < n → ∃ b : UInt8, cs[i]? = some (B b) := by
      intro i hi
      have h1 := hf i hi
      rw [hs, List.getElem?_eq_getElem (by omega)] at h1
      obtain ⟨b, hb⟩ := byte_trod he h1
      refine ⟨b, ?_⟩
      have h2 : ((cs.drop (i * 1)).take 1)[0]? = some (B b) := by rw [hb]; rfl
      rwa [List.getElem?_take, if_pos (by omega), List.getElem?_drop, Nat.mul_one, Nat.add_zero] at h2
    obtain ⟨f, hfb⟩ := Go.Deep.choose_lt each
    refine ⟨(List.range n).map f, ?_, by simp⟩
    apply List.ext_getElem?
    intro i
    rcases Nat.lt_or_ge i n with hi | hi
    · rw [hfb i hi]; simp [hi]
    · rw [List.getElem?_eq_none (by omega), List.getElem?_eq_none (by simpa using hi)]

def HashR (_ : World) (cs : List Value) (hs : List UInt8) : Prop := cs = hs.map B ∧ hs.length = 32
theorem cells_hashes : ∀ {xs : List (List UInt8)} {cells : List Value} {w : World}, Chunks (HashR w) 32 cells xs → cells = cellsH xs ∧ All32 xs
  | [], cells, w, h => ⟨by have h1 := h.1; simp at h1; rw [h1]; rfl, fun x hx => by simp at hx⟩
  | x :: xs, cells, w, h => by
    have h0 := h.2 0 x rfl
    rw [Nat.zero_mul, List.drop_zero] at h0
    have hl := h.1
    rw [List.length_cons] at hl
    have hr : Chunks (HashR w) 32 (cells.drop 32) xs := by
      refine ⟨by rw [List.length_drop]; omega, fun i y hy => ?_⟩
      have h1 := h.2 (i + 1) y (by simpa using hy)
      rwa [show (i + 1) * 32 = 32 + i * 32 by omega, ← List.drop_drop] at h1
    obtain ⟨e, h32⟩ := cells_hashes hr
    refine ⟨?_, fun y hy => ?_⟩
    · rw [show cells = cells.take 32 ++ cells.drop 32 from (List.take_append_drop 32 cells).symm, h0.1, e]; simp [cellsH]
    · rcases List.mem_cons.1 hy with rfl | hy
      · exact h0.2
      · exact h32 y hy
theorem hashes_of {w : World} {v : Value} {xs : List (List UInt8)} {bytes : Nat} (h : SliceIs HashR 32 bytes w v xs) : ∃ A c, v = .slice A xs.length c ∧ (xs.length ≤ c ∧ Rd w A (cellsH xs) ∧ All32 xs ∧ xs.length * bytes ≤ reachBytes) := by
  obtain ⟨A, c, cells, e, hc, hm, hr, hk, _⟩ := h
  obtain ⟨e2, h32⟩ := cells_hashes hk
  subst e2
  exact ⟨A, c, e, hc, hr, h32, hm⟩
end Go.Proofs.YtcgdojdiihdkeaaDoor
