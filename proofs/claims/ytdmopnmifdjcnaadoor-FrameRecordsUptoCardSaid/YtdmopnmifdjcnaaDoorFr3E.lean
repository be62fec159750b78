/- FrameRecords: the contracts' cases. -/
import Derived.Test.YtdmopnmifdjcnaaDoorFr3D
namespace Go.Proofs.YtdmopnmifdjcnaaDoor
open Go Go.RowKit Go.Isth

theorem ErrIs.fault {w : World} {v : Value} {k : Int} (h : ErrIs w v k) : FaultIs w v k := h
theorem rows1_grown {w w' : World} {base : Nat} {r : Option Nat} {e : TypeId} {vs : List Value} {ps : List (List UInt8)} (h : Rows1 w base e vs ps) (hg : w.grownBy w' r) (hlt : ∀ g, r = some g → g < base) : Rows1 w' base e vs ps :=
  ⟨h.1, fun i v p hv hp => own_block (h.2 i v p hv hp) (fun k e => hg.block k ((h.2 i v p hv hp).lt k e).2 (fun e' => by have := hlt k e'.symm; have := ((h.2 i v p hv hp).lt k e).1; omega))⟩
theorem code_grown {w w' : World} {v u : Value} {k : Int} {base n : Nat} {xs : List Value} {r : Option Nat} (h : CodeIs w v k) (ho : w.ownsRow base 5 1 u n xs) (hg : w.grownBy w' r) (hr : r = u.ownBlock) : CodeIs w' v k := by
  rcases h with h | ⟨h0, b, s, e, hc⟩
  · exact .inl h
  · refine .inr ⟨h0, b, s, e, ?_⟩
    rw [hg.block b (Array.getElem?_eq_some_iff.1 hc).1 (fun e' => ?_)]
    · exact hc
    · rw [hr] at e'
      rcases ho.2 with ⟨rfl, _⟩ | ⟨g, cap, cur, rfl, hgb, hh, _⟩
      · simp [Value.ownBlock] at e'
      · simp only [Value.ownBlock, Option.some.injEq] at e'
        subst e'
        rw [hc] at hh
        injection hh with hh
        injection hh with _ h3 _
        exact absurd h3 (by decide)
theorem num03_all (v : Value) (k : Int) (w : World) (h : CodeIs w v k) (hg : TypeLaid w) : Calls Tryd.prog 14 #[v] w fun e w' => e = .returned (.int .i64 k) ∧ Below w.heap.size w w' := by
  rcases h with ⟨rfl, rfl⟩ | ⟨_, h⟩
  · exact num03_nil w
  · exact num03_any v k w h.fault hg
/-- What Frame answers (a payload that is not too long). -/
def FrIs (p o : List UInt8) (k : Nat) : Prop := (p.length = 0 ∧ o = [] ∧ k = 1) ∨ (0 < p.length ∧ o = record p ∧ k = 0)
theorem FrIs.any (p : List UInt8) : ∃ o k, FrIs p o k := by
  by_cases h : 0 < p.length
  · exact ⟨_, _, .inr ⟨h, rfl, rfl⟩⟩
  · exact ⟨_, _, .inl ⟨by omega, rfl, rfl⟩⟩
theorem wframe_all (A : Option Addr) (n c k L : Nat) (p o : List UInt8) (w : World) (hF : FrIs p o k) (hL : o.length = L) (hn : p.length = n) (hm : n ≤ 1048576) (hr : Rd w A (p.map B)) :
    Calls Tryd.prog 8 #[.slice A n c] w fun e w' => ∃ A' c' v, e = .returned (.tuple #[.slice A' L c', v]) ∧ Rd w' A' (o.map B) ∧ CodeIs w' v k ∧ Below w.heap.size w w' := by
  rcases hF with ⟨h, rfl, rfl⟩ | ⟨h, rfl, rfl⟩
  · subst hL
    refine (frame_bad A n c w (.inl (by omega)) (by omega)).mono ?_
    rintro e w' ⟨v, rfl, he, hb⟩
    have hn0 : n = 0 := by omega
    subst hn0
    exact ⟨none, 0, v, rfl, by simpa using Rd.nil _ _, .inr ⟨by decide, he⟩, hb⟩
  · refine (frame_ok A n c p w hn.symm h (by omega) hr).mono ?_
    rintro e w' ⟨v, rfl, ho, hb⟩
    rw [hL] at ho
    obtain ⟨A', c', rfl, _, hr', _⟩ := own_slice ho
    exact ⟨A', c', _, rfl, hr', .inl ⟨rfl, rfl⟩, hb⟩
theorem rframe_all (A : Option Addr) (n c k L : Nat) (p o : List UInt8) (w : World) (hF : FrIs p o k) (hL : o.length = L) (hn : p.length = n) (hm : n ≤ 1048576) (hr : Rd w A (p.map B)) :
    Calls Tryd.prog 9 #[.slice A n c] w fun e w' => ∃ A' c', e = .returned (.tuple #[.slice A' L c', .int .i64 (k : Nat)]) ∧ Rd w' A' (o.map B) ∧ Below w.heap.size w w' := by
  rcases hF with ⟨h, rfl, rfl⟩ | ⟨h, rfl, rfl⟩
  · subst hL
    refine (rframe_none A c n w 1 (.inl ⟨by omega, rfl⟩)).mono ?_
    rintro e w' ⟨rfl, rfl⟩
    exact ⟨none, 0, rfl, by simpa using Rd.nil _ _, Below.refl _ _⟩
  · rw [record_length, hn] at hL
    subst hL
    exact (rframe_yes A c n p w hn (by omega) hm hr)
/-- What One answers. -/
def OneIs (b q : List UInt8) (n : Nat) (k : Int) : Prop := (oneF b = .inl (q, n) ∧ k = 0) ∨ (oneF b = .inr k ∧ q = [] ∧ n = 0)
theorem OneIs.any (b : List UInt8) : ∃ q n k, OneIs b q n k := by
  rcases h : oneF b with ⟨q, n⟩ | k
  · exact ⟨q, n, 0, .inl ⟨h, rfl⟩⟩
  · exact ⟨[], 0, k, .inr ⟨h, rfl, rfl⟩⟩
theorem wone_all (A : Option Addr) (n c m M : Nat) (k : Int) (b q : List UInt8) (w : World) (hO : OneIs b q m k) (hM : q.length = M) (hn : b.length = n) (hc : n ≤ c) (hm : n ≤ 1048576) (hr : Rd w A (b.map B)) :
    Calls Tryd.prog 10 #[.slice A n c] w fun e w' => ∃ A' c' v, e = .returned (.tuple #[.slice A' M c', .int .i64 (m : Nat), v]) ∧ w'.ownsRow w.heap.size 5 1 (.slice A' M c') M (q.map B) ∧ CodeIs w' v k ∧ Below w.heap.size w w' := by
  subst hM
  refine (one_any A n c b w hn.symm hc (by omega) hr).mono ?_
  rintro e w' ⟨hb, ⟨p, m', v, h1, rfl, ho⟩ | ⟨m', v, h1, rfl, he⟩⟩
  · rcases hO with ⟨h, rfl⟩ | ⟨h, _⟩
    · rw [h1] at h
      injection h with h
      injection h with h2 h3
      subst h2
      subst h3
      obtain ⟨A', c', rfl, _⟩ := own_slice ho
      exact ⟨A', c', _, rfl, ho, .inl ⟨rfl, rfl⟩, hb⟩
    · rw [h1] at h; cases h
  · rcases hO with ⟨h, _⟩ | ⟨h, rfl, rfl⟩
    · rw [h1] at h; cases h
    · rw [h1] at h
      injection h with h
      subst h
      have hk := oneF_inr h1
      exact ⟨none, 0, v, rfl, World.ownsRow_nil _ _ _ _, .inr ⟨by omega, he⟩, hb⟩
theorem rone_all (A : Option Addr) (n c m M : Nat) (k : Int) (b q : List UInt8) (w : World) (hO : OneIs b q m k) (hM : q.length = M) (hn : b.length = n) (hc : n ≤ c) (hm : n ≤ 1048576) (hr : Rd w A (b.map B)) :
    Calls Tryd.prog 11 #[.slice A n c] w fun e w' => ∃ A' c', e = .returned (.tuple #[.slice A' M c', .int .i64 (m : Nat), .int .i64 k]) ∧ (∀ wx, Rd wx A (b.map B) → Rd wx A' (q.map B)) ∧ Below w.heap.size w w' := by
  subst hM
  refine (rone_any A n c b w hn hc (by omega) hr).mono ?_
  rintro e w' ⟨hb, ⟨p, m', A', c', h1, rfl, _, hrd⟩ | ⟨m', h1, rfl⟩⟩
  · rcases hO with ⟨h, rfl⟩ | ⟨h, _⟩
    · rw [h1] at h
      injection h with h
      injection h with h2 h3
      subst h2
      subst h3
      exact ⟨A', c', rfl, hrd, hb⟩
    · rw [h1] at h; cases h
  · rcases hO with ⟨h, _⟩ | ⟨h, rfl, rfl⟩
    · rw [h1] at h; cases h
    · rw [h1] at h
      injection h with h
      subst h
      exact ⟨none, 0, rfl, fun wx _ => by simpa using Rd.nil _ _, hb⟩
theorem OneIs.le {b q : List UInt8} {n : Nat} {k : Int} (h : OneIs b q n k) : q.length ≤ 1048576 := by
  rcases h with ⟨h, _⟩ | ⟨_, rfl, _⟩
  · exact (oneF_inl h).2.2.2
  · simp
theorem scans_len {b : List UInt8} {ps : List (List UInt8)} {a : Nat} {k : Int} (h : Scans b ps a k) : ∀ p ∈ ps, p.length ≤ 140737488351232 := by
  induction h with
  | stop => intro p hp; simp at hp
  | bad => intro p hp; simp at hp
  | more h _ ih =>
    intro q hq
    rcases List.mem_cons.1 hq with rfl | hq
    · have := (oneF_inl h).2.2.2; omega
    · exact ih q hq
end Go.Proofs.YtdmopnmifdjcnaaDoor
