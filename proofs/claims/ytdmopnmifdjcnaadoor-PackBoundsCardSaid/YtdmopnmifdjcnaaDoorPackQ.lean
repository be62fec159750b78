/- Layer 2's reader, plain: a number off bytes; a reader's state; its block. -/
import Derived.Test.YtdmopnmifdjcnaaDoorPackP
namespace Go.Isth
open Go Go.RowKit

/-- The number that bytes begin with, and how many bytes it has; or the error's number. -/
def numF : Nat → Nat → Nat → List UInt8 → Int ⊕ (Nat × Nat)
  | 0, _, _, _ => .inl 3
  | _ + 1, _, _, [] => .inl 12
  | f + 1, i, acc, c :: cs =>
    if i = 9 ∧ 1 < c.toNat then .inl 3
    else if c.toNat < 128 then (if c.toNat = 0 ∧ 0 < i then .inl 3 else .inr (acc + c.toNat % 128 * 128 ^ i, i + 1))
    else numF f (i + 1) (acc + c.toNat % 128 * 128 ^ i) cs

theorem numF_bounds : ∀ (f i acc : Nat) (bs : List UInt8) (n k : Nat), numF f i acc bs = .inr (n, k) → i < k ∧ k ≤ i + bs.length
  | 0, _, _, _, _, _, h => by simp [numF] at h
  | _ + 1, _, _, [], _, _, h => by simp [numF] at h
  | f + 1, i, acc, c :: cs, n, k, h => by
    rw [numF] at h
    split at h
    · cases h
    · split at h
      · split at h
        · cases h
        · cases h
          simp
      · have := numF_bounds f (i + 1) _ cs n k h
        simp
        omega

/-- What a number's bytes are taken off as. -/
theorem numF_varint (n : Nat) : ∀ (f i acc : Nat) (rest : List UInt8), f + i = 10 → n * 128 ^ i < 18446744073709551616 → (i = 0 ∨ 0 < n) → numF f i acc (varint n ++ rest) = .inr (acc + n * 128 ^ i, i + (varint n).length) := by
  induction n using Nat.strongRecOn with
  | ind n ih =>
    intro f i acc rest hf hn hi
    have hi10 : i < 10 := by
      rcases hi with rfl | hp
      · omega
      · refine Decidable.byContradiction fun hc => ?_
        have h1 : 128 ^ 10 ≤ 128 ^ i := Nat.pow_le_pow_right (by omega) (by omega)
        have h2 : 128 ^ i ≤ n * 128 ^ i := Nat.le_mul_of_pos_left _ hp
        have : (128 : Nat) ^ 10 = 1180591620717411303424 := by decide
        omega
    obtain ⟨f', rfl⟩ : ∃ f', f = f' + 1 := ⟨f - 1, by omega⟩
    by_cases h : n < 128
    · rw [varint_small h]
      have hb : (UInt8.ofNat n).toNat = n := by simp; omega
      simp only [List.cons_append, List.nil_append, numF, hb]
      rw [if_neg, if_pos h, if_neg, Nat.mod_eq_of_lt h]
      · simp
      · rintro ⟨h1, h2⟩; rcases hi with h3 | h3 <;> omega
      · rintro ⟨rfl, h2⟩
        have : (128 : Nat) ^ 9 = 9223372036854775808 := by decide
        rw [this] at hn
        omega
    · rw [varint_great h]
      have hb : (UInt8.ofNat (n % 128 + 128)).toNat = n % 128 + 128 := by simp; omega
      have hlt9 : i < 9 := by
        refine Decidable.byContradiction fun hc => ?_
        obtain rfl : i = 9 := by omega
        have : (128 : Nat) ^ 9 = 9223372036854775808 := by decide
        rw [this] at hn
        omega
      simp only [List.cons_append, numF, hb]
      rw [if_neg (by omega), if_neg (by omega), show (n % 128 + 128) % 128 = n % 128 from by omega]
      have hdm : n / 128 * 128 ^ (i + 1) + n % 128 * 128 ^ i = n * 128 ^ i := by
        rw [Nat.pow_succ, Nat.mul_comm (128 ^ i) 128, ← Nat.mul_assoc, ← Nat.add_mul]
        congr 1
        omega
      rw [ih (n / 128) (by omega) f' (i + 1) _ rest (by omega) (by omega) (.inr (by omega))]
      simp only [List.length_cons, Sum.inr.injEq, Prod.mk.injEq]
      exact ⟨by omega, by omega⟩

theorem or_add (acc d k : Nat) (h : acc < 128 ^ k) (hd : acc + d * 128 ^ k < 18446744073709551616) : bits .or .u64 (acc : Int) ((d * 128 ^ k : Nat) : Int) = ((acc + d * 128 ^ k : Nat) : Int) := by
  have h7 : (128 : Nat) ^ k = 2 ^ (7 * k) := by rw [Nat.pow_mul]
  rw [h7] at h hd ⊢
  have e1 : (acc : Int) = (((BitVec.ofNat 64 acc).toNat : Nat) : Int) := by rw [BitVec.toNat_ofNat, Nat.mod_eq_of_lt (by omega)]
  have e2 : ((d * 2 ^ (7 * k) : Nat) : Int) = (((BitVec.ofNat 64 (d * 2 ^ (7 * k))).toNat : Nat) : Int) := by rw [BitVec.toNat_ofNat, Nat.mod_eq_of_lt (by omega)]
  rw [e1, e2, or64, BitVec.toNat_or, BitVec.toNat_ofNat, BitVec.toNat_ofNat, Nat.mod_eq_of_lt (by omega), Nat.mod_eq_of_lt (by omega), Nat.or_comm, Nat.mul_comm, ← Nat.two_pow_add_eq_or_of_lt h, Nat.add_comm]
theorem andNot_val (x : UInt8) : bits .andNot .u8 (x.toNat : Int) 128 = ((x.toNat % 128 : Nat) : Int) := by
  have key : ∀ m : Fin 256, bits .andNot .u8 ((m.val : Nat) : Int) 128 = ((m.val % 128 : Nat) : Int) := by decide +kernel
  exact key ⟨x.toNat, x.toNat_lt⟩
theorem accE (k acc : Nat) (x : UInt8) (hk : k < 10) (h9 : k = 9 → x.toNat ≤ 1) (h : acc < 128 ^ k) :
    acc + x.toNat % 128 * 128 ^ k < 18446744073709551616 ∧ bits .or .u64 (acc : Int) (IntKind.u64.wrap (IntKind.u64.wrap (bits .andNot .u8 (x.toNat : Int) 128) * 2 ^ (7 * k))) = ((acc + x.toNat % 128 * 128 ^ k : Nat) : Int) := by
  have hb : acc + x.toNat % 128 * 128 ^ k < 18446744073709551616 := by
    have e9 : (128 : Nat) ^ 9 = 9223372036854775808 := by decide
    by_cases hk9 : k = 9
    · subst hk9
      have := h9 rfl
      rw [e9] at *
      omega
    · have h1 : (128 : Nat) ^ (k + 1) ≤ 128 ^ 9 := Nat.pow_le_pow_right (by omega) (by omega)
      rw [Nat.pow_succ] at h1
      have h2 : x.toNat % 128 * 128 ^ k ≤ 127 * 128 ^ k := Nat.mul_le_mul_right _ (by omega)
      omega
  refine ⟨hb, ?_⟩
  rw [andNot_val, u64_nat (by omega), show (2 : Int) ^ (7 * k) = ((128 ^ k : Nat) : Int) from by rw [Int.natCast_pow, Int.pow_mul]; rfl, ← Int.natCast_mul, u64_nat (by omega)]
  exact or_add acc _ k h hb

/-- A reader's state: what is left, and the first error. -/
structure RS where
  rest : List UInt8
  err : Option Int

def RS.fail (s : RS) (k : Int) : RS := if s.err = none then { s with err := some k } else s
def RS.uint (s : RS) (most : Nat) : Nat × RS :=
  if s.err ≠ none then (0, s) else
  match numF 10 0 0 s.rest with
  | .inl k => (0, s.fail k)
  | .inr (n, k) => if most < n then (0, s.fail 4) else (n, { s with rest := s.rest.drop k })
def RS.take (s : RS) (n : Nat) : List UInt8 × RS :=
  if s.err ≠ none then ([], s) else if s.rest.length < n then ([], s.fail 12) else (s.rest.take n, { s with rest := s.rest.drop n })
def RS.boolS (s : RS) : RS := if s.err = none ∧ 0 < s.rest.length ∧ 1 < (s.rest.headD 0).toNat then s.fail 3 else s
def RS.bool (s : RS) : Bool × RS := (((s.boolS.take 1).1 == [1]), (s.boolS.take 1).2)

/-- An error of the number k. -/
def ErrAt (tP tF tE : TypeId) (w : World) (v : Value) (k : Int) : Prop := ∃ b s, v = .iface tP (.pointer (some ⟨b, 0, none⟩)) ∧ w.heap[b]? = some (.cells #[.string s, .iface tE (.int .i64 k)] tF (0, 0))

/-- The reader's block; what it reads lies outside G. -/
structure RdrIs (tR tP tF tE : TypeId) (G : Nat → Prop) (w : World) (r : Nat) (s : RS) : Prop where
  of : ∃ A c ev, w.heap[r]? = some (.cells #[.slice A s.rest.length c, ev] tR (0, 0)) ∧ s.rest.length ≤ c ∧ Rd w A (s.rest.map B) ∧ ((0 < s.rest.length → ∀ ad, A = some ad → ¬ G ad.block) ∧ ∀ b, ev = .iface tP (.pointer (some ⟨b, 0, none⟩)) → ¬ G b) ∧ s.rest.length ≤ 140737488351232 ∧
    (s.err = none → ev = .nilIface) ∧ (∀ k, s.err = some k → ErrAt tP tF tE w ev k)

theorem two_cells {w : World} {r : Nat} {a b : Value} {t : TypeId} (h : w.heap[r]? = some (.cells #[a, b] t (0, 0))) :
    w.cell? ⟨r, 0, none⟩ = some a ∧ w.cell? ⟨r, 1, none⟩ = some b ∧ w.frozen? ⟨r, 0, none⟩ = false ∧ w.frozen? ⟨r, 1, none⟩ = false ∧ r < w.heap.size := by
  refine ⟨?_, ?_, ?_, ?_, (Array.getElem?_eq_some_iff.1 h).1⟩ <;> simp [World.cell?, World.frozen?, h]
theorem two_set0 {w : World} {r : Nat} {a b : Value} {t : TypeId} (v : Value) (h : w.heap[r]? = some (.cells #[a, b] t (0, 0))) : (w.setCell ⟨r, 0, none⟩ v).heap[r]? = some (.cells #[v, b] t (0, 0)) := by
  obtain ⟨hlt, hk⟩ := Array.getElem?_eq_some_iff.1 h
  show (w.heap.modify r _)[r]? = _
  rw [Array.getElem?_eq_getElem (by rw [Array.size_modify]; exact hlt), Array.getElem_modify_self, hk]
  rfl
theorem two_set1 {w : World} {r : Nat} {a b : Value} {t : TypeId} (v : Value) (h : w.heap[r]? = some (.cells #[a, b] t (0, 0))) : (w.setCell ⟨r, 1, none⟩ v).heap[r]? = some (.cells #[a, v] t (0, 0)) := by
  obtain ⟨hlt, hk⟩ := Array.getElem?_eq_some_iff.1 h
  show (w.heap.modify r _)[r]? = _
  rw [Array.getElem?_eq_getElem (by rw [Array.size_modify]; exact hlt), Array.getElem_modify_self, hk]
  rfl
theorem grown_set (w : World) (r o : Nat) (v : Value) : w.grownBy (w.setCell ⟨r, o, none⟩ v) (some r) :=
  ⟨rfl, rfl, rfl, (KeepsWalks.setCell w _ v).size, fun k _ hk => Below.heap_setCell _ _ _ k (fun e => hk (by rw [e]))⟩
theorem grown_alloc (w : World) (o : Obj) (row : Option Nat) : w.grownBy (w.alloc o) row := World.grownBy_alloc w o row
theorem grown_drewN {w w' : World} {row : Option Nat} (h : w.grownBy w' row) (n : Nat) : w.grownBy (w'.drewN n) row := ⟨h.os, h.tape, h.output, h.size, h.block⟩
theorem grown_one {w w1 w2 : World} {r : Nat} (h : w.grownBy w1 (some r)) (k : w1.grownBy w2 (some r)) : w.grownBy w2 (some r) := grown_trans h k (.inl rfl)

theorem rd_grown {w w' : World} {A : Option Addr} {xs : List Value} {row : Option Nat} (h : Rd w A xs) (hg : w.grownBy w' row) (hne : 0 < xs.length → ∀ ad, A = some ad → row ≠ some ad.block) : Rd w' A xs :=
  fun hp => (h.grown hg (hne hp)) hp

section
variable {tR tP tF tE : TypeId} {G : Nat → Prop} {w w' : World} {r : Nat} {s : RS}

theorem RdrIs.lt (h : RdrIs tR tP tF tE G w r s) : r < w.heap.size := by obtain ⟨A, c, ev, hc, _⟩ := h.of; exact (Array.getElem?_eq_some_iff.1 hc).1
theorem RdrIs.below (h : RdrIs tR tP tF tE G w r s) (hb : Below w.heap.size w w') : RdrIs tR tP tF tE G w' r s := by
  obtain ⟨A, c, ev, hc, hf, hr, hn, hs, h0, h1⟩ := h.of
  refine ⟨A, c, ev, by rw [hb.block r h.lt]; exact hc, hf, hr.below hb, hn, hs, h0, fun k hk => ?_⟩
  obtain ⟨b, t, e, hb1⟩ := h1 k hk
  exact ⟨b, t, e, by rw [hb.block b (Array.getElem?_eq_some_iff.1 hb1).1]; exact hb1⟩
/-- Bytes are taken off. -/
theorem RdrIs.cut (hne : tR ≠ tF) (hGr : G r) {A A' : Option Addr} {c c' : Nat} {ev : Value} {s' : RS} (hc : w.heap[r]? = some (.cells #[.slice A s.rest.length c, ev] tR (0, 0)))
    (hfit : s'.rest.length ≤ c') (hr : Rd w A' (s'.rest.map B)) (hn : (0 < s'.rest.length → ∀ ad, A' = some ad → ¬ G ad.block) ∧ ∀ b, ev = .iface tP (.pointer (some ⟨b, 0, none⟩)) → ¬ G b) (hs : s'.rest.length ≤ 140737488351232) (h0 : s'.err = none → ev = .nilIface) (h1 : ∀ k, s'.err = some k → ErrAt tP tF tE w ev k) :
    RdrIs tR tP tF tE G (w.setCell ⟨r, 0, none⟩ (.slice A' s'.rest.length c')) r s' := by
  refine ⟨A', c', ev, two_set0 _ hc, hfit, rd_grown hr (grown_set w r 0 _) (fun hp ad e e' => hn.1 (by simpa using hp) ad e (by injection e' with e'; rw [← e']; exact hGr)), hn, hs, h0, fun k hk => ?_⟩
  obtain ⟨b, t, e, hb⟩ := h1 k hk
  refine ⟨b, t, e, ?_⟩
  rw [(grown_set w r 0 _).block b (Array.getElem?_eq_some_iff.1 hb).1 ?_]
  · exact hb
  · intro e'
    injection e' with e'
    subst e'
    rw [hc] at hb
    injection hb with hb
    injection hb with _ h2 _
    exact hne h2
/-- An error is set. -/
theorem RdrIs.failed (hGr : G r) {A : Option Addr} {c b : Nat} {ev : Value} {t : ByteArray} {k : Int} (hc : w.heap[r]? = some (.cells #[.slice A s.rest.length c, ev] tR (0, 0)))
    (hfit : s.rest.length ≤ c) (hr : Rd w A (s.rest.map B)) (hn : (0 < s.rest.length → ∀ ad, A = some ad → ¬ G ad.block) ∧ ∀ b, ev = .iface tP (.pointer (some ⟨b, 0, none⟩)) → ¬ G b) (hs : s.rest.length ≤ 140737488351232) (hbr : ¬ G b)
    (hb : w.heap[b]? = some (.cells #[.string t, .iface tE (.int .i64 k)] tF (0, 0))) : RdrIs tR tP tF tE G (w.setCell ⟨r, 1, none⟩ (.iface tP (.pointer (some ⟨b, 0, none⟩)))) r { s with err := some k } := by
  refine ⟨A, c, _, two_set1 _ hc, hfit, rd_grown hr (grown_set w r 1 _) (fun hp ad e e' => hn.1 (by simpa using hp) ad e (by injection e' with e'; rw [← e']; exact hGr)), ⟨hn.1, fun b' e => by injection e with _ e; injection e with e; injection e with e; injection e with e; rw [← e]; exact hbr⟩, hs, fun h => (by cases h), fun k' hk => ⟨b, t, rfl, ?_⟩⟩
  injection hk with hk
  subst hk
  rw [(grown_set w r 1 _).block b (Array.getElem?_eq_some_iff.1 hb).1 (fun e => hbr (by injection e with e; rw [e]; exact hGr))]
  exact hb
end

#print axioms numF_varint
end Go.Isth
