/- SHA-256, plain. No program. -/
import Derived.Test.YtdekealpachhmaaDoorCrc
namespace Go.Isth
open Go

abbrev W32 := BitVec 32
def rotr (x : W32) (m : Nat) : W32 := (x <<< (32 - m)) ||| (x >>> m)
def lowS (x : W32) : W32 := rotr x 7 ^^^ rotr x 18 ^^^ (x >>> 3)
def highS (y : W32) : W32 := rotr y 17 ^^^ rotr y 19 ^^^ (y >>> 10)
def wNext (l : List W32) : W32 := l.getD (l.length - 16) 0 + lowS (l.getD (l.length - 15) 0) + l.getD (l.length - 7) 0 + highS (l.getD (l.length - 2) 0)
def snocW (l : List W32) : List W32 := l ++ [wNext l]
def schedN : Nat → List W32 → List W32
  | 0, l => l
  | n + 1, l => snocW (schedN n l)
theorem schedN_length (n : Nat) (l : List W32) : (schedN n l).length = l.length + n := by
  induction n with
  | zero => rfl
  | succ n ih => simp [schedN, snocW, ih]; omega

structure R8 where
  a : W32
  c : W32
  d : W32
  e : W32
  f : W32
  g : W32
  h : W32
  i : W32
deriving Inhabited
def R8.list (r : R8) : List W32 := [r.a, r.c, r.d, r.e, r.f, r.g, r.h, r.i]
def R8.add (r s : R8) : R8 := ⟨r.a + s.a, r.c + s.c, r.d + s.d, r.e + s.e, r.f + s.f, r.g + s.g, r.h + s.h, r.i + s.i⟩
def oneS (k w : W32) (r : R8) : W32 := r.i + (rotr r.f 6 ^^^ rotr r.f 11 ^^^ rotr r.f 25) + ((r.f &&& r.g) ^^^ (~~~ r.f &&& r.h)) + k + w
def twoS (r : R8) : W32 := (rotr r.a 2 ^^^ rotr r.a 13 ^^^ rotr r.a 22) + ((r.a &&& r.c) ^^^ (r.a &&& r.d) ^^^ (r.c &&& r.d))
def rndOf (one two : W32) (r : R8) : R8 := ⟨one + two, r.a, r.c, r.d, r.e + one, r.f, r.g, r.h⟩
def rnd (k w : W32) (r : R8) : R8 := rndOf (oneS k w r) (twoS r) r
def roundsN (ks ws : List W32) : Nat → R8 → R8
  | 0, r => r
  | n + 1, r => rnd (ks.getD n 0) (ws.getD n 0) (roundsN ks ws n r)

def kTab : List W32 := [
  0x428a2f98, 0x71374491, 0xb5c0fbcf, 0xe9b5dba5, 0x3956c25b, 0x59f111f1, 0x923f82a4, 0xab1c5ed5,
  0xd807aa98, 0x12835b01, 0x243185be, 0x550c7dc3, 0x72be5d74, 0x80deb1fe, 0x9bdc06a7, 0xc19bf174,
  0xe49b69c1, 0xefbe4786, 0x0fc19dc6, 0x240ca1cc, 0x2de92c6f, 0x4a7484aa, 0x5cb0a9dc, 0x76f988da,
  0x983e5152, 0xa831c66d, 0xb00327c8, 0xbf597fc7, 0xc6e00bf3, 0xd5a79147, 0x06ca6351, 0x14292967,
  0x27b70a85, 0x2e1b2138, 0x4d2c6dfc, 0x53380d13, 0x650a7354, 0x766a0abb, 0x81c2c92e, 0x92722c85,
  0xa2bfe8a1, 0xa81a664b, 0xc24b8b70, 0xc76c51a3, 0xd192e819, 0xd6990624, 0xf40e3585, 0x106aa070,
  0x19a4c116, 0x1e376c08, 0x2748774c, 0x34b0bcb5, 0x391c0cb3, 0x4ed8aa4a, 0x5b9cca4f, 0x682e6ff3,
  0x748f82ee, 0x78a5636f, 0x84c87814, 0x8cc70208, 0x90befffa, 0xa4506ceb, 0xbef9a3f7, 0xc67178f2]
theorem kTab_len : kTab.length = 64 := rfl
theorem rounds_next (ws : List W32) (k : Nat) (s r : R8) (h : k < 64) (hl : ws.length = 64) (hr : roundsN kTab ws k s = r) : ∃ kk ww, kTab[k]? = some kk ∧ ws[k]? = some ww ∧ roundsN kTab ws (k + 1) s = rnd kk ww r := by
  obtain ⟨kk, hk⟩ : ∃ kk, kTab[k]? = some kk := ⟨_, List.getElem?_eq_getElem (by rw [kTab_len]; exact h)⟩
  obtain ⟨ww, hw⟩ : ∃ ww, ws[k]? = some ww := ⟨_, List.getElem?_eq_getElem (by rw [hl]; exact h)⟩
  refine ⟨kk, ww, hk, hw, ?_⟩
  rw [roundsN, hr, List.getD_eq_getElem?_getD, List.getD_eq_getElem?_getD, hk, hw]
  rfl
def kStart : R8 := ⟨0x6a09e667, 0xbb67ae85, 0x3c6ef372, 0xa54ff53a, 0x510e527f, 0x9b05688c, 0x1f83d9ab, 0x5be0cd19⟩

def words16 (b : List UInt8) : List W32 := (List.range 16).map fun t => un32l (b.drop (4 * t))
theorem words16_length (b : List UInt8) : (words16 b).length = 16 := by simp [words16]
def mixF (s : R8) (b : List UInt8) : R8 := s.add (roundsN kTab (schedN 48 (words16 b)) 64 s)
def absN : Nat → R8 → List UInt8 → R8
  | 0, s, _ => s
  | n + 1, s, bs => absN n (mixF s (bs.take 64)) (bs.drop 64)
theorem absN_succ (n : Nat) : ∀ (s : R8) (bs : List UInt8), absN (n + 1) s bs = mixF (absN n s bs) ((bs.drop (64 * n)).take 64) := by
  induction n with
  | zero => intro s bs; rfl
  | succ n ih =>
    intro s bs
    rw [absN, ih, absN, List.drop_drop, show 64 + 64 * n = 64 * (n + 1) from by omega]
theorem absN_append (n : Nat) : ∀ (s : R8) (bs xs : List UInt8), 64 * n ≤ bs.length → absN n s (bs ++ xs) = absN n s bs := by
  induction n with
  | zero => intro s bs xs _; rfl
  | succ n ih =>
    intro s bs xs h
    rw [absN, absN, List.take_append_of_le_length (by omega), List.drop_append_of_le_length (by omega), ih _ _ _ (by simp; omega)]
theorem absN_add (m : Nat) : ∀ (n : Nat) (s : R8) (bs : List UInt8), absN (m + n) s bs = absN n (absN m s bs) (bs.drop (64 * m)) := by
  induction m with
  | zero => intro n s bs; simp [absN]
  | succ m ih =>
    intro n s bs
    rw [show m + 1 + n = (m + n) + 1 from by omega, absN, ih, absN, List.drop_drop, show 64 + 64 * m = 64 * (m + 1) from by omega]

def be64 (n : Nat) : List UInt8 := [UInt8.ofNat (n / 2 ^ 56), UInt8.ofNat (n / 2 ^ 48), UInt8.ofNat (n / 2 ^ 40), UInt8.ofNat (n / 2 ^ 32), UInt8.ofNat (n / 2 ^ 24), UInt8.ofNat (n / 2 ^ 16), UInt8.ofNat (n / 2 ^ 8), UInt8.ofNat n]
def tailSize (n : Nat) : Nat := if 64 < n + 9 then 128 else 64
def tailF (rest : List UInt8) (many : Nat) : List UInt8 := rest ++ (128 :: (List.replicate (tailSize rest.length - 9 - rest.length) 0 ++ be64 (many * 8 % 18446744073709551616)))
theorem be64_length (n : Nat) : (be64 n).length = 8 := rfl
theorem tailF_length (rest : List UInt8) (many : Nat) (h : rest.length < 64) : (tailF rest many).length = tailSize rest.length := by
  simp only [tailF, List.length_append, List.length_cons, List.length_replicate, be64_length]
  unfold tailSize
  split <;> omega
def outF (s : R8) : List UInt8 := s.list.flatMap be32
theorem outF_length (s : R8) : (outF s).length = 32 := rfl
def endF (s : R8) (rest : List UInt8) (many : Nat) : List UInt8 := outF (absN (tailSize rest.length / 64) s (tailF rest many))
theorem endF_length (s : R8) (rest : List UInt8) (many : Nat) : (endF s rest many).length = 32 := rfl
def sumF (bs : List UInt8) : List UInt8 := endF (absN (bs.length / 64) kStart bs) (bs.drop (bs.length / 64 * 64)) bs.length
theorem sumF_length (bs : List UInt8) : (sumF bs).length = 32 := rfl

/-! Strict reckoning, for one check. -/
def strict {α : Type} (x : Nat) (k : Nat → α) : α := match x with | 0 => k 0 | n + 1 => k (n + 1)
theorem strict_eq {α : Type} (x : Nat) (k : Nat → α) : strict x k = k x := by cases x <;> rfl
def strictW {α : Type} (x : W32) (k : W32 → α) : α := strict x.toNat fun n => k (BitVec.ofNat 32 n)
theorem strictW_eq {α : Type} (x : W32) (k : W32 → α) : strictW x k = k x := by unfold strictW; rw [strict_eq]; simp
def snocS {α : Type} (l : List W32) (k : List W32 → α) : α := strictW (wNext l) fun x => k (l ++ [x])
def schedS {α : Type} : Nat → List W32 → (List W32 → α) → α
  | 0, l, k => k l
  | n + 1, l, k => schedS n l fun p => snocS p k
theorem schedS_eq {α : Type} (n : Nat) : ∀ (l : List W32) (k : List W32 → α), schedS n l k = k (schedN n l) := by
  induction n with
  | zero => intro l k; rfl
  | succ n ih => intro l k; rw [schedS, ih, snocS, strictW_eq]; rfl
def roundsS {α : Type} (ks ws : List W32) : Nat → R8 → (R8 → α) → α
  | 0, r, k => k r
  | n + 1, r, k => roundsS ks ws n r fun p => strictW (oneS (ks.getD n 0) (ws.getD n 0) p) fun one => strictW (twoS p) fun two => strictW (one + two) fun x => strictW (p.e + one) fun y => k ⟨x, p.a, p.c, p.d, y, p.f, p.g, p.h⟩
theorem roundsS_eq {α : Type} (ks ws : List W32) (n : Nat) : ∀ (r : R8) (k : R8 → α), roundsS ks ws n r k = k (roundsN ks ws n r) := by
  induction n with
  | zero => intro r k; rfl
  | succ n ih => intro r k; rw [roundsS, ih]; simp only [strictW_eq]; rfl
def listS {α : Type} : List W32 → (List W32 → α) → α
  | [], k => k []
  | x :: l, k => strictW x fun y => listS l fun p => k (y :: p)
theorem listS_eq {α : Type} (l : List W32) : ∀ (k : List W32 → α), listS l k = k l := by
  induction l with
  | nil => intro k; rfl
  | cons x l ih => intro k; rw [listS, strictW_eq, ih]
def abcS : List UInt8 := listS (words16 (tailF [97, 98, 99] 3)) fun ws => schedS 48 ws fun ws => roundsS kTab ws 64 kStart fun r => outF (kStart.add r)
theorem sumF_abc : sumF [97, 98, 99] = abcS := by
  unfold abcS
  rw [listS_eq, schedS_eq, roundsS_eq]
  rfl
set_option maxRecDepth 1000000 in
theorem abcS_val : abcS = [0xba, 0x78, 0x16, 0xbf, 0x8f, 0x01, 0xcf, 0xea, 0x41, 0x41, 0x40, 0xde, 0x5d, 0xae, 0x22, 0x23, 0xb0, 0x03, 0x61, 0xa3, 0x96, 0x17, 0x7a, 0x9c, 0xb4, 0x10, 0xff, 0x61, 0xf2, 0x00, 0x15, 0xad] := by decide +kernel
#print axioms abcS_val
end Go.Isth
