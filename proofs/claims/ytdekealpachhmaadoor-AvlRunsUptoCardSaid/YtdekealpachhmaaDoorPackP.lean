/- Layer 2, plain: a number's bytes; what a writer's call does to the world. -/
import Derived.Test.YtdekealpachhmaaDoorMem
import Derived.Lib.Hide
import Derived.RangeFuncBox
import Derived.Lib.ConvBytes
namespace Go.Isth
open Go Go.RowKit

/-- A number's bytes: groups of seven bits, the lowest first, the mark on all but the last. -/
def varint (n : Nat) : List UInt8 := if h : n < 128 then [UInt8.ofNat n] else UInt8.ofNat (n % 128 + 128) :: varint (n / 128)
termination_by n
decreasing_by omega

theorem varint_small {n : Nat} (h : n < 128) : varint n = [UInt8.ofNat n] := by rw [varint]; simp [h]
theorem varint_great {n : Nat} (h : ¬ n < 128) : varint n = UInt8.ofNat (n % 128 + 128) :: varint (n / 128) := by rw [varint]; simp [h]
theorem varint_pos (n : Nat) : 0 < (varint n).length := by
  by_cases h : n < 128
  · rw [varint_small h]; simp
  · rw [varint_great h]; simp
theorem varint_len (n k : Nat) (h : n < 128 ^ (k + 1)) : (varint n).length ≤ k + 1 := by
  induction k generalizing n with
  | zero => rw [varint_small (by omega)]; simp
  | succ k ih =>
    by_cases h' : n < 128
    · rw [varint_small h']; simp
    · rw [varint_great h']
      simp only [List.length_cons]
      have := ih (n / 128) (by rw [Nat.div_lt_iff_lt_mul (by omega), ← Nat.pow_succ]; exact h)
      omega
theorem varint_len10 (n : Nat) (h : n < 18446744073709551616) : (varint n).length ≤ 10 := varint_len n 9 (by omega)

theorem B_ofNat {n : Nat} (h : n < 256) : B (UInt8.ofNat n) = .int .u8 (n : Int) := by
  unfold B
  rw [show (UInt8.ofNat n).toNat = n from by simp [Nat.mod_eq_of_lt h]]

theorem low_or (n : Nat) : bits .or .u8 (IntKind.u8.wrap (n : Int)) 128 = ((n % 128 + 128 : Nat) : Int) := by
  have hw : IntKind.u8.wrap (n : Int) = (((UInt8.ofNat n).toNat : Nat) : Int) := by
    have h1 : (UInt8.ofNat n).toNat = n % 256 := by simp
    rw [h1]
    simp only [IntKind.wrap, IntKind.bits, IntKind.signed, Bool.false_and, Bool.false_eq_true, if_false]
    omega
  rw [hw, show (128 : Int) = (((128 : UInt8).toNat : Nat) : Int) from rfl, or8]
  congr 1
  rw [UInt8.toNat_or]
  have h1 : (UInt8.ofNat n).toNat = n % 256 := by simp
  rw [h1, show (128 : UInt8).toNat = 128 from rfl]
  have hlt : n % 256 < 256 := Nat.mod_lt _ (by omega)
  have h2 : n % 128 = (n % 256) % 128 := by omega
  rw [h2]
  generalize n % 256 = m at hlt
  have key : ∀ m : Fin 256, m.val ||| 128 = m.val % 128 + 128 := by decide +kernel
  exact key ⟨m, hlt⟩

theorem low_B (n : Nat) : B (UInt8.ofNat (n % 128 + 128)) = .int .u8 (bits .or .u8 ((n : Int) % 256) 128) := by
  rw [B_ofNat (by omega), ← low_or n, show IntKind.u8.wrap (n : Int) = (n : Int) % 256 from by simp only [IntKind.wrap, IntKind.bits, IntKind.signed, Bool.false_and, Bool.false_eq_true, if_false]; omega]
theorem one_cell1 {x : Value} (h : x.oneCell' = true) : ∀ u ∈ [x], u.oneCell' = true := by
  intro u hu
  rw [List.mem_singleton] at hu
  rw [hu]; exact h

/-- 'x | y', its value given. -/
theorem wpList_or {P : Program} {w : World} {ops : Array Oper} {rest : List Oper} {o : Oper} {a : Act} {Q : Exit → Act → World → Prop} {t : TypeId} {u : TypeId} {k : IntKind}
    (hgd : o.guard = none) (x y : Operand) (ho : o.op = .binOp .or t x y u) (m n z : Int) (hx : a.eval x = .int k m) (hy : a.eval y = .int k n) (hz : bits .or k m n = z)
    (h : wpList P ops Q rest (a.put o.dst (.int k z)) w) : wpList P ops Q (o :: rest) a w := by
  refine wpList_plain hgd fun K hK => ?_
  unfold Oper.wp execOp
  subst hz
  simp [ho, hx, hy, eqGuard, binOp, Op.intBits, Oper.upon]
  exact hK _ _ h

/-- What a writer's call does: its own block b, its row v, new blocks. -/
structure WExt (w w' : World) (b : Nat) (v v' : Value) : Prop where
  os : w'.os = w.os
  tape : w'.tape = w.tape
  output : w'.output = w.output
  size : w.heap.size ≤ w'.heap.size
  block : ∀ k, k < w.heap.size → k ≠ b → v.ownBlock ≠ some k → w'.heap[k]? = w.heap[k]?
  same : v'.ownBlock = v.ownBlock ∨ ∀ k, v'.ownBlock = some k → w.heap.size ≤ k

theorem WExt.refl (w : World) (b : Nat) (v : Value) : WExt w w b v v := ⟨rfl, rfl, rfl, Nat.le_refl _, fun _ _ _ _ => rfl, .inl rfl⟩
theorem WExt.trans {w w1 w2 : World} {b : Nat} {v v1 v2 : Value} (h : WExt w w1 b v v1) (k : WExt w1 w2 b v1 v2) : WExt w w2 b v v2 := by
  refine ⟨k.os.trans h.os, k.tape.trans h.tape, k.output.trans h.output, Nat.le_trans h.size k.size, fun i hi hb hv => ?_, ?_⟩
  · rw [k.block i (Nat.lt_of_lt_of_le hi h.size) hb ?_, h.block i hi hb hv]
    rcases h.same with e | e
    · rwa [e]
    · intro e'; have := e i e'; omega
  · rcases k.same with e | e
    · rcases h.same with e' | e'
      · exact .inl (e.trans e')
      · exact .inr fun b hb => e' b (e ▸ hb)
    · exact .inr fun b hb => Nat.le_trans h.size (e b hb)
theorem WExt.of_ext {w w' : World} {v v' : Value} (h : Ext w w' v v') (b : Nat) : WExt w w' b v v' :=
  ⟨h.grown.os, h.grown.tape, h.grown.output, h.grown.size, fun k hk _ hv => h.grown.block k hk (fun e => hv e.symm), h.same⟩
theorem WExt.of_below {w w' : World} (h : Below w.heap.size w w') (b : Nat) (v : Value) : WExt w w' b v v :=
  WExt.of_ext (Ext.of_below h v) b
theorem WExt.drewN {w w' : World} {b : Nat} {v v' : Value} (h : WExt w w' b v v') (n : Nat) : WExt w (w'.drewN n) b v v' := ⟨h.os, h.tape, h.output, h.size, h.block, h.same⟩
theorem WExt.below {w w' : World} {b : Nat} {v v' : Value} (h : WExt w w' b v v') {base : Nat} (hb : base ≤ b) (hB : base ≤ w.heap.size) (hv : ∀ k, v.ownBlock = some k → base ≤ k) : Below base w w' :=
  ⟨h.os, h.tape, h.output, h.size, fun k hk => h.block k (Nat.lt_of_lt_of_le hk hB) (by omega) (fun e => by have := hv k e; omega)⟩

/-- The writer's block: one slice, which is a row of its own. -/
structure WriterIs (tW tb : TypeId) (w : World) (base b : Nat) (v : Value) (bs : List UInt8) : Prop where
  cell : w.heap[b]? = some (.cells #[v] tW (0, 0))
  at_ : base ≤ b
  own : w.ownsRow base tb 1 v bs.length (bs.map B)
  small : base ≤ w.heap.size

theorem WriterIs.lt {tW tb : TypeId} {w : World} {base b : Nat} {v : Value} {bs : List UInt8} (h : WriterIs tW tb w base b v bs) : b < w.heap.size := (Array.getElem?_eq_some_iff.1 h.cell).1
theorem WriterIs.ne {tW tb : TypeId} (hne : tb ≠ tW) {w : World} {base b : Nat} {v : Value} {bs : List UInt8} (h : WriterIs tW tb w base b v bs) : v.ownBlock ≠ some b := by
  rcases h.own.2 with ⟨rfl, _⟩ | ⟨g, cap, cur, rfl, _, hh, _⟩
  · simp [Value.ownBlock]
  · intro e
    have : g = b := by simpa [Value.ownBlock] using e
    subst this
    rw [h.cell] at hh
    injection hh with hh
    injection hh with _ h2 _
    exact hne h2.symm
theorem WriterIs.below {tW tb : TypeId} {w w' : World} {base b : Nat} {v : Value} {bs : List UInt8} (h : WriterIs tW tb w base b v bs) (hb : Below w.heap.size w w') : WriterIs tW tb w' base b v bs :=
  ⟨by rw [hb.block b h.lt]; exact h.cell, h.at_, own_below h.own hb, Nat.le_trans h.small hb.size⟩
theorem WriterIs.alloc {tW tb : TypeId} {w : World} {base b : Nat} {v : Value} {bs : List UInt8} (h : WriterIs tW tb w base b v bs) (o : Obj) : WriterIs tW tb (w.alloc o) base b v bs :=
  h.below ((Below.refl _ _).alloc (Nat.le_refl _) o)
theorem WriterIs.drewN {tW tb : TypeId} {w : World} {base b : Nat} {v : Value} {bs : List UInt8} (h : WriterIs tW tb w base b v bs) (n : Nat) : WriterIs tW tb (w.drewN n) base b v bs := h.below (refl_drewN w n)
theorem WriterIs.ext {tW tb : TypeId} {w w' : World} {base b : Nat} {v u u' : Value} {bs : List UInt8} (h : WriterIs tW tb w base b v bs) (hx : Ext w w' u u') (hu : u.ownBlock ≠ some b) (huv : u.ownBlock = none ∨ u.ownBlock ≠ v.ownBlock) : WriterIs tW tb w' base b v bs :=
  ⟨by rw [hx.grown.block b h.lt (fun e => hu e.symm)]; exact h.cell, h.at_, h.own.kept hx.grown (huv.elim (fun e => by rw [e]; cases v.ownBlock <;> simp) (fun e => .inr (fun e' => e e'.symm))), Nat.le_trans h.small hx.size⟩

/-- An append to the writer's row, stored into its block. -/
theorem writer_put {tW tb : TypeId} (hne : tb ≠ tW) {w w1 w2 : World} {base b : Nat} {v v' : Value} {bs cs : List UInt8} (h : WriterIs tW tb w base b v bs) (ho : w1.ownsRow base tb 1 v' cs.length (cs.map B)) (hx : Ext w w1 v v')
    (h2 : w2.heap[b]? = some (.cells #[v'] tW (0, 0))) (hg : w1.grownBy w2 (some b)) : WriterIs tW tb w2 base b v' cs ∧ WExt w w2 b v v' := by
  have hvb := h.ne hne
  have hb := h.lt
  refine ⟨⟨h2, h.at_, ho.kept hg ?_, Nat.le_trans h.small (Nat.le_trans hx.size hg.size)⟩, ?_⟩
  · right
    rcases hx.same with e | e
    · rw [e]; exact hvb
    · intro e'; have := e b e'; omega
  · exact ⟨hg.os.trans hx.grown.os, hg.tape.trans hx.grown.tape, hg.output.trans hx.grown.output, Nat.le_trans hx.size hg.size, fun k hk hkb hv => by
      rw [hg.block k (Nat.lt_of_lt_of_le hk hx.size) (by simpa using hkb), hx.grown.block k hk (fun e => hv e.symm)], hx.same⟩
theorem WriterIs.boxed {tW tb : TypeId} {w : World} {base b : Nat} {v : Value} {bs : List UInt8} (h : WriterIs tW tb w base b v bs) : Boxed w b tW v := h.cell
theorem WriterIs.boxed_ext {tW tb : TypeId} (hne : tb ≠ tW) {w w1 : World} {base b : Nat} {v v' : Value} {bs : List UInt8} (h : WriterIs tW tb w base b v bs) (hx : Ext w w1 v v') : Boxed w1 b tW v :=
  h.boxed.kept hx.grown (fun e => h.ne hne e.symm)
theorem writer_set {tW tb : TypeId} (hne : tb ≠ tW) {w w1 : World} {base b : Nat} {v v' : Value} {bs : List UInt8} (cs : List UInt8) {n : Nat} {xs : List Value} (h : WriterIs tW tb w base b v bs) (ho : w1.ownsRow base tb 1 v' n xs) (hn : n = cs.length) (hxs : xs = cs.map B) (hx : Ext w w1 v v') :
    WriterIs tW tb (w1.setCell ⟨b, 0, none⟩ v') base b v' cs ∧ WExt w (w1.setCell ⟨b, 0, none⟩ v') b v v' := by
  subst hn; subst hxs
  exact writer_put hne h ho hx ((h.boxed_ext hne hx).set v') (grownBy_setCell' w1 b v')
theorem WExt.rd {w w' : World} {b : Nat} {v v' : Value} (h : WExt w w' b v v') {A : Option Addr} {xs : List Value} (hr : Rd w A xs) (hne : ∀ ad, A = some ad → ad.block ≠ b ∧ v.ownBlock ≠ some ad.block) : Rd w' A xs :=
  hr.of_block fun ad e hlt => h.block _ hlt (hne ad e).1 (hne ad e).2
theorem u64_nat {n : Nat} (h : n < 18446744073709551616) : IntKind.u64.wrap (n : Int) = (n : Int) := by
  simp only [IntKind.wrap, IntKind.bits, IntKind.signed, Bool.false_and, Bool.false_eq_true, if_false]
  omega
/-- '[]byte(s)' -/
theorem run_text {P : Program} {src dst e : TypeId} (hs : P.underlying src = some .string) (hd : P.underlying dst = some (.slice e)) (he : P.underlying e = some (.int .u8)) (s : ByteArray) (w : World) :
    ∃ c w1, (convert src dst (.string s)).run P w = .ok (.slice (some ⟨w.heap.size, 0, none⟩) s.data.toList.length c) w1 ∧ s.data.toList.length ≤ c ∧ Rd w1 (some ⟨w.heap.size, 0, none⟩) (s.data.toList.map B) ∧ Below w.heap.size w w1 ∧ w1.heap.size = w.heap.size + 1 := by
  refine ⟨_, _, Lib.run_convert_string_bytes w src dst e s hs hd he, ?_, fun _ => ⟨_, _, rfl, fun j u hu => ?_⟩, ⟨rfl, rfl, rfl, by rw [Lib.bytesWorld_size]; omega, fun j hj => Lib.bytesWorld_at_old w e s j hj⟩, Lib.bytesWorld_size w e s⟩
  · have := grownCap_ge w s.size 0 e
    simpa using this
  · have hj : j < s.data.toList.length := by have := (List.getElem?_eq_some_iff.1 hu).1; simpa using this
    rw [Nat.zero_add, Lib.bytesWorld_cell w e s j (by simpa using hj), ← hu]
    have hj' : j < s.data.size := by simpa using hj
    have e : s.data[j]? = some s.data[j] := Array.getElem?_eq_getElem hj'
    simp [List.getD, e]

/-- A number's place: 0, -1, 1, -2, .. -/
def zig (n : Int) : Nat := if 0 ≤ n then (2 * n).toNat else (-2 * n - 1).toNat
theorem zig_lt {n : Int} (h0 : -9223372036854775808 ≤ n) (h1 : n < 9223372036854775808) : zig n < 18446744073709551616 := by
  unfold zig
  split <;> omega
theorem zig_run {n : Int} (h0 : -9223372036854775808 ≤ n) (h1 : n < 9223372036854775808) : bits .xor .u64 (IntKind.u64.wrap (IntKind.u64.wrap n * 2)) (IntKind.u64.wrap (n / 9223372036854775808)) = ((zig n : Nat) : Int) := by
  by_cases h : 0 ≤ n
  · have e1 : IntKind.u64.wrap (IntKind.u64.wrap n * 2) = (((BitVec.ofNat 64 (2 * n).toNat).toNat : Nat) : Int) := by
      simp only [IntKind.wrap, IntKind.bits, IntKind.signed, Bool.false_and, Bool.false_eq_true, if_false, BitVec.toNat_ofNat]
      omega
    have e2 : IntKind.u64.wrap (n / 9223372036854775808) = (((0#64).toNat : Nat) : Int) := by
      simp only [IntKind.wrap, IntKind.bits, IntKind.signed, Bool.false_and, Bool.false_eq_true, if_false, BitVec.toNat_ofNat]
      omega
    rw [e1, e2, xor64, BitVec.xor_zero, BitVec.toNat_ofNat]
    unfold zig
    rw [if_pos h]
    omega
  · have e1 : IntKind.u64.wrap (IntKind.u64.wrap n * 2) = (((BitVec.ofNat 64 (18446744073709551616 + 2 * n).toNat).toNat : Nat) : Int) := by
      simp only [IntKind.wrap, IntKind.bits, IntKind.signed, Bool.false_and, Bool.false_eq_true, if_false, BitVec.toNat_ofNat]
      omega
    have e2 : IntKind.u64.wrap (n / 9223372036854775808) = (((BitVec.allOnes 64).toNat : Nat) : Int) := by
      rw [BitVec.toNat_allOnes]
      simp only [IntKind.wrap, IntKind.bits, IntKind.signed, Bool.false_and, Bool.false_eq_true, if_false]
      omega
    rw [e1, e2, xor64, BitVec.xor_allOnes, BitVec.toNat_not, BitVec.toNat_ofNat]
    unfold zig
    rw [if_neg h]
    omega
#print axioms writer_put
end Go.Isth
