/- sha.Text. -/
import Derived.Test.YtcgdojdiihdkeaaDoorBuild
import Derived.Test.YtcgdojdiihdkeaaDoorShaD
import Derived.Lib.SlBytesConst
namespace Go.Proofs.YtcgdojdiihdkeaaDoor
open Go Go.RowKit Go.Isth

def hexL : List UInt8 := [48, 49, 50, 51, 52, 53, 54, 55, 56, 57, 97, 98, 99, 100, 101, 102]
def hexC (n : Nat) : UInt8 := (hexL[n]?).getD 0
def textF (h : List UInt8) : List UInt8 := h.flatMap fun c => [hexC (c.toNat / 16), hexC (c.toNat % 16)]
theorem textF_snoc (l : List UInt8) (c : UInt8) : textF (l ++ [c]) = textF l ++ [hexC (c.toNat / 16), hexC (c.toNat % 16)] := by simp [textF]
theorem textF_length (l : List UInt8) : (textF l).length = 2 * l.length := by
  induction l with
  | nil => rfl
  | cons a l ih => simp only [textF, List.flatMap_cons, List.length_append, List.length_cons, List.length_nil] at ih ⊢; omega

theorem idx_hash (h : List UInt8) (hl : h.length = 32) (k : Nat) (x : UInt8) (hx : h[k]? = some x) : ∀ w : World, (Instr.index 28 (.agg (h.map B).toArray) (.int .i64 k)).run Tryd.prog w = .ok (B x) w := by
  intro w
  have hk : (k : Int) < 32 := by have := (List.getElem?_eq_some_iff.1 hx).1; omega
  have hn : (0 : Int) ≤ (k : Int) ∧ (k : Int) < 32 := by omega
  simp [Instr.index, run_underlying Tryd.underlying28, asIntOf, hn, go_sem, hx]
  omega
theorem bits_and15 (c : UInt8) : bits BinOp.and IntKind.u8 (c.toNat : Int) 15 = ((c.toNat % 16 : Nat) : Int) := by
  have h := and8 c 15
  rw [UInt8.toNat_and, show (15 : UInt8).toNat = 2 ^ 4 - 1 from rfl, Nat.and_two_pow_sub_one_eq_mod] at h
  exact h
abbrev hexA : ByteArray := { data := #[48, 49, 50, 51, 52, 53, 54, 55, 56, 57, 97, 98, 99, 100, 101, 102] }
theorem hex_at (k : Nat) (hk : k < hexA.size) : hexA[k] = hexC k := by
  have h : ∀ i : Fin 16, hexA[i.1]'(i.2) = hexC i.1 := by decide
  exact h ⟨k, hk⟩
theorem textF_step (h : List UInt8) (n : Nat) (c : UInt8) (hc : h[n]? = some c) : Lib.byteCells (textF (h.take (n + 1))) = Lib.byteCells (textF (h.take n)) ++ [B (hexC (c.toNat / 16))] ++ [B (hexC (c.toNat % 16))] := by
  rw [List.take_add_one, hc, Option.toList_some, textF_snoc]; simp [Lib.byteCells]
def TextInv (w : World) (b : Nat) (h : List UInt8) (i : Value) (wr : World) : Prop :=
  ∃ n : Nat, i = .int .i64 n ∧ n ≤ 32 ∧ Lib.IsBuilder 107 5 (w.heap.size + 1) b (Lib.byteCells (textF (h.take n))) wr ∧ Below w.heap.size w wr ∧ w.heap.size + 1 ≤ wr.heap.size
set_option maxRecDepth 100000 in
set_option maxHeartbeats 2000000 in
theorem text_any (h : List UInt8) (hl : h.length = 32) (w : World) :
    Calls Tryd.prog 34 #[HV h] w fun e w' => e = .returned (.string ⟨(textF h).toArray⟩) ∧ Below w.heap.size w w' := by
  go_enter Tryd.func34, Tryd.ntmps34
  have hz : Blk ((w.alloc (Obj.cells (List.map B h).toArray 28)).alloc (Obj.cells #[Value.pointer none, Value.slice none 0 0] 107)) w.heap.size 28 (h.map B) := (Blk_new w _ _).alloc _
  have HL := Lib.hid (show (some 32 : Option Nat) = some (h.map B).length by rw [List.length_map, hl])
  go_wp2_with (refine wpList_load_blk rfl 28 (.tmp 1) rfl w.heap.size rfl 28 _ _ hz Tryd.underlying28 rfl (Eq.trans (by kernel_rfl) HL.out) ?_)
  clear hz
  go_loopw [7] (fun i wr => TextInv w (w.heap.size + 1) h i wr) (fun i _ => 32 - (intOf i).toNat)
  case atStart => exact ⟨0, rfl, Nat.zero_le _, by have h := Lib.fresh_isBuilder 107 5 (w.alloc (Obj.cells (List.map B h).toArray 28)); rw [World.size_alloc] at h; exact h, (((Below.refl w.heap.size w).alloc (Nat.le_refl _) _).alloc (by simp) _), by simp⟩
  case round =>
    obtain ⟨n, rfl, hn, hb, hB, hS⟩ := hrel
    by_cases hlt : n < 32
    · obtain ⟨c, hc⟩ : ∃ c, h[n]? = some c := ⟨_, List.getElem?_eq_getElem (by omega)⟩
      have hix := idx_hash h hl n c hc
      have hq : 0 ≤ (c.toNat : Int) / 16 ∧ (c.toNat : Int) / 16 < 16 := by have := c.toNat_lt; omega
      have H1 := Lib.hid (And.intro hb (And.intro hB (And.intro hS (And.intro hlt hc))))
      have hli : (n : Int) < 32 := by omega
      clear hb hB hS hlt hn hc
      go_wp2_with fail
      rw [hex_at]
      refine (writeByte_any (w.heap.size + 1) _ _ _ _ H1.out.1 (by simp [Lib.byteCells, textF_length]; omega) H1.out.2.2.1).mono ?_
      rintro e w1 ⟨rfl, h1, hb1⟩
      have HB1 := Lib.hid (And.intro h1 (And.intro (H1.out.2.1.trans (hb1.mono (by omega))) (Nat.le_trans H1.out.2.2.1 hb1.size)))
      clear h1 hb1 hq hix
      have hand : bits BinOp.and IntKind.u8 (c.toNat : Int) 15 = ((c.toNat % 16 : Nat) : Int) := bits_and15 c
      have hq : (0 : Int) ≤ ((c.toNat % 16 : Nat) : Int) ∧ ((c.toNat % 16 : Nat) : Int) < 16 := by omega
      go_wp2_with fail
      rw [hex_at]
      refine (writeByte_any (w.heap.size + 1) _ _ _ _ (Or.inr HB1.out.1) (by simp [Lib.byteCells, textF_length]; omega) HB1.out.2.2).mono ?_
      rintro e w2 ⟨rfl, h2, hb2⟩
      rw [← textF_step h n c H1.out.2.2.2.2] at h2
      have HB2 := Lib.hid (And.intro h2 (And.intro (HB1.out.2.1.trans (hb2.mono (by omega))) (Nat.le_trans HB1.out.2.2 hb2.size)))
      clear h2 hb2 hq hand
      go_wp2_with fail
      go_roundw
      case rel => exact ⟨n + 1, by go_num, H1.out.2.2.2.1, Or.inr HB2.out.1, HB2.out.2.1, HB2.out.2.2⟩
      case measure => have := H1.out.2.2.2.1; simp [intOf]; omega
    · obtain rfl : n = 32 := by omega
      rw [List.take_of_length_le (by omega)] at hb
      have H2 := Lib.hid (And.intro hb (And.intro hB hS))
      clear hb hB hS hn hlt
      go_wp2_with fail
      refine (Tryd.Builder_String_any (w.heap.size + 1) _ _ _ H2.out.1 H2.out.2.2).mono ?_
      rintro e w1 ⟨rfl, hb1⟩
      have HB := Lib.hid (H2.out.2.1.trans (hb1.mono (by omega)))
      clear hb1
      go_wp2
      go_ret
      exact ⟨rfl, HB.out⟩

theorem text_abc : (⟨(textF (sumF [97, 98, 99])).toArray⟩ : ByteArray) = { data := #[98, 97, 55, 56, 49, 54, 98, 102, 56, 102, 48, 49, 99, 102, 101, 97, 52, 49, 52, 49, 52, 48, 100, 101, 53, 100, 97, 101, 50, 50, 50, 51, 98, 48, 48, 51, 54, 49, 97, 51, 57, 54, 49, 55, 55, 97, 57, 99, 98, 52, 49, 48, 102, 102, 54, 49, 102, 50, 48, 48, 49, 53, 97, 100] } := by
  rw [sumF_abc, abcS_val]; kernel_rfl
set_option maxRecDepth 100000 in
theorem sure01_any (w : World) (ht : TabLaid w) : Calls Tryd.prog 18 #[] w fun e w' => e = .returned (.bool true) ∧ Below w.heap.size w w' := by
  go_enter Tryd.func18, Tryd.ntmps18
  have HT := Lib.hid ht
  clear ht
  have hcv := Lib.run_convert_bytes_const w 22 5 #[Value.int IntKind.u8 97, Value.int IntKind.u8 98, Value.int IntKind.u8 99] 3 3 Tryd.underlying22 Tryd.underlying5
  have hlen : IntKind.i64.wrap 3 = 3 := by decide
  go_wp2_with fail
  have hr : Rd (w.alloc (Obj.cells #[Value.int IntKind.u8 97, Value.int IntKind.u8 98, Value.int IntKind.u8 99] 5 (3, 4))) (some ⟨w.heap.size, 0, none⟩) (([97, 98, 99] : List UInt8).map B) := fun _ => ⟨_, _, rfl, fun j u hu => by rw [World.cell?_alloc_mark, Nat.zero_add]; show (#[B 97, B 98, B 99] : Array Value)[j]? = some u; simpa using hu⟩
  have hb0 : Below w.heap.size w (w.alloc (Obj.cells #[Value.int IntKind.u8 97, Value.int IntKind.u8 98, Value.int IntKind.u8 99] 5 (3, 4))) := (Below.refl _ _).alloc (Nat.le_refl _) _
  refine (sum_any _ 3 [97, 98, 99] _ (by decide) (by decide) hr (HT.out.below hb0 HT.out.lt)).mono ?_
  rintro e w1 ⟨rfl, hb1⟩
  have HB := Lib.hid (below_then hb0 hb0.size hb1)
  clear hr hb0 hb1 hcv
  go_wp2_with fail
  refine (text_any _ (sumF_length _) _).mono ?_
  rintro e w2 ⟨rfl, hb2⟩
  have HB2 := Lib.hid (below_then HB.out HB.out.size hb2)
  rw [text_abc]
  clear hb2 HB
  go_wp2
  go_ret
  exact ⟨rfl, HB2.out⟩
#print axioms sure01_any
end Go.Proofs.YtcgdojdiihdkeaaDoor
