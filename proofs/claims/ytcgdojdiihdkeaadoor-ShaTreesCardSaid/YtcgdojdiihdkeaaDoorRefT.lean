/- Layer 1's reference: Text by its contract. -/
import Derived.Test.YtcgdojdiihdkeaaDoorText
import Derived.Test.YtcgdojdiihdkeaaDoorBlk
namespace Go.Proofs.YtcgdojdiihdkeaaDoor
open Go Go.RowKit Go.Isth

def Y32 : List UInt8 := List.replicate 32 0
theorem hex_cut (k : Nat) (hk : k < 16) : hexA.extract k (k + 1) = ⟨#[hexC k]⟩ := by
  have h : ∀ i : Fin 16, hexA.extract i.1 (i.1 + 1) = ⟨#[hexC i.1]⟩ := by decide
  exact h ⟨k, hk⟩
theorem str_two (l : List UInt8) (x y : UInt8) : ((⟨l.toArray⟩ : ByteArray) ++ ⟨#[x]⟩) ++ ⟨#[y]⟩ = ⟨(l ++ [x, y]).toArray⟩ := by
  apply ByteArray.ext
  simp [ByteArray.data_append]
theorem u8_small (x : Nat) (h : x < 256) : IntKind.u8.wrap (x : Int) = (x : Int) := by
  simp only [IntKind.wrap, IntKind.bits, IntKind.signed, Bool.false_and, Bool.false_eq_true, if_false]; omega
theorem u8_next (x : Nat) (h : x < 255) : IntKind.u8.wrap ((x : Int) + 1) = (x : Int) + 1 := by
  simp only [IntKind.wrap, IntKind.bits, IntKind.signed, Bool.false_and, Bool.false_eq_true, if_false]; omega
theorem run_hex (x : Nat) (hx : x < 16) (sx : ByteArray) (hsx : sx = ⟨#[hexC x]⟩) (w : World) :
    (Instr.slice 9 (.string { data := #[48, 49, 50, 51, 52, 53, 54, 55, 56, 57, 97, 98, 99, 100, 101, 102] }) (some (.int .u8 (x : Int))) (some (.int .u8 ((x : Int) + 1))) none).run Tryd.prog w = .ok (.string sx) w := by
  subst hsx
  have hs : hexA.size = 16 := by decide
  have h := run_slice_string (P := Tryd.prog) w 9 hexA .u8 .u8 (x : Int) ((x : Int) + 1) Tryd.underlying9 (by omega) (by omega) (by rw [hs]; omega)
  rw [show ((x : Int) + 1).toNat = x + 1 by omega, show ((x : Int)).toNat = x by omega, hex_cut x hx] at h
  exact h
def RTextInv (w0 : World) (h : List UInt8) (v3 v4 : Value) (wr : World) : Prop :=
  ∃ k : Nat, k ≤ 32 ∧ v4 = .int .i64 (k : Nat) ∧ (∃ sv : ByteArray, v3 = .string sv ∧ sv = ⟨(textF (h.take k)).toArray⟩ ∧ sv.size = 2 * k) ∧ Below w0.heap.size w0 wr
set_option maxRecDepth 100000 in
set_option maxHeartbeats 1000000 in
theorem rtext01_any (csh : List Value) (h : List UInt8) (w : World) (hcs : csh = h.map B) (hh : h.length = 32) :
    Calls Tryd.prog 35 #[.agg csh.toArray] w fun e w' => e = .returned (.string ⟨(textF h).toArray⟩) ∧ Below w.heap.size w w' := by
  have HT := Lib.hid (And.intro hcs hh)
  clear hcs hh
  go_enter Tryd.func35, Tryd.ntmps35
  have hz0 := Blk_new w csh 28
  have hb0 := (Below.refl w.heap.size w).alloc (Nat.le_refl _) (.cells csh.toArray 28)
  go_upto_region 1 with fail
  change Code.wp _ _ _ _ (w.alloc (.cells csh.toArray 28))
  generalize w.alloc (.cells csh.toArray 28) = w0 at *
  have H0 := Lib.hid (And.intro hz0 hb0)
  clear hz0 hb0
  go_wp2_with fail
  go_loopw [3, 4] (fun v3 v4 wr => RTextInv w0 h v3 v4 wr) (fun _ v4 _ => 32 - (intOf v4).toNat)
  case atStart => exact ⟨0, Nat.zero_le _, rfl, ⟨_, rfl, rfl, rfl⟩, Below.refl _ _⟩
  case round =>
    obtain ⟨k, hk, rfl, ⟨sv, rfl, hsv, hsz⟩, hB⟩ := hrel
    by_cases hlt : k < 32
    · obtain ⟨c, hc⟩ : ∃ c, h[k]? = some c := ⟨_, List.getElem?_eq_getElem (by have := HT.out.2; omega)⟩
      have hcell := (H0.out.1.below hB).cellD k (B c) (by rw [HT.out.1, List.getElem?_map, hc]; rfl)
      have HS := Lib.hid (And.intro hB hc)
      have hx1 : (c.toNat : Int).tdiv 16 = ((c.toNat / 16 : Nat) : Int) := by rw [Int.tdiv_eq_ediv_of_nonneg (by omega)]; rfl
      have hx2 : (c.toNat : Int).tmod 16 = ((c.toNat % 16 : Nat) : Int) := by rw [Int.tmod_eq_emod_of_nonneg (by omega)]; rfl
      have hx : c.toNat / 16 < 16 ∧ c.toNat % 16 < 16 := by have := c.toNat_lt; omega
      have hst : textF (h.take (k + 1)) = textF (h.take k) ++ [hexC (c.toNat / 16), hexC (c.toNat % 16)] := by rw [List.take_add_one, hc, Option.toList_some, textF_snoc]
      obtain ⟨sx, hsx⟩ : ∃ s : ByteArray, s = ⟨#[hexC (c.toNat / 16)]⟩ := ⟨_, rfl⟩
      obtain ⟨sy, hsy⟩ : ∃ s : ByteArray, s = ⟨#[hexC (c.toNat % 16)]⟩ := ⟨_, rfl⟩
      have hc1 := run_hex (c.toNat / 16) hx.1 sx hsx
      have hc2 := run_hex (c.toNat % 16) hx.2 sy hsy
      have hz1 : sv.size + sx.size ≤ 9223372036854775807 := by rw [hsz, hsx]; show 2 * k + 1 ≤ _; omega
      have hz2 : (sv ++ sx).size + sy.size ≤ 9223372036854775807 := by rw [ByteArray.size_append, hsz, hsx, hsy]; show 2 * k + 1 + 1 ≤ _; omega
      have hc3 := u8_small (c.toNat / 16) (by omega)
      have hc4 := u8_small (c.toNat % 16) (by omega)
      have hc5 := u8_next (c.toNat / 16) (by omega)
      have hc6 := u8_next (c.toNat % 16) (by omega)
      generalize c.toNat / 16 = x at *
      generalize c.toNat % 16 = y at *
      obtain ⟨hxl, hyl⟩ := hx
      have HST := Lib.hid (And.intro hst (And.intro hsv (And.intro hsx (And.intro hsy hsz))))
      clear hB hc hst hsv hsx hsy hsz
      go_wp2_with fail
      go_quiet (fail)
      go_wp2_with fail
      go_roundw
      case rel =>
        refine ⟨k + 1, hlt, by go_num, ⟨_, rfl, ?_, ?_⟩, below_drewN HS.out.1 _⟩
        · rw [HST.out.1, HST.out.2.1, HST.out.2.2.1, HST.out.2.2.2.1, str_two]
        · rw [ByteArray.size_append, ByteArray.size_append, HST.out.2.2.2.2, HST.out.2.2.1, HST.out.2.2.2.1]; show 2 * k + 1 + 1 = _; omega
      case measure => simp [intOf]; omega
    · obtain rfl : k = 32 := by omega
      rw [List.take_of_length_le (by rw [HT.out.2]; omega)] at hsv
      have HS := Lib.hid (And.intro (below_then H0.out.2 H0.out.2.size hB) hsv)
      clear hB hsv hsz
      go_wp2_with fail
      go_ret
      exact ⟨by rw [HS.out.2]; rfl, HS.out.1⟩
end Go.Proofs.YtcgdojdiihdkeaaDoor
