/- Layer 1: the block function by its contract. -/
import Derived.Test.YtdekealpachhmaaDoorProg
import Derived.Test.YtdekealpachhmaaDoorShaP
import Derived.Test.YtdekealpachhmaaDoorBlk
import Derived.Outline
import Derived.BigQuiet
import Derived.BigRegion
import Derived.Deep.QuietTactic
import Derived.Deep.RegionHeld3
import Derived.StillTailTactics
import Derived.IntWalk
import Derived.Deep.CutRange
namespace Go.Proofs.YtdekealpachhmaaDoor
open Go Go.RowKit Go.Isth

theorem and31 (m : Nat) (h0 : 0 < m) (h1 : m < 32) : bits .and .u64 (IntKind.u64.wrap (-(m : Int))) 31 = ((32 - m : Nat) : Int) := by
  have e1 : IntKind.u64.wrap (-(m : Int)) = (((BitVec.ofNat 64 (18446744073709551616 - m)).toNat : Nat) : Int) := by
    rw [BitVec.toNat_ofNat]
    simp only [IntKind.wrap, IntKind.bits, IntKind.signed, Bool.false_and, Bool.false_eq_true, if_false]
    omega
  rw [e1, show (31 : Int) = (((31#64).toNat : Nat) : Int) from rfl, and64, BitVec.toNat_and, BitVec.toNat_ofNat, show (31#64).toNat = 2 ^ 5 - 1 from rfl, Nat.and_two_pow_sub_one_eq_mod]
  omega

theorem rot_any (x : W32) (k : Int) (m : Nat) (w : World) (hk : k = -(m : Int)) (h0 : 0 < m) (h1 : m < 32) :
    Calls Tryd.prog 101 #[U x, .int .i64 k] w fun e w' => e = .returned (U (rotr x m)) ∧ w = w' := by
  subst hk
  have hand := and31 m h0 h1
  have hb : ((32 - m : Nat) : Int) ≤ 31 := by omega
  go_enter Tryd.func101, Tryd.ntmps101
  go_wp2
  go_ret
  refine ⟨congrArg (fun z => Ending.returned (.int .u32 z)) ?_, rfl⟩
  rw [shl32, show (2 : Int) ^ (32 - (32 - m)) = 2 ^ m from by rw [show 32 - (32 - m) = m from by omega], shr32, or32]
  rfl

theorem wrap_u32_in (n : Int) (h0 : 0 ≤ n) (h1 : n < 4294967296) : IntKind.u32.wrap n = n := by
  simp only [IntKind.wrap, IntKind.bits, IntKind.signed, Bool.false_and, Bool.false_eq_true, if_false]
  omega
theorem wrap_u32_byte (x : UInt8) : IntKind.u32.wrap (x.toNat : Int) = (x.toNat : Int) := by
  have := x.toNat_lt
  exact wrap_u32_in _ (by omega) (by omega)
def rotK (x : W32) (k : Int) : W32 := rotr x (-k).toNat
theorem rotK_any (x : W32) (k : Int) (w : World) (h0 : -32 < k) (h1 : k < 0) :
    Calls Tryd.prog 101 #[U x, .int .i64 k] w fun e w' => e = .returned (U (rotK x k)) ∧ w = w' :=
  rot_any x k (-k).toNat w (by omega) (by omega) (by omega)

theorem rotK_q (x : W32) (k : Int) (w : World) (h0 : -32 < k) (h1 : k < 0) :
    Calls Tryd.prog 101 #[U x, .int .i64 k] w fun e w' => e = .returned (U (rotK x k)) ∧ w' = w :=
  (rotK_any x k w h0 h1).mono fun _ _ h => ⟨h.1, h.2.symm⟩
/-- The words as they lie in the block's own row. -/
def wcells (ws : List W32) : List Value := ws.map U ++ List.replicate (64 - ws.length) (.int .u32 0)
theorem wcells_length (ws : List W32) (h : ws.length ≤ 64) : (wcells ws).length = 64 := by simp [wcells]; omega
theorem wcells_at (ws : List W32) (j : Nat) (h : j < ws.length) : (wcells ws)[j]? = some (U ws[j]) := by
  unfold wcells
  rw [List.getElem?_append_left (by simpa using h)]
  simp [h]
theorem wcells_at' (ws : List W32) (j : Nat) (v : W32) (h : ws[j]? = some v) : (wcells ws)[j]? = some (U v) := by
  obtain ⟨hj, rfl⟩ := List.getElem?_eq_some_iff.1 h
  exact wcells_at ws j hj
theorem wcells_set (ws : List W32) (x : W32) (h : ws.length < 64) : (wcells ws).set ws.length (U x) = wcells (ws ++ [x]) := by
  unfold wcells
  rw [List.set_append_right _ _ (by simp), List.length_map, Nat.sub_self, show 64 - ws.length = (63 - ws.length) + 1 from by omega, List.replicate_succ, List.set_cons_zero]
  simp only [List.map_append, List.map_cons, List.map_nil, List.append_assoc, List.cons_append, List.nil_append, List.length_append, List.length_cons, List.length_nil]
  rw [show 64 - (ws.length + (0 + 1)) = 63 - ws.length from by omega]
theorem words16_take (b : List UInt8) (k : Nat) (h : k < 16) (hb : b.length = 64) : (words16 b).take (k + 1) = (words16 b).take k ++ [un32 b[4 * k] b[4 * k + 1] b[4 * k + 2] b[4 * k + 3]] := by
  rw [List.take_succ_eq_append_getElem (by rw [words16_length]; exact h)]
  congr 1
  have hg : ∀ j (hj : j < 4), (b.drop (4 * k)).getD j 0 = b[4 * k + j]'(by omega) := fun j hj => by
    rw [List.getD_eq_getElem?_getD, List.getElem?_drop, List.getElem?_eq_getElem (by omega)]; rfl
  simp only [words16, List.getElem_map, List.getElem_range, un32l]
  rw [hg 0 (by omega), hg 1 (by omega), hg 2 (by omega), hg 3 (by omega)]
  rfl

/-- The rounds' words as they are laid. -/
def TabLaid (w : World) : Prop := ∀ j v, kTab[j]? = some v → w.cell? ⟨1, j, none⟩ = some (U v)
theorem TabLaid.lt {w : World} (h : TabLaid w) : 1 < w.heap.size := World.block_lt_of_cell? w _ (h 0 _ rfl)
theorem TabLaid.below {w w' : World} {B : Nat} (h : TabLaid w) (hb : Below B w w') (hB : 1 < B) : TabLaid w' := fun j v hj => (hb.cell (p := ⟨1, j, none⟩) hB).trans (h j v hj)

theorem wadd (x y : W32) : IntKind.u32.wrap ((x.toNat : Int) + (y.toNat : Int)) = ((x + y).toNat : Int) := by
  rw [← add32]
  simp only [IntKind.wrap, IntKind.bits, IntKind.signed, Bool.false_and, Bool.false_eq_true, if_false]
  omega
theorem low_val (x : W32) : bits .xor .u32 (bits .xor .u32 ((rotK x (-7)).toNat : Int) ((rotK x (-18)).toNat : Int)) ((x.toNat : Int) / 8) = ((lowS x).toNat : Int) := by
  rw [show (x.toNat : Int) / (8 : Int) = ((x >>> 3).toNat : Int) from shr32 x 3, xor32, xor32]; rfl
theorem high_val (x : W32) : bits .xor .u32 (bits .xor .u32 ((rotK x (-17)).toNat : Int) ((rotK x (-19)).toNat : Int)) ((x.toNat : Int) / 1024) = ((highS x).toNat : Int) := by
  rw [show (x.toNat : Int) / (1024 : Int) = ((x >>> 10).toNat : Int) from shr32 x 10, xor32, xor32]; rfl
theorem sched_next (l : List W32) (k : Nat) (hk : 16 ≤ k) (hl : l.length = k) : wNext l = l[k - 16] + lowS l[k - 15] + l[k - 7] + highS l[k - 2] := by
  unfold wNext
  simp only [hl, List.getD_eq_getElem?_getD]
  rw [List.getElem?_eq_getElem (by omega), List.getElem?_eq_getElem (by omega), List.getElem?_eq_getElem (by omega), List.getElem?_eq_getElem (by omega)]
  rfl

theorem one_val (a c d e f g h i k x : W32) : ((((i.toNat : Int) + ((rotK f (-6) ^^^ rotK f (-11) ^^^ rotK f (-25)).toNat : Int) + (((f &&& g) ^^^ (~~~ f &&& h)).toNat : Int) + (k.toNat : Int)) % 4294967296 + (x.toNat : Int)) % 4294967296) = ((oneS k x ⟨a, c, d, e, f, g, h, i⟩).toNat : Int) := by
  have e1 := add32 i ((rotK f (-6) ^^^ rotK f (-11)) ^^^ rotK f (-25))
  have e2 := add32 (i + ((rotK f (-6) ^^^ rotK f (-11)) ^^^ rotK f (-25))) ((f &&& g) ^^^ (~~~ f &&& h))
  have e3 := add32 (i + ((rotK f (-6) ^^^ rotK f (-11)) ^^^ rotK f (-25)) + ((f &&& g) ^^^ (~~~ f &&& h))) k
  have e4 := add32 (i + ((rotK f (-6) ^^^ rotK f (-11)) ^^^ rotK f (-25)) + ((f &&& g) ^^^ (~~~ f &&& h)) + k) x
  have e5 : oneS k x ⟨a, c, d, e, f, g, h, i⟩ = i + ((rotK f (-6) ^^^ rotK f (-11)) ^^^ rotK f (-25)) + ((f &&& g) ^^^ (~~~ f &&& h)) + k + x := rfl
  rw [e5, ← e4, ← e3, ← e2, ← e1]
  omega

theorem sum_facts (x y : W32) : ∃ z : W32, IntKind.u32.wrap ((x.toNat : Int) + (y.toNat : Int)) = (z.toNat : Int) ∧ ((x.toNat : Int) + (y.toNat : Int)) % 4294967296 = (z.toNat : Int) ∧ z = x + y :=
  ⟨_, wadd _ _, add32 _ _, rfl⟩

def cur8 (s t : R8) (k : Nat) : List W32 := t.list.take k ++ s.list.drop k
theorem cur_length (s t : R8) (k : Nat) (h : k ≤ 8) : (cur8 s t k).length = 8 := by simp [cur8, R8.list]; omega
theorem cur_end (s t : R8) : cur8 s t 8 = t.list := by simp [cur8, R8.list]
theorem cur_at (s t : R8) (k' k : Nat) (x : W32) (hk : k' = k) (h : s.list[k]? = some x) (post : List Value) : ((cur8 s t k').map U ++ post)[k]? = some (U x) := by
  subst hk
  have hk8 : k' < 8 := (List.getElem?_eq_some_iff.1 h).1
  rw [List.getElem?_append_left (by rw [List.length_map, cur_length _ _ _ (by omega)]; exact hk8), List.getElem?_map]
  unfold cur8
  rw [List.getElem?_append_right (by simp [R8.list]; omega), List.getElem?_drop, List.length_take]
  rw [show min k' t.list.length = k' from by simp [R8.list]; omega, Nat.sub_self, Nat.add_zero, h]
  rfl
theorem cur_set (s t : R8) (k : Nat) (x : W32) (hk : k < 8) (h : t.list[k]? = some x) : (cur8 s t k).set k x = cur8 s t (k + 1) := by
  obtain ⟨hl, rfl⟩ := List.getElem?_eq_some_iff.1 h
  unfold cur8
  have e : (t.list.take k).length = k := by rw [List.length_take]; omega
  rw [List.set_append_right _ _ (by rw [e]; exact Nat.le_refl _), e, Nat.sub_self, List.drop_eq_getElem_cons (show k < s.list.length from hk), List.set_cons_zero, List.take_succ_eq_append_getElem hl, List.append_assoc]
  rfl
theorem grown_drewN {w w' : World} {row : Option Nat} (h : w.grownBy w' row) (n : Nat) : w.grownBy (w'.drewN n) row := ⟨h.os, h.tape, h.output, h.size, h.block⟩
theorem add_at (s r : R8) (k : Nat) (hk : k < 8) : ∃ x y, s.list[k]? = some x ∧ [r.a, r.c, r.d, r.e, r.f, r.g, r.h, r.i][k]? = some y ∧ (s.add r).list[k]? = some (x + y) := by
  rcases k with _ | _ | _ | _ | _ | _ | _ | _ | k
  all_goals first | exact ⟨_, _, rfl, rfl, rfl⟩ | omega
def MixInv4 (w : World) (p : Nat) (tp : TypeId) (pre post : List Value) (s t : R8) (i : Value) (wr : World) : Prop :=
  ∃ k : Nat, i = .int .i64 k ∧ k ≤ 8 ∧ Blk wr p tp (pre ++ ((cur8 s t k).map U ++ post)) ∧ w.grownBy wr (some p)
def MixInv3 (w : World) (ws : List W32) (s : R8) (v1 v2 v3 v4 v5 v6 v7 v8 i : Value) (wr : World) : Prop :=
  ∃ (k : Nat) (a c d e f g h j : W32), i = .int .i64 k ∧ k ≤ 64 ∧ roundsN kTab ws k s = ⟨a, c, d, e, f, g, h, j⟩ ∧ v1 = U a ∧ v2 = U c ∧ v3 = U d ∧ v4 = U e ∧ v5 = U f ∧ v6 = U g ∧ v7 = U h ∧ v8 = U j ∧ Blk wr w.heap.size 186 (wcells ws) ∧ Below w.heap.size w wr
def MixInv2 (w : World) (b : List UInt8) (i : Value) (wr : World) : Prop :=
  ∃ k : Nat, i = .int .i64 k ∧ 16 ≤ k ∧ k ≤ 64 ∧ Blk wr w.heap.size 186 (wcells (schedN (k - 16) (words16 b))) ∧ Below w.heap.size w wr
def MixInv1 (w : World) (b : List UInt8) (i : Value) (wr : World) : Prop :=
  ∃ k : Nat, i = .int .i64 k ∧ k ≤ 16 ∧ Blk wr w.heap.size 186 (wcells ((words16 b).take k)) ∧ Below w.heap.size w wr

set_option maxRecDepth 100000 in
set_option maxHeartbeats 4000000 in
theorem mix_any (p o c : Nat) (A : Option Addr) (b : List UInt8) (s : R8) (pre post : List Value) (tp : TypeId) (w : World) (hp : Blk w p tp (pre ++ (s.list.map U ++ post))) (ho : pre.length = o) (hb : b.length = 64) (hr : Rd w A (b.map B)) (ht : TabLaid w) (hg : p ≠ 1) :
    Calls Tryd.prog 90 #[.pointer (some ⟨p, o, none⟩), .slice A 64 c] w fun e w' => e = .returned (.tuple #[]) ∧ Blk w' p tp (pre ++ ((mixF s b).list.map U ++ post)) ∧ w.grownBy w' (some p) := by
  obtain ⟨bb, bo, rfl, hbl, hcell⟩ := hr.at_ (by simp; omega)
  have HP := Lib.hid (And.intro hp (And.intro ho (And.intro hr (And.intro ht hg))))
  have HC := Lib.hid hcell
  have HB := Lib.hid (And.intro hb hbl)
  clear hp ho hr ht hg hcell hb hbl
  go_enter Tryd.func90, Tryd.ntmps90
  go_wp2_with fail
  go_loopw [24] (fun i wr => MixInv1 w b i wr) (fun i _ => 16 - (intOf i).toNat)
  case atStart => exact ⟨0, rfl, Nat.zero_le _, heap_alloc_new w _, (Below.refl _ _).alloc (Nat.le_refl _) _⟩
  case round =>
    obtain ⟨k, rfl, hk, hW, hB⟩ := hrel
    by_cases hlt : k < 16
    · have hb64 := HB.out.1
      have hkb : (k : Int) < 16 := by omega
      have hc : ∀ j (hj : j < 4), wr.cell? ⟨bb, bo + (4 * k + j), none⟩ = some (B (b[4 * k + j]'(by omega))) := fun j hj => by
        rw [hB.cell (p := ⟨bb, bo + (4 * k + j), none⟩) HB.out.2, HC.out (4 * k + j) (by simp; omega)]
        simp
      have hq := words16_take b k hlt hb64
      have c0 := hc 0 (by omega)
      have c1 := hc 1 (by omega)
      have c2 := hc 2 (by omega)
      have c3 := hc 3 (by omega)
      simp only [Nat.add_zero] at c0
      have hv := un32_val b[4 * k] b[4 * k + 1] b[4 * k + 2] b[4 * k + 3]
      generalize b[4 * k] = x0 at *
      generalize b[4 * k + 1] = x1 at *
      generalize b[4 * k + 2] = x2 at *
      generalize b[4 * k + 3] = x3 at *
      have hlen : ((words16 b).take k).length = k := by rw [List.length_take, words16_length]; omega
      have HW := Lib.hid (And.intro hW (And.intro hB (And.intro hq (And.intro hlen hlt))))
      have hst : ∃ v, wr.cell? ⟨w.heap.size, k, none⟩ = some v := ⟨_, hW.cell k (by rw [wcells_length _ (by omega)]; omega)⟩
      obtain ⟨v0, hst⟩ := hst
      have hfr := hW.frozen k
      have n0 := x0.toNat_lt
      have n1 := x1.toNat_lt
      have n2 := x2.toNat_lt
      have n3 := x3.toNat_lt
      have HV := Lib.hid hv
      have i0 : IntKind.i64.wrap (4 * (k : Int)) = 4 * (k : Int) := IntWalk.i64_in _ (by omega)
      have i1 : IntKind.i64.wrap (4 * (k : Int) + 1) = 4 * (k : Int) + 1 := IntWalk.i64_in _ (by omega)
      have i2 : IntKind.i64.wrap (4 * (k : Int) + 2) = 4 * (k : Int) + 2 := IntWalk.i64_in _ (by omega)
      have i3 : IntKind.i64.wrap (4 * (k : Int) + 3) = 4 * (k : Int) + 3 := IntWalk.i64_in _ (by omega)
      have p0 : (0 : Int) ≤ 4 * (k : Int) := by omega
      have p1 : (0 : Int) ≤ 4 * (k : Int) + 1 := by omega
      have p2 : (0 : Int) ≤ 4 * (k : Int) + 2 := by omega
      have p3 : (0 : Int) ≤ 4 * (k : Int) + 3 := by omega
      have u0 : 4 * (k : Int) < 64 := by omega
      have u1 : 4 * (k : Int) + 1 < 64 := by omega
      have u2 : 4 * (k : Int) + 2 < 64 := by omega
      have u3 : 4 * (k : Int) + 3 < 64 := by omega
      have t0 : (4 * (k : Int)).toNat = 4 * k := by omega
      have t1 : (4 * (k : Int) + 1).toNat = 4 * k + 1 := by omega
      have t2 : (4 * (k : Int) + 2).toNat = 4 * k + 2 := by omega
      have t3 : (4 * (k : Int) + 3).toNat = 4 * k + 3 := by omega
      have hk64 : (k : Int) < 64 := by omega
      have z0 := wrap_u32_byte x0
      have z1 := wrap_u32_byte x1
      have z2 := wrap_u32_byte x2
      have z3 := wrap_u32_byte x3
      have y0 : IntKind.u32.wrap ((x0.toNat : Int) * 16777216) = (x0.toNat : Int) * 16777216 := wrap_u32_in _ (by omega) (by omega)
      have y1 : IntKind.u32.wrap ((x1.toNat : Int) * 65536) = (x1.toNat : Int) * 65536 := wrap_u32_in _ (by omega) (by omega)
      have y2 : IntKind.u32.wrap ((x2.toNat : Int) * 256) = (x2.toNat : Int) * 256 := wrap_u32_in _ (by omega) (by omega)
      have HFAR : Hid (∀ v x, (wr.setCell ⟨w.heap.size, k, none⟩ v).drew.cell? ⟨bb, x, none⟩ = wr.cell? ⟨bb, x, none⟩) := Lib.hid (fun v x => World.cell?_setCell_far wr _ _ v (by have := HB.out.2; simp; omega))
      clear hc hq hW hB hlen hv hb64 hlt hk
      go_wp2_with fail
      go_region_held3 (fun w' => w'.cell? ⟨bb, bo + 4 * k, none⟩ = some (B x0) ∧ w'.cell? ⟨bb, bo + (4 * k + 1), none⟩ = some (B x1) ∧ w'.cell? ⟨bb, bo + (4 * k + 2), none⟩ = some (B x2) ∧ w'.cell? ⟨bb, bo + (4 * k + 3), none⟩ = some (B x3))
        (first | exact ⟨c0, c1, c2, c3⟩ | exact ⟨(HFAR.out _ _).trans c0, (HFAR.out _ _).trans c1, (HFAR.out _ _).trans c2, (HFAR.out _ _).trans c3⟩) (fail)
      rw [HV.out]
      clear c0 c1 c2 c3 i0 i1 i2 i3 p0 p1 p2 p3 u0 u1 u2 u3 t0 t1 t2 t3 z0 z1 z2 z3 y0 y1 y2 hst hfr n0 n1 n2 n3
      go_wp2
      go_roundw
      case rel =>
        refine ⟨k + 1, by go_num, HW.out.2.2.2.2, ?_, ?_⟩
        · have h := (HW.out.1.set k (U (un32 x0 x1 x2 x3))).drew
          have e := wcells_set ((words16 b).take k) (un32 x0 x1 x2 x3) (by rw [HW.out.2.2.2.1]; have := HW.out.2.2.2.2; omega)
          rw [HW.out.2.2.2.1] at e
          rw [e, ← HW.out.2.2.1] at h
          exact h
        · exact below_drewN (HW.out.2.1.setCell (p := ⟨w.heap.size, k, none⟩) (Nat.le_refl _) _) 1
      case measure => have := HW.out.2.2.2.2; simp [intOf]; omega
    · obtain rfl : k = 16 := by omega
      rw [List.take_of_length_le (by rw [words16_length]; omega)] at hW
      rw [show ((16 : Nat) : Int) = 16 from rfl]
      have HW := Lib.hid (And.intro hW hB)
      clear hW hB hlt hk
      go_wp2_with fail
      go_loopw [6] (fun i wr => MixInv2 w b i wr) (fun i _ => 64 - (intOf i).toNat)
      case atStart => exact ⟨16, rfl, Nat.le_refl _, by omega, HW.out.1, HW.out.2⟩
      clear HW
      case round =>
        obtain ⟨k, rfl, hk16, hk64, hW, hB⟩ := hrel
        have hlen : (schedN (k - 16) (words16 b)).length = k := by rw [schedN_length, words16_length]; omega
        by_cases hlt : k < 64
        · have hsn := sched_next _ k hk16 hlen
          have hst : schedN (k + 1 - 16) (words16 b) = snocW (schedN (k - 16) (words16 b)) := by rw [show k + 1 - 16 = (k - 16) + 1 from by omega]; rfl
          generalize schedN (k - 16) (words16 b) = l at *
          have cell : ∀ j (hj : j < k), wr.cell? ⟨w.heap.size, j, none⟩ = some (U (l[j]'(by omega))) := fun j hj => hW.cellD j _ (wcells_at l j (by omega))
          have c16 := cell (k - 16) (by omega)
          have c15 := cell (k - 15) (by omega)
          have c7 := cell (k - 7) (by omega)
          have c2 := cell (k - 2) (by omega)
          generalize l[k - 16] = x16 at *
          generalize l[k - 15] = x15 at *
          generalize l[k - 7] = x7 at *
          generalize l[k - 2] = x2 at *
          have HW := Lib.hid (And.intro hW (And.intro hB (And.intro hsn (And.intro hst (And.intro hlen (And.intro hlt hk16))))))
          obtain ⟨v0, hv0⟩ : ∃ v, wr.cell? ⟨w.heap.size, k, none⟩ = some v := ⟨_, hW.cell k (by rw [wcells_length _ (by omega)]; omega)⟩
          have hfr := hW.frozen k
          have i16 : IntKind.i64.wrap ((k : Int) - 16) = (k : Int) - 16 := IntWalk.i64_in _ (by omega)
          have i15 : IntKind.i64.wrap ((k : Int) - 15) = (k : Int) - 15 := IntWalk.i64_in _ (by omega)
          have i7 : IntKind.i64.wrap ((k : Int) - 7) = (k : Int) - 7 := IntWalk.i64_in _ (by omega)
          have i2 : IntKind.i64.wrap ((k : Int) - 2) = (k : Int) - 2 := IntWalk.i64_in _ (by omega)
          have t16 : ((k : Int) - 16).toNat = k - 16 := by omega
          have t15 : ((k : Int) - 15).toNat = k - 15 := by omega
          have t7 : ((k : Int) - 7).toNat = k - 7 := by omega
          have t2 : ((k : Int) - 2).toNat = k - 2 := by omega
          have p16 : (0 : Int) ≤ (k : Int) - 16 := by omega
          have p15 : (0 : Int) ≤ (k : Int) - 15 := by omega
          have p7 : (0 : Int) ≤ (k : Int) - 7 := by omega
          have p2 : (0 : Int) ≤ (k : Int) - 2 := by omega
          have u16 : (k : Int) - 16 < 64 := by omega
          have u15 : (k : Int) - 15 < 64 := by omega
          have u7 : (k : Int) - 7 < 64 := by omega
          have u2 : (k : Int) - 2 < 64 := by omega
          have uk : (k : Int) < 64 := by omega
          have q16 : (16 : Int) ≤ (k : Int) := by omega
          have q15 : (15 : Int) ≤ (k : Int) := by omega
          have q7 : (7 : Int) ≤ (k : Int) := by omega
          have q2 : (2 : Int) ≤ (k : Int) := by omega
          have hlow := low_val x15
          have hhigh := high_val x2
          clear cell hW hB hsn hst hlen hlt hk16 hk64
          go_wp2_with fail
          go_quiet (fail)
          go_wp2_with fail
          refine (rotK_any x15 (-7) _ (by decide) (by decide)).mono ?_
          rintro e w' ⟨rfl, rfl⟩
          go_wp2_with fail
          refine (rotK_any x15 (-18) _ (by decide) (by decide)).mono ?_
          rintro e w' ⟨rfl, rfl⟩
          go_wp2_with fail
          refine (rotK_any x2 (-17) _ (by decide) (by decide)).mono ?_
          rintro e w' ⟨rfl, rfl⟩
          go_wp2_with fail
          refine (rotK_any x2 (-19) _ (by decide) (by decide)).mono ?_
          rintro e w' ⟨rfl, rfl⟩
          go_wp2_with fail
          obtain ⟨a1, ha1⟩ : ∃ a1, a1 = x16 + lowS x15 := ⟨_, rfl⟩
          obtain ⟨a2, ha2⟩ : ∃ a2, a2 = a1 + x7 := ⟨_, rfl⟩
          obtain ⟨a3, ha3⟩ : ∃ a3, a3 = a2 + highS x2 := ⟨_, rfl⟩
          have s1 := wadd x16 (lowS x15)
          have s2 := wadd a1 x7
          have s3 := wadd a2 (highS x2)
          have r1 := add32 x16 (lowS x15)
          have r2 := add32 a1 x7
          have r3 := add32 a2 (highS x2)
          rw [← ha1] at s1 r1
          rw [← ha2] at s2 r2
          rw [← ha3] at s3 r3
          have HA : Hid (a3 = x16 + lowS x15 + x7 + highS x2) := Lib.hid (by rw [ha3, ha2, ha1])
          clear ha1 ha2 ha3
          have HFAR : Hid (∀ v x y, wr.cell? ⟨w.heap.size, x, none⟩ = some y → x ≠ k → ((wr.drewN nq).setCell ⟨w.heap.size, k, none⟩ v).drew.cell? ⟨w.heap.size, x, none⟩ = some y) := Lib.hid (fun v x y h hne => (World.cell?_setCell_other wr _ _ v (by intro e; injection e with _ e; exact hne e.symm)).trans h)
          have HC16 := Lib.hid (And.intro c16 c7)
          have HNE : Hid (k - 16 ≠ k ∧ k - 7 ≠ k) := Lib.hid (by have := HW.out.2.2.2.2.2.2; omega)
          clear hlow hhigh c15 c2 i15 i2 t15 t2 p15 p2 u15 u2
          go_region_held3 (fun w' => w'.cell? ⟨w.heap.size, k - 16, none⟩ = some (U x16) ∧ w'.cell? ⟨w.heap.size, k - 7, none⟩ = some (U x7))
            (first | exact ⟨HC16.out.1, HC16.out.2⟩ | exact ⟨HFAR.out _ _ _ HC16.out.1 HNE.out.1, HFAR.out _ _ _ HC16.out.2 HNE.out.2⟩) (fail)
          clear s1 s2 s3 r1 r2 r3 c16 c7 i16 i7 t16 t7 p16 p7 u16 u7 q16 q15 q7 q2 hfr hv0
          go_wp2
          go_roundw
          case rel =>
            refine ⟨k + 1, by go_num, by have := HW.out.2.2.2.2.2.2; omega, HW.out.2.2.2.2.2.1, ?_, below_drewN (HW.out.2.1.setCell (p := ⟨w.heap.size, k, none⟩) (Nat.le_refl _) _) (nq + 1)⟩
            have h := (HW.out.1.set k (U a3)).drewN (nq + 1)
            have e := wcells_set l a3 (by rw [HW.out.2.2.2.2.1]; exact HW.out.2.2.2.2.2.1)
            rw [HW.out.2.2.2.2.1] at e
            rw [HW.out.2.2.2.1]
            unfold snocW
            rw [HW.out.2.2.1, ← HA.out, ← e]
            exact h
          case measure => have := HW.out.2.2.2.2.2.1; simp [intOf]; omega
        · obtain rfl : k = 64 := by omega
          rw [show 64 - 16 = 48 from rfl] at hW hlen
          rw [show ((64 : Nat) : Int) = 64 from rfl]
          generalize hws : schedN 48 (words16 b) = ws at *
          have HWS := Lib.hid hws
          have HLEN := Lib.hid hlen
          have hpb := HP.out.1.below hB
          obtain ⟨sa, sc, sd, se, sf, sg, sh, si⟩ := s
          simp only [R8.list, List.map_cons, List.map_nil] at hpb
          have hcs : ∀ j v, [U sa, U sc, U sd, U se, U sf, U sg, U sh, U si][j]? = some v → wr.cell? ⟨p, o + j, none⟩ = some v := fun j v hv => by
            refine hpb.cellD (o + j) v ?_
            have hj : j < 8 := by have := (List.getElem?_eq_some_iff.1 hv).1; simpa using this
            rw [List.getElem?_append_right (by have := HP.out.2.1; omega), show o + j - pre.length = j from by have := HP.out.2.1; omega, List.getElem?_append_left (by simpa using hj)]
            exact hv
          have d0 := hcs 0 _ rfl
          have d1 := hcs 1 _ rfl
          have d2 := hcs 2 _ rfl
          have d3 := hcs 3 _ rfl
          have d4 := hcs 4 _ rfl
          have d5 := hcs 5 _ rfl
          have d6 := hcs 6 _ rfl
          have d7 := hcs 7 _ rfl
          simp only [Nat.add_zero] at d0
          have HW := Lib.hid (And.intro hW hB)
          clear hcs hpb hW hB hlt hk16 hk64 hlen hws
          go_wp2_with fail
          go_quiet (fail)
          go_wp2_with fail
          go_loopw [11, 12, 13, 14, 15, 16, 17, 18, 138] (fun v1 v2 v3 v4 v5 v6 v7 v8 i wr => MixInv3 w ws ⟨sa, sc, sd, se, sf, sg, sh, si⟩ v1 v2 v3 v4 v5 v6 v7 v8 i wr) (fun _ _ _ _ _ _ _ _ i _ => 64 - (intOf i).toNat)
          case atStart => exact ⟨0, sa, sc, sd, se, sf, sg, sh, si, rfl, Nat.zero_le _, rfl, rfl, rfl, rfl, rfl, rfl, rfl, rfl, rfl, HW.out.1, below_drewN HW.out.2 _⟩
          clear d0 d1 d2 d3 d4 d5 d6 d7 HW
          case round =>
            obtain ⟨k, a, c', d, e, f, g, h, j, rfl, hk, hrd, rfl, rfl, rfl, rfl, rfl, rfl, rfl, rfl, hW, hB⟩ := hrel
            by_cases hlt : k < 64
            · obtain ⟨kk, ww, hkk, hww, hnx⟩ := rounds_next ws k _ _ hlt HLEN.out hrd
              have ck := (HP.out.2.2.2.1.below hB HP.out.2.2.2.1.lt) k kk hkk
              have cw := hW.cellD k _ (wcells_at' ws k ww hww)
              clear hkk hww
              have HK := Lib.hid (And.intro hlt (And.intro hnx (And.intro hW hB)))
              have hk64 : (k : Int) < 64 := by omega
              clear hlt hnx hW hB hk hrd
              go_upto_region 17 with fail
              go_cut [20] from 139 to 200 (fun s20 wx => s20 = U (oneS kk ww ⟨a, c', d, e, f, g, h, j⟩) ∧ Blk wx w.heap.size 186 (wcells ws) ∧ Below w.heap.size w wx)
              case first =>
                go_quiet ((go_at_call 101; refine Calls.quiet_of_same (rotK_q f _ _ ?_ ?_); decide; decide))
                simp only [show (if IntKind.u32.signed = true then (-1 : Int) else IntKind.u32.max) = IntKind.u32.max from rfl, crc_out, xor32, and32]
                go_wp2_with fail
                go_meet
                exact ⟨congrArg (Value.int .u32) (one_val a c' d e f g h j kk ww), HK.out.2.2.1.drewN _, below_drewN HK.out.2.2.2 _⟩
              case rest =>
                obtain ⟨rfl, hW, hB⟩ := hcut
                obtain ⟨one, hone⟩ : ∃ one, one = oneS kk ww ⟨a, c', d, e, f, g, h, j⟩ := ⟨_, rfl⟩
                rw [← hone]
                have HK2 := Lib.hid (And.intro HK.out.1 (And.intro HK.out.2.1 (And.intro hW (And.intro hB hone))))
                clear HK hW hB hone ck cw
                go_upto_region 18 with fail
                go_cut [21] from 139 to 200 (fun s21 wx => s21 = U (twoS ⟨a, c', d, e, f, g, h, j⟩) ∧ wc = wx)
                case first =>
                  go_wp2_with fail
                  refine (rotK_any a (-2) _ (by decide) (by decide)).mono ?_
                  rintro e w' ⟨rfl, rfl⟩
                  go_wp2_with fail
                  refine (rotK_any a (-13) _ (by decide) (by decide)).mono ?_
                  rintro e w' ⟨rfl, rfl⟩
                  go_wp2_with fail
                  refine (rotK_any a (-22) _ (by decide) (by decide)).mono ?_
                  rintro e w' ⟨rfl, rfl⟩
                  go_wp2_with fail
                  simp only [xor32, and32, add32]
                  go_meet
                  exact ⟨rfl, rfl⟩
                case rest =>
                  obtain ⟨rfl, rfl⟩ := hcut
                  obtain ⟨two, htwo⟩ : ∃ two, two = twoS ⟨a, c', d, e, f, g, h, j⟩ := ⟨_, rfl⟩
                  rw [← htwo]
                  obtain ⟨z1, y1, x1, hz1⟩ := sum_facts e one
                  obtain ⟨z2, y2, x2, hz2⟩ := sum_facts one two
                  have HZ := Lib.hid (And.intro htwo (And.intro hz1 hz2))
                  clear htwo hz1 hz2
                  go_wp2
                  go_roundw
                  case rel =>
                    refine ⟨k + 1, z2, a, c', d, z1, f, g, h, by go_num, HK2.out.1, ?_, rfl, rfl, rfl, rfl, rfl, rfl, rfl, rfl, HK2.out.2.2.1, HK2.out.2.2.2.1⟩
                    rw [HK2.out.2.1, rnd, ← HK2.out.2.2.2.2, ← HZ.out.1, HZ.out.2.1, HZ.out.2.2]
                    rfl
                  case measure => have := HK2.out.1; simp [intOf]; omega
            · obtain rfl : k = 64 := by omega
              rw [show ((64 : Nat) : Int) = 64 from rfl]
              have hfin : mixF ⟨sa, sc, sd, se, sf, sg, sh, si⟩ b = ⟨sa + a, sc + c', sd + d, se + e, sf + f, sg + g, sh + h, si + j⟩ := by
                unfold mixF
                rw [HWS.out, hrd]
                rfl
              have HF := Lib.hid hfin
              have hidx : ∀ (i : Nat) (v : W32), [a, c', d, e, f, g, h, j][i]? = some v → ∀ w : World, (Instr.index 164 (.agg #[U a, U c', U d, U e, U f, U g, U h, U j]) (.int .i64 i)).run Tryd.prog w = .ok (U v) w := by
                intro i v hv w
                rcases i with _ | _ | _ | _ | _ | _ | _ | _ | i
                all_goals first | (simp at hv; subst hv; kernel_rfl) | (simp at hv)
              have HI := Lib.hid hidx
              have hpk := (HP.out.1.below hB)
              have hg0 : w.grownBy wr (some p) := grown_of_below hB _
              have HG0 := Lib.hid (And.intro hpk hg0)
              clear hfin hidx hpk hg0 hW hB hlt hk hrd
              go_wp2_with fail
              go_loopw [210] (fun i wr => MixInv4 w p tp pre post ⟨sa, sc, sd, se, sf, sg, sh, si⟩ (mixF ⟨sa, sc, sd, se, sf, sg, sh, si⟩ b) i wr) (fun i _ => 8 - (intOf i).toNat)
              case atStart => exact ⟨0, rfl, Nat.zero_le _, HG0.out.1, HG0.out.2⟩
              clear HG0
              case round =>
                obtain ⟨k, rfl, hk, hP, hG⟩ := hrel
                by_cases hlt : k < 8
                · obtain ⟨xk, yk, h1, h2, h3⟩ := add_at ⟨sa, sc, sd, se, sf, sg, sh, si⟩ ⟨a, c', d, e, f, g, h, j⟩ k hlt
                  rw [show R8.add ⟨sa, sc, sd, se, sf, sg, sh, si⟩ ⟨a, c', d, e, f, g, h, j⟩ = mixF ⟨sa, sc, sd, se, sf, sg, sh, si⟩ b from HF.out.symm] at h3
                  have hi := HI.out k yk h2
                  have hcell : wr.cell? ⟨p, o + k, none⟩ = some (U xk) := by
                    refine hP.cellD (o + k) _ ?_
                    rw [List.getElem?_append_right (by have := HP.out.2.1; omega), show o + k - pre.length = k from by have := HP.out.2.1; omega]
                    exact cur_at _ _ _ k xk (by rfl) h1 post
                  have hfr := hP.frozen (o + k)
                  have hset := hP.set (o + k) (U (xk + yk))
                  have hset2 : (pre ++ ((cur8 ⟨sa, sc, sd, se, sf, sg, sh, si⟩ (mixF ⟨sa, sc, sd, se, sf, sg, sh, si⟩ b) k).map U ++ post)).set (o + k) (U (xk + yk)) = pre ++ ((cur8 ⟨sa, sc, sd, se, sf, sg, sh, si⟩ (mixF ⟨sa, sc, sd, se, sf, sg, sh, si⟩ b) (k + 1)).map U ++ post) := by
                    rw [List.set_append_right _ _ (by have := HP.out.2.1; omega), show o + k - pre.length = k from by have := HP.out.2.1; omega]
                    rw [List.set_append_left _ _ (by rw [List.length_map, cur_length _ _ _ (by omega)]; exact hlt)]
                    rw [← List.map_set, cur_set _ _ _ _ hlt h3]
                  rw [hset2] at hset
                  have HS := Lib.hid (And.intro hset (And.intro hG hlt))
                  obtain ⟨zk, y1, x1, hz⟩ := sum_facts xk yk
                  have HZ := Lib.hid hz
                  have hk8 : (k : Int) < 8 := by omega
                  clear hP hG hlt h1 h2 h3 hset hset2 hz hk
                  go_wp2_with fail
                  go_region
                  go_wp2
                  go_roundw
                  case rel => exact ⟨k + 1, by go_num, HS.out.2.2, (by have h := HS.out.1.drew; rw [← HZ.out] at h; exact h), grown_drewN (grown_trans HS.out.2.1 (grown_setC _ _ _ _) (.inl rfl)) 1⟩
                  case measure => have := HS.out.2.2; simp [intOf]; omega
                · obtain rfl : k = 8 := by omega
                  rw [cur_end] at hP
                  have HE := Lib.hid (And.intro hP hG)
                  clear hP hG hlt hk
                  go_wp2
                  go_end0
                  exact ⟨rfl, HE.out.1, HE.out.2⟩
#print axioms mix_any
end Go.Proofs.YtdekealpachhmaaDoor
