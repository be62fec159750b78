/- Layer 1: a sum under way: New, Write, Clone, Sum by their contracts. -/
import Derived.Test.YtcgdojdiihdkeaaDoorShaC
import Derived.Test.YtcgdojdiihdkeaaDoorStepApp
namespace Go.Proofs.YtcgdojdiihdkeaaDoor
open Go Go.RowKit Go.Isth

abbrev PtrH (b : Nat) : Value := .pointer (some ⟨b, 0, none⟩)
/-- A sum under way: these bytes were laid. -/
structure HashIs (w : World) (base h : Nat) (v : Value) (bs : List UInt8) : Prop where
  blk : Blk w h 86 ((absN (bs.length / 64) kStart bs).list.map U ++ [v, .int .u64 (bs.length : Nat)])
  tail : TailIs w base v (bs.drop (64 * (bs.length / 64)))
  ne : v.ownBlock ≠ some h
  at_ : base ≤ h
  big : bs.length ≤ 140737488355328
  low : base ≤ w.heap.size
theorem HashIs.keep {w w' : World} {base h : Nat} {v : Value} {bs : List UInt8} (H : HashIs w base h v bs) (hs : w.heap.size ≤ w'.heap.size) (hh : w'.heap[h]? = w.heap[h]?) (hk : ∀ k, v.ownBlock = some k → w'.heap[k]? = w.heap[k]?) : HashIs w' base h v bs :=
  ⟨H.blk.keep hh, H.tail.keep hs hk, H.ne, H.at_, H.big, Nat.le_trans H.low hs⟩
theorem HashIs.below {w w' : World} {base h : Nat} {v : Value} {bs : List UInt8} (H : HashIs w base h v bs) (hb : Below w.heap.size w w') : HashIs w' base h v bs :=
  H.keep hb.size (hb.block h H.blk.lt) (fun k e => hb.block k (H.tail.lt k e).2)

set_option maxRecDepth 100000 in
theorem newH_any (w : World) : Calls Tryd.prog 13 #[] w fun e w' => ∃ h, e = .returned (PtrH h) ∧ HashIs w' w.heap.size h (.slice none 0 0) [] ∧ Below w.heap.size w w' := by
  go_enter Tryd.func13, Tryd.ntmps13
  go_wp2_with fail
  refine (start_any _).mono ?_
  rintro e w1 ⟨rfl, hb1⟩
  go_wp2
  go_ret
  refine ⟨w1.heap.size, rfl, ⟨heap_alloc_new w1 _, TailIs.nil _ _, by simp [Value.ownBlock], hb1.size, by simp, by rw [World.size_alloc]; have := hb1.size; omega⟩, hb1.alloc hb1.size _⟩

def restLen (w : World) (h : Nat) : Nat := match w.cell? ⟨h, 8, none⟩ with | some (.slice _ n _) => n | _ => 0
theorem wext_grown {w w1 w2 : World} {b : Nat} {v v1 : Value} (h : WExt w w1 b v v1) (g : w1.grownBy w2 (some b)) : WExt w w2 b v v1 :=
  ⟨g.os.trans h.os, g.tape.trans h.tape, g.output.trans h.output, Nat.le_trans h.size g.size, fun k hk hb hv => by rw [g.block k (Nat.lt_of_lt_of_le hk h.size) (by simpa using hb), h.block k hk hb hv], h.same⟩
theorem cells_set9 (s : R8) (a b c : Value) : (s.list.map U ++ [a, b]).set 9 c = s.list.map U ++ [a, c] := rfl
theorem cells_set8 (s : R8) (a b c : Value) : (s.list.map U ++ [a, b]).set 8 c = s.list.map U ++ [c, b] := rfl
def WrInv (w : World) (base h : Nat) (v : Value) (all : List UInt8) (wr : World) : Prop :=
  ∃ (j n c : Nat) (A : Option Addr), n + 64 * j = all.length ∧ Blk wr h 86 ((absN j kStart all).list.map U ++ [.slice A n c, .int .u64 (all.length : Nat)]) ∧ TailIs wr base (.slice A n c) (all.drop (64 * j)) ∧ (Value.slice A n c).ownBlock ≠ some h ∧ WExt w wr h v (.slice A n c)
set_option maxRecDepth 100000 in
set_option maxHeartbeats 2000000 in
theorem write_any (A : Option Addr) (c base h : Nat) (v : Value) (bs xs : List UInt8) (w : World) (H : HashIs w base h v bs) (hm : bs.length + xs.length ≤ 140737488355328) (hr : Rd w A (xs.map B)) (hA : ∀ ad, A = some ad → 0 < xs.length → ad.block ≠ h) (ht : TabLaid w) (hb : 0 < base) :
    Calls Tryd.prog 14 #[PtrH h, .slice A xs.length c] w fun e w' => e = .returned (.tuple #[]) ∧ ∃ v', HashIs w' base h v' (bs ++ xs) ∧ WExt w w' h v v' := by
  have hc9 : w.cell? ⟨h, 9, none⟩ = some (.int .u64 (bs.length : Nat)) := H.blk.cellD 9 _ rfl
  have hf9 := H.blk.frozen 9
  have hsum : IntKind.u64.wrap ((bs.length : Int) + (xs.length : Int)) = ((bs.length + xs.length : Nat) : Int) := by
    rw [← u64_nat (n := bs.length + xs.length) (by omega)]; congr 1
  have hmod : ((bs.length : Int) + (xs.length : Int)) % 18446744073709551616 = ((bs.length + xs.length : Nat) : Int) := by omega
  have hxu := u64_nat (n := xs.length) (by omega)
  have HH := Lib.hid (And.intro H (And.intro hm (And.intro hr (And.intro hA (And.intro ht hb)))))
  clear H hm hr hA ht hb
  go_enter Tryd.func14, Tryd.ntmps14
  go_upto_region 2 with fail
  have hBM := HH.out.1.blk.set 9 (.int .u64 ((bs.length : Int) + (xs.length : Int)))
  rw [cells_set9, show ((bs.length : Int) + (xs.length : Int)) = (((bs ++ xs).length : Nat) : Int) by simp] at hBM
  rw [show ((bs.length : Int) + (xs.length : Int)) = (((bs ++ xs).length : Nat) : Int) by simp]
  have hxM : WExt w (w.setCell ⟨h, 9, none⟩ (.int .u64 (((bs ++ xs).length : Nat) : Int))) h v v := wext_grown (WExt.refl w h v) (grown_setC _ _ _ _)
  have htM : TailIs (w.setCell ⟨h, 9, none⟩ (.int .u64 (((bs ++ xs).length : Nat) : Int))) base v (bs.drop (64 * (bs.length / 64))) := HH.out.1.tail.grown (grown_setC _ _ _ _) (.inr (fun e => HH.out.1.ne e.symm))
  have hrM : Rd (w.setCell ⟨h, 9, none⟩ (.int .u64 (((bs ++ xs).length : Nat) : Int))) A (xs.map B) := fun hp => (HH.out.2.2.1.grown (grown_setC _ _ _ _) (fun ad e e' => HH.out.2.2.2.1 ad e (by simpa using hp) (by injection e' with e'; exact e'.symm))) hp
  clear hc9 hf9 hsum hmod hxu
  generalize w.setCell ⟨h, 9, none⟩ (.int .u64 (((bs ++ xs).length : Nat) : Int)) = wM at *
  have hc8 : wM.cell? ⟨h, 8, none⟩ = some v := hBM.cellD 8 _ rfl
  have HM := Lib.hid (And.intro hBM (And.intro hxM (And.intro htM hrM)))
  have hbound : (bs.drop (64 * (bs.length / 64))).length + xs.length ≤ 140737488355328 := by have := HH.out.2.1; simp; omega
  have HBO := Lib.hid (And.intro hbound (Nat.le_trans HH.out.1.low hxM.size))
  clear hBM hxM htM hrM hbound
  go_wp2_with (at_builtin; refine wpList_tail tBs rfl _ _ rfl base v (bs.drop (64 * (bs.length / 64))) rfl HM.out.2.2.1 A c xs rfl HM.out.2.2.2 HBO.out.1 HBO.out.2 ?_)
  intro v1 w1 ht1 hx1
  have hB1 := HM.out.1.grown hx1.grown HH.out.1.ne
  have hne1 : v1.ownBlock ≠ some h := by
    rcases hx1.same with e | e
    · rw [e]; exact HH.out.1.ne
    · intro e'; have := e h e'; have := HM.out.1.lt; omega
  have hd8 : w1.cell? ⟨h, 8, none⟩ = some v := hB1.cellD 8 _ rfl
  have hf8 := hB1.frozen 8
  have hB2 := hB1.set 8 v1
  rw [cells_set8] at hB2
  have ht2 := ht1.grown (grown_setC w1 h 8 v1) (.inr (fun e => hne1 e.symm))
  have hx2 : WExt w (w1.setCell ⟨h, 8, none⟩ v1) h v v1 := wext_grown (HM.out.2.1.trans (WExt.of_ext hx1 h)) (grown_setC _ _ _ _)
  have hdr : (bs ++ xs).drop (64 * (bs.length / 64)) = bs.drop (64 * (bs.length / 64)) ++ xs := List.drop_append_of_le_length (by omega)
  have hab : absN (bs.length / 64) kStart (bs ++ xs) = absN (bs.length / 64) kStart bs := absN_append _ _ _ _ (by omega)
  rw [← hdr] at ht2
  rw [← hab] at hB2
  have hlen : ((bs ++ xs).drop (64 * (bs.length / 64))).length + 64 * (bs.length / 64) = (bs ++ xs).length := by simp; omega
  obtain ⟨A1, c1, rfl, _⟩ := ht1.slice
  rw [← hdr] at ht2 hB2 hx2 hne1 ⊢
  have H2 := Lib.hid (And.intro hlen (And.intro hB2 (And.intro ht2 (And.intro hne1 hx2))))
  clear hlen hB2 ht2 hne1 hx2 hdr hab ht1 hx1 hB1 hc8
  generalize hn1 : ((bs ++ xs).drop (64 * (bs.length / 64))).length = n1 at *
  generalize hall : bs ++ xs = all at *
  have HALL := Lib.hid (And.intro hn1 hall)
  have HBIG := Lib.hid (show all.length ≤ 140737488355328 by rw [← hall, List.length_append]; exact HH.out.2.1)
  clear hn1 hall
  go_wp2_with fail
  clear hd8 hf8
  go_loopw [25] (fun _ wr => WrInv w base h v all wr) (fun _ wr => restLen wr h)
  case atStart => exact ⟨bs.length / 64, n1, c1, A1, H2.out.1, H2.out.2.1, H2.out.2.2.1, H2.out.2.2.2.1, H2.out.2.2.2.2⟩
  clear H2 HM
  case round =>
    obtain ⟨j, n, cc, A2, hn, hB, hT, hne, hX⟩ := hrel
    have hc8 : wr.cell? ⟨h, 8, none⟩ = some (.slice A2 n cc) := hB.cellD 8 _ rfl
    have hnl : (all.drop (64 * j)).length = n := by simp; omega
    have hT2 := hT
    rw [← hnl] at hT2
    obtain ⟨A3, c3, e3, hfit, hRd, _⟩ := hT2.slice
    injection e3 with e31 _ e33
    subst e31
    subst e33
    rw [hnl] at hfit
    by_cases hlt : 64 ≤ n
    · have hni : (64 : Int) ≤ (n : Int) := by omega
      have hct := fun wx => run_cut_to tBs A2 n cc 64 (by omega) (by omega) wx
      have hcf := fun wx => run_cut_from tBs A2 n cc 64 (by omega) (by omega) wx
      rw [show (64 : Int).toNat = 64 from rfl] at hct hcf
      have hcut := TailIs.cut hT2 64 (by omega)
      rw [hnl] at hcut
      have hblen : ((all.drop (64 * j)).take 64).length = 64 := by simp; omega
      have hTab := HH.out.2.2.2.2.1.below (hX.below HH.out.1.at_ HH.out.1.low (fun k e => (HH.out.1.tail.lt k e).1)) HH.out.2.2.2.2.2
      have hgt : h ≠ 0 := by have := HH.out.1.at_; have := HH.out.2.2.2.2.2; omega
      have HS := Lib.hid (And.intro hn (And.intro hB (And.intro hT (And.intro hne (And.intro hX (And.intro hlt (And.intro hcut (And.intro hblen (And.intro hRd (And.intro hTab hgt))))))))))
      have HC8 := Lib.hid hc8
      clear hn hB hT hne hX hnl hT2 hfit hRd hlt hcut hblen hTab hgt
      go_wp2_with fail
      clear hc8
      go_region_held3 (fun w' => w'.cell? ⟨h, 8, none⟩ = some (.slice A2 n cc))
        (first | exact H4.out.1.cellD 8 _ rfl | exact HC8.out)
        (first | (go_at_call 55; refine (mix_any h 0 cc A2 ((all.drop (64 * j)).take 64) (absN j kStart all) [] [.slice A2 n cc, .int .u64 (all.length : Nat)] 86 _ HS.out.2.1.drew rfl HS.out.2.2.2.2.2.2.2.1 (by rw [List.map_take]; exact HS.out.2.2.2.2.2.2.2.2.1.front 64) HS.out.2.2.2.2.2.2.2.2.2.1 HS.out.2.2.2.2.2.2.2.2.2.2).mono ?_; rintro e w4 ⟨rfl, hb4, hg4⟩; have H4 := Lib.hid (And.intro hb4 hg4); clear hb4 hg4))
      simp only [List.nil_append] at H4
      have hd8 : w4.cell? ⟨h, 8, none⟩ = some (.slice A2 n cc) := H4.out.1.cellD 8 _ rfl
      have hf8 := H4.out.1.frozen 8
      clear hct
      go_wp2
      go_roundw
      case rel =>
        have hB5 := H4.out.1.set 8 (.slice (cutA A2 cc 64 1) (n - 64) (cc - 64))
        rw [cells_set8, ← absN_succ] at hB5
        have hg5 : wr.grownBy (w4.setCell ⟨h, 8, none⟩ (.slice (cutA A2 cc 64 1) (n - 64) (cc - 64))) (some h) := grown_trans (⟨H4.out.2.os, H4.out.2.tape, H4.out.2.output, H4.out.2.size, H4.out.2.block⟩ : wr.grownBy w4 (some h)) (grown_setC _ _ _ _) (.inl rfl)
        have hT5 := HS.out.2.2.2.2.2.2.1.1.grown hg5 (.inr (fun e => by rw [HS.out.2.2.2.2.2.2.1.2] at e; exact HS.out.2.2.2.1 e.symm))
        rw [List.drop_drop, show 64 * j + 64 = 64 * (j + 1) from by omega] at hT5
        have hX5 := wext_grown HS.out.2.2.2.2.1 hg5
        exact ⟨j + 1, n - 64, _, _, by have := HS.out.1; have := HS.out.2.2.2.2.2.1; omega, hB5, hT5, by rw [HS.out.2.2.2.2.2.2.1.2]; exact HS.out.2.2.2.1, ⟨hX5.os, hX5.tape, hX5.output, hX5.size, hX5.block, by rw [HS.out.2.2.2.2.2.2.1.2]; exact hX5.same⟩⟩
      case measure =>
        have e1 : (w4.setCell ⟨h, 8, none⟩ (.slice (cutA A2 cc 64 1) (n - 64) (cc - 64))).cell? ⟨h, 8, none⟩ = some (.slice (cutA A2 cc 64 1) (n - 64) (cc - 64)) := (H4.out.1.set 8 _).cellD 8 _ rfl
        unfold restLen
        rw [e1, HC8.out]
        have := HS.out.2.2.2.2.2.1
        simp only
        omega
    · have hni : (n : Int) < 64 := by omega
      have hj : j = all.length / 64 := by omega
      subst hj
      rw [hnl] at hT2
      have HS := Lib.hid (And.intro hB (And.intro hT (And.intro hne hX)))
      clear hB hT hne hX hnl hT2 hfit hRd hn
      go_wp2
      go_end0
      refine ⟨rfl, .slice A2 n cc, ⟨?_, ?_, HS.out.2.2.1, HH.out.1.at_, ?_, Nat.le_trans HH.out.1.low HS.out.2.2.2.size⟩, HS.out.2.2.2⟩
      · rw [HALL.out.2]; exact HS.out.1
      · rw [HALL.out.2]; exact HS.out.2.1
      · rw [HALL.out.2]; exact HBIG.out

def CloneInv (w : World) (base : Nat) (bs : List UInt8) (e : Ending) (w' : World) : Prop :=
  ∃ g v', e = .returned (PtrH g) ∧ HashIs w' base g v' bs ∧ w.heap.size ≤ g ∧ (∀ k, v'.ownBlock = some k → w.heap.size ≤ k) ∧ Below w.heap.size w w'

set_option maxRecDepth 100000 in
set_option maxHeartbeats 2000000 in
theorem clone_any (base h : Nat) (v : Value) (bs : List UInt8) (w : World) (H : HashIs w base h v bs) :
    Calls Tryd.prog 15 #[PtrH h] w (CloneInv w base bs) := by
  obtain ⟨A, c, rfl, hfit, hRd, _⟩ := H.tail.slice
  have hb := H.blk
  obtain ⟨st, hst⟩ : ∃ st, st = absN (bs.length / 64) kStart bs := ⟨_, rfl⟩
  rw [← hst] at hb
  obtain ⟨sa, sc, sd, se, sf, sg, sh, si⟩ := st
  have c0 : w.cell? ⟨h, 0, none⟩ = some (U sa) := hb.cellD 0 _ rfl
  have c1 : w.cell? ⟨h, 1, none⟩ = some (U sc) := hb.cellD 1 _ rfl
  have c2 : w.cell? ⟨h, 2, none⟩ = some (U sd) := hb.cellD 2 _ rfl
  have c3 : w.cell? ⟨h, 3, none⟩ = some (U se) := hb.cellD 3 _ rfl
  have c4 : w.cell? ⟨h, 4, none⟩ = some (U sf) := hb.cellD 4 _ rfl
  have c5 : w.cell? ⟨h, 5, none⟩ = some (U sg) := hb.cellD 5 _ rfl
  have c6 : w.cell? ⟨h, 6, none⟩ = some (U sh) := hb.cellD 6 _ rfl
  have c7 : w.cell? ⟨h, 7, none⟩ = some (U si) := hb.cellD 7 _ rfl
  have c8 : w.cell? ⟨h, 8, none⟩ = some (.slice A (bs.drop (64 * (bs.length / 64))).length c) := hb.cellD 8 _ rfl
  have c9 : w.cell? ⟨h, 9, none⟩ = some (.int .u64 (bs.length : Nat)) := hb.cellD 9 _ rfl
  generalize hrs : bs.drop (64 * (bs.length / 64)) = rs at *
  have hrl : rs.length ≤ bs.length := by rw [← hrs, List.length_drop]; omega
  have hlt : h < w.heap.size := H.blk.lt
  have HC := Lib.hid (And.intro c0 (And.intro c1 (And.intro c2 (And.intro c3 (And.intro c4 (And.intro c5 (And.intro c6 (And.intro c7 (And.intro c8 c9)))))))))
  have HH := Lib.hid (And.intro hst (And.intro hrs (And.intro hRd (And.intro H.at_ (And.intro H.big (And.intro H.low (And.intro hrl hlt)))))))
  have HKEEP : Hid (∀ w', Below w.heap.size w w' → (w'.cell? ⟨h, 0, none⟩ = some (U sa) ∧ w'.cell? ⟨h, 1, none⟩ = some (U sc) ∧ w'.cell? ⟨h, 2, none⟩ = some (U sd) ∧ w'.cell? ⟨h, 3, none⟩ = some (U se) ∧ w'.cell? ⟨h, 4, none⟩ = some (U sf) ∧ w'.cell? ⟨h, 5, none⟩ = some (U sg) ∧ w'.cell? ⟨h, 6, none⟩ = some (U sh) ∧ w'.cell? ⟨h, 7, none⟩ = some (U si) ∧ w'.cell? ⟨h, 8, none⟩ = some (.slice A rs.length c) ∧ w'.cell? ⟨h, 9, none⟩ = some (.int .u64 (bs.length : Nat)))) := Lib.hid (fun w' hb' => by
    have k : ∀ o, w'.cell? ⟨h, o, none⟩ = w.cell? ⟨h, o, none⟩ := fun o => hb'.cell (p := ⟨h, o, none⟩) hlt
    simp only [k]
    exact ⟨c0, c1, c2, c3, c4, c5, c6, c7, c8, c9⟩)
  have HLL := Lib.hid (show ((rs.map B).length = rs.length * 1 ∧ 0 + rs.length ≤ maxLen ∧ (0 + rs.length) * 1 ≤ 140737488355328) from ⟨by simp, by have := H.big; unfold maxLen; omega, by have := H.big; omega⟩)
  clear c0 c1 c2 c3 c4 c5 c6 c7 c8 c9 hst hrs hRd hrl hlt hb H
  go_enter Tryd.func15, Tryd.ntmps15
  go_wp2_with fail
  go_region_held3 (fun w' => w'.cell? ⟨h, 0, none⟩ = some (U sa) ∧ w'.cell? ⟨h, 1, none⟩ = some (U sc) ∧ w'.cell? ⟨h, 2, none⟩ = some (U sd) ∧ w'.cell? ⟨h, 3, none⟩ = some (U se) ∧ w'.cell? ⟨h, 4, none⟩ = some (U sf) ∧ w'.cell? ⟨h, 5, none⟩ = some (U sg) ∧ w'.cell? ⟨h, 6, none⟩ = some (U sh) ∧ w'.cell? ⟨h, 7, none⟩ = some (U si) ∧ w'.cell? ⟨h, 8, none⟩ = some (.slice A rs.length c) ∧ w'.cell? ⟨h, 9, none⟩ = some (.int .u64 (bs.length : Nat)))
    (first | exact HKEEP.out _ (refl_drewN _ 1) | exact HKEEP.out _ HX.out.2 | exact HKEEP.out _ (HX.out.2.alloc HX.out.2.size _))
    (first | (refine step_app0 tBs rfl (.const (.slice none 0 0)) (.tmp 12) rfl w.heap.size (.slice none 0 0) 0 [] rfl (World.ownsRow_nil _ _ _ _) A rs.length c (rs.map B) rfl HH.out.2.2.1 HLL.out.1 one_bytes HLL.out.2.1 HLL.out.2.2 (Nat.le_refl _) ?_; intro v1 w1 ho1 hx1; simp only [Nat.zero_add, List.nil_append] at ho1 ⊢; have hb1 : Below w.heap.size w w1 := ⟨hx1.grown.os, hx1.grown.tape, hx1.grown.output, hx1.grown.size, fun k hk => hx1.grown.block k hk (by simp [Value.ownBlock])⟩; have HX := Lib.hid (And.intro ho1 hb1); obtain ⟨A1, cc1, rfl, _⟩ := own_slice ho1; have hbd := fun wx => run_build (P := Tryd.prog) wx 86 #[(0, .agg #[U sa, U sc, U sd, U se, U sf, U sg, U sh, U si]), (1, .slice A1 rs.length cc1), (2, .int .u64 (bs.length : Nat))] #[U sa, U sc, U sd, U se, U sf, U sg, U sh, U si, .slice A1 rs.length cc1, .int .u64 (bs.length : Nat)] (by kernel_rfl); clear ho1 hx1 hb1))
  go_wp2
  go_ret
  have hT := ((TailIs.of_own HX.out.1).mono HH.out.2.2.2.2.2.1).below ((Below.refl w1.heap.size w1).alloc (Nat.le_refl _) (.cells #[U sa, U sc, U sd, U se, U sf, U sg, U sh, U si, .slice A1 rs.length cc1, .int .u64 (bs.length : Nat)] 86))
  refine ⟨w1.heap.size, .slice A1 rs.length cc1, rfl, ⟨?_, by rw [HH.out.2.1]; exact hT, ?_, Nat.le_trans HH.out.2.2.2.2.2.1 HX.out.2.size, HH.out.2.2.2.2.1, by rw [World.size_alloc]; have := HX.out.2.size; have := HH.out.2.2.2.2.2.1; omega⟩, HX.out.2.size, fun k e => (HX.out.1.lt k e).1, HX.out.2.alloc HX.out.2.size _⟩
  · rw [← HH.out.1]; exact heap_alloc_new w1 _
  · intro e; have := (HX.out.1.lt _ e).2; omega

set_option maxRecDepth 100000 in
set_option maxHeartbeats 2000000 in
theorem hsum_any (base h : Nat) (v : Value) (bs : List UInt8) (w : World) (H : HashIs w base h v bs) (ht : TabLaid w) :
    Calls Tryd.prog 16 #[PtrH h] w fun e w' => e = .returned (HV (sumF bs)) ∧ Below w.heap.size w w' := by
  obtain ⟨A, c, rfl, hfit, hRd, _⟩ := H.tail.slice
  have hb := H.blk
  have hsum : sumF bs = endF (absN (bs.length / 64) kStart bs) (bs.drop (64 * (bs.length / 64))) bs.length := by unfold sumF; rw [Nat.mul_comm 64]
  have hr64 : (bs.drop (64 * (bs.length / 64))).length < 64 := by simp; omega
  obtain ⟨st, hst⟩ : ∃ st, st = absN (bs.length / 64) kStart bs := ⟨_, rfl⟩
  rw [← hst] at hb hsum
  obtain ⟨sa, sc, sd, se, sf, sg, sh, si⟩ := st
  generalize hrs : bs.drop (64 * (bs.length / 64)) = rs at *
  have hlt : h < w.heap.size := H.blk.lt
  have HH := Lib.hid (And.intro hsum (And.intro hr64 (And.intro hRd (And.intro H.big ht))))
  have HKEEP : Hid (∀ w', Below w.heap.size w w' → w'.there w.heap.size 0 32 → (w'.cell? ⟨h, 0, none⟩ = some (U sa) ∧ w'.cell? ⟨h, 1, none⟩ = some (U sc) ∧ w'.cell? ⟨h, 2, none⟩ = some (U sd) ∧ w'.cell? ⟨h, 3, none⟩ = some (U se) ∧ w'.cell? ⟨h, 4, none⟩ = some (U sf) ∧ w'.cell? ⟨h, 5, none⟩ = some (U sg) ∧ w'.cell? ⟨h, 6, none⟩ = some (U sh) ∧ w'.cell? ⟨h, 7, none⟩ = some (U si) ∧ w'.cell? ⟨h, 8, none⟩ = some (.slice A rs.length c) ∧ w'.cell? ⟨h, 9, none⟩ = some (.int .u64 (bs.length : Nat)) ∧ w'.there w.heap.size 0 32)) := Lib.hid (fun w' hb' hz => by
    have k : ∀ o, w'.cell? ⟨h, o, none⟩ = w.cell? ⟨h, o, none⟩ := fun o => hb'.cell (p := ⟨h, o, none⟩) hlt
    simp only [k]
    exact ⟨hb.cellD 0 _ rfl, hb.cellD 1 _ rfl, hb.cellD 2 _ rfl, hb.cellD 3 _ rfl, hb.cellD 4 _ rfl, hb.cellD 5 _ rfl, hb.cellD 6 _ rfl, hb.cellD 7 _ rfl, hb.cellD 8 _ rfl, hb.cellD 9 _ rfl, hz⟩)
  clear hst hrs hRd hlt hb H hsum hr64 ht
  go_enter Tryd.func16, Tryd.ntmps16
  go_wp2_with fail
  have hb0 : Below w.heap.size w (w.alloc (.cells (List.replicate 32 (B 0)).toArray 28)) := (Below.refl _ _).alloc (Nat.le_refl _) _
  have hz0 := Blk_new w (List.replicate 32 (B 0)) 28
  change Code.wp _ _ _ _ (w.alloc (.cells (List.replicate 32 (B 0)).toArray 28))
  generalize w.alloc (.cells (List.replicate 32 (B 0)).toArray 28) = w0 at *
  have H0 := Lib.hid (And.intro hb0 hz0)
  obtain ⟨cs, hcs⟩ : ∃ cs, cs = (sumF bs).map B := ⟨_, rfl⟩
  have hcl : cs.length = 32 := by rw [hcs, List.length_map, sumF_length]
  have hc1 : ∀ u ∈ cs, u.oneCell' = true := by rw [hcs]; exact one_bytes
  have hi28 : (Tryd.prog.info? 28).map (·.size) = some cs.length := by rw [hcl]; kernel_rfl
  have HCS := Lib.hid hcs
  clear hb0 hz0 hcs
  go_region_held3 (fun w' => w'.cell? ⟨h, 0, none⟩ = some (U sa) ∧ w'.cell? ⟨h, 1, none⟩ = some (U sc) ∧ w'.cell? ⟨h, 2, none⟩ = some (U sd) ∧ w'.cell? ⟨h, 3, none⟩ = some (U se) ∧ w'.cell? ⟨h, 4, none⟩ = some (U sf) ∧ w'.cell? ⟨h, 5, none⟩ = some (U sg) ∧ w'.cell? ⟨h, 6, none⟩ = some (U sh) ∧ w'.cell? ⟨h, 7, none⟩ = some (U si) ∧ w'.cell? ⟨h, 8, none⟩ = some (.slice A rs.length c) ∧ w'.cell? ⟨h, 9, none⟩ = some (.int .u64 (bs.length : Nat)) ∧ w'.there w.heap.size 0 32)
    (first | exact HKEEP.out _ (below_drewN H0.out.1 1) (H0.out.2.drew.there (by simp)) | exact HKEEP.out _ H4.out.1 (H4.out.2.there (by simp)) | exact HKEEP.out _ (H4.out.1.grown (grown_setCells _ _ _ _) H4.out.1.size (fun k e => by injection e with e; omega)) (World.there_setCells (H4.out.2.there (by simp)) _ _ _))
    (first | (go_at_call 56; refine (end_any ⟨sa, sc, sd, se, sf, sg, sh, si⟩ rs bs.length c A _ HH.out.2.1 (by have := HH.out.2.2.2.1; omega) (HH.out.2.2.1.below (below_drewN H0.out.1 1)) (HH.out.2.2.2.2.below (below_drewN H0.out.1 1) HH.out.2.2.2.2.lt)).mono ?_; rintro e w4 ⟨rfl, hb4⟩; rw [← HH.out.1, ← HCS.out]; have H4 := Lib.hid (And.intro (below_then (below_drewN H0.out.1 1) H0.out.1.size hb4) (H0.out.2.drew.below hb4)); clear hb4))
  have hw5 := H4.out.2.setCells0 (vs := cs) (by rw [hcl, List.length_replicate])
  have hb5 : Below w.heap.size w (w4.setCells w.heap.size 0 cs) := H4.out.1.grown (grown_setCells _ _ _ _) H4.out.1.size (fun k e => by injection e with e; omega)
  generalize w4.setCells w.heap.size 0 cs = w5 at *
  have H5 := Lib.hid (And.intro hw5 hb5)
  clear hw5 hb5
  go_wp2
  refine bodyPost_ret (results_blk rfl _ _ w.heap.size 28 cs _ rfl H5.out.1 Tryd.underlying28 rfl hi28) rfl ⟨?_, H5.out.2⟩
  rw [HCS.out]
#print axioms hsum_any
end Go.Proofs.YtcgdojdiihdkeaaDoor
