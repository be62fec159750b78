/- Layer 3: Scan, Torn by their contracts. -/
import Derived.Test.YtdmopnmifdjcnaaDoorFrameA
import Derived.Test.YtdmopnmifdjcnaaDoorFrameP
import Derived.Deep.LoopGhost
namespace Go.Proofs.YtdmopnmifdjcnaaDoor
open Go Go.RowKit Go.Isth

theorem tBB : SlT Tryd.prog 34 22 (.slice none 0 0) 1 24 := ⟨Tryd.underlying34, by kernel_rfl, rfl, by decide⟩

/-- nil for 0, else an error of that number -/
def CodeIs (w : World) (v : Value) (k : Int) : Prop := (k = 0 ∧ v = .nilIface) ∨ (k ≠ 0 ∧ ErrIs w v k)
theorem CodeIs.below {w w' : World} {v : Value} {k : Int} (h : CodeIs w v k) (hb : Below w.heap.size w w') : CodeIs w' v k :=
  h.imp id fun ⟨h1, h2⟩ => ⟨h1, h2.below hb⟩

theorem torn_any (v : Value) (k : Int) (w : World) (h : CodeIs w v k) : Calls Tryd.prog 16 #[v] w fun e w' => e = .returned (.bool (k == 12)) ∧ w' = w := by
  rcases h with ⟨rfl, rfl⟩ | ⟨_, h⟩
  · go_enter Tryd.func16, Tryd.ntmps16
    go_wp2_with fail
    refine (is_nil _ _).mono ?_
    rintro e w' ⟨rfl, rfl⟩
    go_wp2
    go_ret
    exact ⟨rfl, rfl⟩
  · go_enter Tryd.func16, Tryd.ntmps16
    go_wp2_with fail
    refine (is_err v k 12 _ h).mono ?_
    rintro e w' ⟨rfl, rfl⟩
    go_wp2
    go_ret
    exact ⟨rfl, rfl⟩

/-- What Scan leaves. -/
def ScanPost (b : List UInt8) (w : World) (e : Ending) (w' : World) : Prop :=
  ∃ ps a code v vs ev, Scans b ps a code ∧ e = .returned (.tuple #[v, .int .i64 ((a : Nat) : Int), ev]) ∧ a ≤ b.length ∧ w'.ownsRow w.heap.size 22 1 v vs.length vs ∧ Rows1 w' w.heap.size 5 vs ps ∧ CodeIs w' ev code ∧ Below w.heap.size w w'
def ScanInv (b : List UInt8) (w : World) (v i : Value) (wr : World) : Prop :=
  ∃ at_ ps vs, i = .int .i64 ((at_ : Nat) : Int) ∧ at_ ≤ b.length ∧ (∀ ps2 a2 e2, Scans (b.drop at_) ps2 a2 e2 → Scans b (ps ++ ps2) (at_ + a2) e2) ∧ wr.ownsRow w.heap.size 22 1 v vs.length vs ∧ Rows1 wr w.heap.size 5 vs ps ∧ Below w.heap.size w wr ∧ 13 * vs.length ≤ at_

set_option maxHeartbeats 2000000 in
theorem scan_any (A : Option Addr) (n c : Nat) (b : List UInt8) (w : World) (hn : n = b.length) (hc : n ≤ c) (hbig : b.length ≤ 35184372088832) (hr : Rd w A (b.map B)) :
    Calls Tryd.prog 12 #[.slice A n c] w (ScanPost b w) := by
  have E := Lib.hid hn
  have HB := Lib.hid hbig
  clear hn hbig
  go_enter Tryd.func12, Tryd.ntmps12
  go_wp2
  go_loopw [5, 6] (fun v i wr => ScanInv b w v i wr) (fun _ i _ => b.length - (intOf i).toNat)
  case atStart => exact ⟨0, [], [], rfl, Nat.zero_le _, fun ps2 a2 e2 h => by simpa using h, World.ownsRow_nil _ _ _ _, Rows1.nil _ _ _, Below.refl _ _, by simp⟩
  case round =>
    obtain ⟨k, ps, vs, rfl, hk, hs, ho, hp, hb, hvs⟩ := hrel
    have hcut := run_cut_from tB A n c k (by omega) (by have := E.out; omega)
    rw [Int.toNat_natCast] at hcut
    have rk : Rd wr (cutA A c k 1) ((b.drop k).map B) := by
      have := (hr.below hb).cut c k 1 (b.length - k) (by have := E.out; simp; omega) (by simp; omega)
      rwa [map_drop_take, List.take_of_length_le (by simp)] at this
    have el : n - k = (b.drop k).length := by have := E.out; simp; omega
    have EL := Lib.hid el
    have HS := Lib.hid hs
    clear el hs
    go_wp2_with fail
    refine (one_any _ _ _ (b.drop k) _ EL.out (by omega) (by have := HB.out; simp; omega) rk).mono ?_
    rintro e w1 ⟨hb1, h⟩
    have hb1' := below_trans hb hb1
    clear hcut rk
    rcases h with ⟨p, m, v1, h1, rfl, ho1⟩ | ⟨m, v1, h1, rfl, he⟩
    · have H1 := Lib.hid h1
      obtain ⟨hm, hm2, hp0, _⟩ := oneF_inl h1
      have hadd : k + m ≤ b.length := by simp at hm2; omega
      have HM := Lib.hid (And.intro hm hp0)
      clear h1 hm2 hm hp0
      have hov := own_below ho hb1
      have hpv := (hp.below hb1).snoc (own_mono ho1 hb.size)
      obtain ⟨A1, c1, rfl, _, _, _, _⟩ := own_slice ho1
      clear ho hp hb ho1
      have hwz := hb1'.size
      have hbnd : vs.length ≤ 3000000000000 := by have := HB.out; omega
      have HBND := Lib.hid hbnd
      clear hbnd
      go_wp2_with fail
      refine (is_nil _ _).mono ?_
      rintro e w2 ⟨rfl, rfl⟩
      have hkm : (k : Int) + (m : Int) ≤ 35184372088832 := by have := HB.out; omega
      go_wp2_with (at_builtin; refine wpList_app tBB rfl _ _ rfl w.heap.size _ vs.length vs rfl (hov.alloc _) _ 1 1 _ rfl (Rd_alloc _ _ _) rfl ?c1 ?c2 ?c3 ?c4 ?_)
      case c1 => rfl
      case c2 => have := HBND.out; unfold maxLen; omega
      case c3 => have := HBND.out; omega
      case c4 => simp; omega
      intro v' w3 ho3 hx3
      go_wp2
      go_roundw
      case rel =>
        have hal : Below w2.heap.size w2 (w2.alloc (Obj.cells #[Value.slice A1 p.length c1] 22)) := (Below.refl _ _).alloc (Nat.le_refl _) _
        refine ⟨k + m, ps ++ [p], vs ++ [.slice A1 p.length c1], by go_num, hadd, fun ps2 a2 e2 h => ?_, ?_, ?_, ?_, ?_⟩
        · have := HS.out (p :: ps2) (m + a2) e2 (.more H1.out (by rwa [List.drop_drop]))
          simpa [Nat.add_assoc] using this
        · simpa using ho3
        · exact (hpv.below hal).ext (hov.alloc _) (by decide) hx3
        · exact (hb1'.alloc hb1'.size _).grown hx3.grown (by simp; omega) (fun j hj => (hov.lt j hj).1)
        · have h1 := HM.out.1; have h2 := HM.out.2; simp at h1 h2 ⊢; omega
      case measure => have h1 := HM.out.1; simp [intOf]; omega
    · have H1 := Lib.hid h1
      have hw2 := own_below ho hb1
      have hp2 := hp.below hb1
      have HS0 := Lib.hid (HS.out)
      by_cases h8 : m = 8
      · subst h8
        have HSC := Lib.hid (HS.out [] 0 0 (.stop H1.out))
        clear ho hp
        go_wp2_with fail
        refine (is_err v1 8 8 _ he).mono ?_
        rintro e w2 ⟨rfl, rfl⟩
        go_wp2
        go_ret3
        refine ⟨ps, k, 0, _, vs, .nilIface, by simpa using HSC.out, rfl, hk, hw2, hp2, .inl ⟨rfl, rfl⟩, hb1'⟩
      · have hne : ((m : Int) == 8) = false := by simpa using h8
        have hm0 : m ≠ 0 := by rcases oneF_inr h1 with h | h | h <;> omega
        have HSC := Lib.hid (HS.out [] 0 m (.bad H1.out h8))
        have HM0 := Lib.hid hm0
        have HE := Lib.hid he
        obtain ⟨b5, s5, rfl, hc5⟩ := he
        clear ho hp h8 hm0 h1 hc5
        go_wp2_with fail
        refine (is_err _ m 8 _ HE.out).mono ?_
        rintro e w2 ⟨rfl, rfl⟩
        go_wp2
        go_ret3
        refine ⟨ps, k, m, _, vs, _, by simpa using HSC.out, rfl, hk, hw2, hp2, .inr ⟨HM0.out, HE.out⟩, hb1'⟩
end Go.Proofs.YtdmopnmifdjcnaaDoor
