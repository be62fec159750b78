/- Layer 2's reader by its contracts. -/
import Derived.Test.YtdmopnmifdjcnaaDoorPackA
import Derived.Test.YtdmopnmifdjcnaaDoorPackQ
namespace Go.Proofs.YtdmopnmifdjcnaaDoor
open Go Go.RowKit Go.Isth

abbrev RIsG (G : Nat → Prop) (w : World) (r : Nat) (s : RS) : Prop := RdrIs 80 90 92 71 G w r s
abbrev RIs (w : World) (r : Nat) (s : RS) : Prop := RIsG (fun k => k = r) w r s
theorem rdr_widen {G : Nat → Prop} {w : World} {r : Nat} {s : RS} (h : RIs w r s) (hG : ∀ k, G k → k = r ∨ w.heap.size ≤ k) : RIsG G w r s := by
  obtain ⟨A, c, ev, hc, hf, hr, hn, hs, h0, h1⟩ := h.of
  refine ⟨A, c, ev, hc, hf, hr, ⟨fun hp ad e hg => ?_, fun b e hg => ?_⟩, hs, h0, h1⟩
  · rcases hG _ hg with h | h
    · exact hn.1 hp ad e h
    · obtain ⟨b, o, e2, hlt, _⟩ := hr.at_ (by simpa using hp)
      rw [e] at e2
      cases e2
      simp only at h
      omega
  · rcases hG _ hg with h | h
    · exact hn.2 b e h
    · rcases he : s.err with _ | k
      · rw [h0 he] at e; cases e
      · obtain ⟨b', t, e', hb⟩ := h1 k he
        rw [e'] at e
        injection e with _ e; injection e with e; injection e with e; injection e with e
        subst e
        have := (Array.getElem?_eq_some_iff.1 hb).1
        omega
theorem rdr_narrow {G : Nat → Prop} {w : World} {r : Nat} {s : RS} (h : RIsG G w r s) (hGr : G r) : RIs w r s := by
  obtain ⟨A, c, ev, hc, hf, hr, hn, hs, h0, h1⟩ := h.of
  exact ⟨A, c, ev, hc, hf, hr, ⟨fun hp ad e hg => hn.1 hp ad e (by rw [hg]; exact hGr), fun b e hg => hn.2 b e (by rw [hg]; exact hGr)⟩, hs, h0, h1⟩
/-- A block that the reader does not read has turned. -/
theorem rdr_beside {G : Nat → Prop} {w w' : World} {r g : Nat} {s : RS} (h : RIsG G w r s) (hGg : G g) (hne : g ≠ r) (hg : w.grownBy w' (some g)) : RIsG G w' r s := by
  obtain ⟨A, c, ev, hc, hf, hr, hn, hs, h0, h1⟩ := h.of
  refine ⟨A, c, ev, by rw [hg.block r (Array.getElem?_eq_some_iff.1 hc).1 (by simpa using fun e => hne e.symm)]; exact hc, hf, rd_grown hr hg (fun hp ad e e' => hn.1 (by simpa using hp) ad e (by injection e' with e'; rw [← e']; exact hGg)), hn, hs, h0, fun k hk => ?_⟩
  obtain ⟨b, t, e, hb⟩ := h1 k hk
  exact ⟨b, t, e, by rw [hg.block b (Array.getElem?_eq_some_iff.1 hb).1 (fun e' => hn.2 b e (by injection e' with e'; rw [e']; exact hGg))]; exact hb⟩

theorem read_any (A : Option Addr) (c : Nat) (bs : List UInt8) (w : World) (hr : Rd w A (bs.map B)) (hc : bs.length ≤ c) (hm : bs.length ≤ 140737488351232) :
    Calls Tryd.prog 20 #[.slice A bs.length c] w fun e w' => e = .returned (Ptr w.heap.size) ∧ RIs w' w.heap.size ⟨bs, none⟩ ∧ Below w.heap.size w w' := by
  have HM := Lib.hid hm
  have HC := Lib.hid hc
  clear hm hc
  go_enter Tryd.func20, Tryd.ntmps20
  go_wp2
  go_ret
  have hb : Below w.heap.size w (w.alloc (.cells #[.slice A bs.length c, .nilIface] 80)) := (Below.refl _ _).alloc (Nat.le_refl _) _
  refine ⟨rfl, ⟨A, c, _, heap_alloc_new w _, HC.out, hr.below hb, ⟨fun h0 ad e e' => ?_, fun b e => by cases e⟩, HM.out, fun _ => rfl, fun k h => (by cases h)⟩, hb⟩
  obtain ⟨b, o, e2, hlt, _⟩ := hr.at_ (by simpa using h0)
  rw [e] at e2
  cases e2
  simp only at e'
  omega

theorem live_any {G : Nat → Prop} (r : Nat) (s : RS) (w : World) (h : RIsG G w r s) :
    Calls Tryd.prog 43 #[Ptr r] w fun e w' => e = .returned (.bool (decide (s.err = none))) ∧ w' = w := by
  obtain ⟨A, c, ev, hc, _, _, _, _, h0, h1⟩ := h.of
  obtain ⟨_, hc1, _, _, _⟩ := two_cells hc
  rcases he : s.err with _ | k
  · obtain rfl := h0 he
    clear hc h0 h1 h he
    go_enter Tryd.func43, Tryd.ntmps43
    go_wp2
    go_ret
    exact ⟨rfl, rfl⟩
  · obtain ⟨b, t, rfl, _⟩ := h1 k he
    clear hc h0 h1 h he
    go_enter Tryd.func43, Tryd.ntmps43
    go_wp2
    go_ret
    exact ⟨rfl, rfl⟩

theorem fail_anyG {G : Nat → Prop} (r : Nat) (s : RS) (t : ByteArray) (k : Int) (w : World) (h : RIsG G w r s) (hGr : G r) (hGn : ¬ G w.heap.size) :
    Calls Tryd.prog 45 #[Ptr r, .string t, .int .i64 k] w fun e w' => e = .returned (.tuple #[]) ∧ RIsG G w' r (s.fail k) ∧ w.grownBy w' (some r) := by
  obtain ⟨A, c, ev, hc, hf, hr, hn, hs, h0, h1⟩ := h.of
  obtain ⟨hc0, hc1, hf0, hf1, hlt⟩ := two_cells hc
  rcases he : s.err with _ | k'
  · obtain rfl := h0 he
    have H := Lib.hid h
    have HE := Lib.hid he
    have HC := Lib.hid hc
    have HF := Lib.hid (And.intro hf hs)
    have HN := Lib.hid hn
    have HGN := Lib.hid hGn
    clear hc h0 h1 h he hf hn hs hGn
    go_enter Tryd.func45, Tryd.ntmps45
    have hba : ∀ o, (w.alloc o).heap[r]? = w.heap[r]? := fun o => ((Below.refl w.heap.size w).alloc (Nat.le_refl _) o).block r hlt
    have hca : ∀ o, (w.alloc o).cell? ⟨r, 1, none⟩ = some .nilIface := fun o => (World.cell?_of_block (w := w) (a := ⟨r, 1, none⟩) (hba o)).trans hc1
    have hfa : ∀ o, (w.alloc o).frozen? ⟨r, 1, none⟩ = false := fun o => (World.frozen?_of_block (w := w) (a := ⟨r, 1, none⟩) (hba o)).trans hf1
    go_wp2
    go_end0
    refine ⟨rfl, ?_, ?_⟩
    · unfold RS.fail
      rw [if_pos HE.out, ← World.setCell_alloc_past _ _ _ _ hlt]
      exact RdrIs.failed hGr ((hba _).trans HC.out) HF.out.1 (hr.alloc _) HN.out HF.out.2 HGN.out (heap_alloc_new w _)
    · rw [← World.setCell_alloc_past _ _ _ _ hlt]
      exact grown_one (grown_alloc _ _ _) (grown_set _ _ _ _)
  · obtain ⟨b, u, rfl, _⟩ := h1 k' he
    have H := Lib.hid h
    have HE := Lib.hid he
    clear hc h0 h1 h he hf hn hs hGn
    go_enter Tryd.func45, Tryd.ntmps45
    go_wp2
    go_end0
    refine ⟨rfl, ?_, World.grownBy.refl _ _⟩
    unfold RS.fail
    rw [if_neg (by rw [HE.out]; simp)]
    exact H.out

theorem fail_any (r : Nat) (s : RS) (t : ByteArray) (k : Int) (w : World) (h : RIs w r s) :
    Calls Tryd.prog 45 #[Ptr r, .string t, .int .i64 k] w fun e w' => e = .returned (.tuple #[]) ∧ RIs w' r (s.fail k) ∧ w.grownBy w' (some r) :=
  fail_anyG r s t k w h rfl (fun e => by have := h.lt; omega)

def NumPost (bs : List UInt8) (w : World) (e : Ending) (w' : World) : Prop :=
  w' = w ∧ match numF 10 0 0 bs with
    | .inl k => e = .returned (.tuple #[.int .u64 0, .int .i64 0, .int .i64 k])
    | .inr (n, k) => e = .returned (.tuple #[.int .u64 n, .int .i64 k, .int .i64 0])

def NumInv (bs : List UInt8) (x i : Value) : Prop :=
  ∃ k acc : Nat, i = .int .i64 k ∧ x = .int .u64 acc ∧ k ≤ 10 ∧ k ≤ bs.length ∧ acc < 128 ^ k ∧ numF 10 0 0 bs = numF (10 - k) k acc (bs.drop k)

set_option maxRecDepth 100000 in
set_option maxHeartbeats 1000000 in
theorem number_any (A : Option Addr) (c : Nat) (bs : List UInt8) (w : World) (hr : Rd w A (bs.map B)) (hm : bs.length ≤ 140737488351232) :
    Calls Tryd.prog 44 #[.slice A bs.length c] w (NumPost bs w) := by
  have HM := Lib.hid hm
  have HR := Lib.hid hr
  clear hm hr
  go_enter Tryd.func44, Tryd.ntmps44
  go_wp2_with fail
  go_loop [5, 8] (fun x i => NumInv bs x i) (fun _ i => 10 - (intOf i).toNat)
  case atStart => exact ⟨0, 0, rfl, rfl, by omega, by omega, by decide, by simp⟩
  case round =>
    obtain ⟨k, acc, rfl, rfl, hk, hkl, hacc, hnum⟩ := hrel
    by_cases h10 : k = 10
    · subst h10
      have HN := Lib.hid hnum
      clear hnum hacc hkl hk
      go_wp2
      go_ret3
      refine ⟨rfl, ?_⟩
      rw [HN.out]
      simp [numF]
    · have hk10 : k < 10 := by omega
      by_cases hend : k = bs.length
      · have HN := Lib.hid hnum
        have HE := Lib.hid hend
        have hq : (((k : Int) == (bs.length : Int))) = true := by rw [hend]; simp
        clear hnum hacc hkl hk h10 hend
        go_wp2
        go_ret3
        refine ⟨rfl, ?_⟩
        rw [HN.out, show 10 - k = (9 - k) + 1 from by omega, HE.out, List.drop_length]
        simp [numF]
      · have hlt : k < bs.length := by omega
        obtain ⟨b, o, rfl, _, hcell⟩ := HR.out.at_ (by simp; omega)
        have hck := hcell k (by simpa using hlt)
        simp only [List.getElem_map] at hck
        rw [List.drop_eq_getElem_cons hlt, show 10 - k = (9 - k) + 1 from by omega, numF] at hnum
        generalize bs[k] = x at *
        have hx := x.toNat_lt
        have HN := Lib.hid hnum
        clear hnum hcell
        by_cases h9 : k = 9
        · subst h9
          by_cases hx1 : x.toNat ≤ 1
          · obtain ⟨_, hacE⟩ := accE 9 acc x (by omega) (fun _ => hx1) hacc
            rw [show (2 : Int) ^ (7 * 9) = 9223372036854775808 from by decide] at hacE
            by_cases hx0 : x.toNat = 0
            · have hx0' : (((x.toNat : Int)) == 0) = true := by rw [hx0]; rfl
              have hx0i : ((x.toNat : Nat) : Int) = 0 := by omega
              have HX := Lib.hid hx0
              clear hacE hacc h10 hk hkl hend hk10 hx hx1 hx0 hx0'
              go_wp2
              go_ret3
              refine ⟨rfl, ?_⟩
              rw [HN.out, HX.out]
              simp
            · have hx1' : x.toNat = 1 := by omega
              have hx1i : ((x.toNat : Nat) : Int) = 1 := by omega
              have HX := Lib.hid hx1'
              have HA := Lib.hid hacE
              clear hacE hacc h10 hk hkl hend hk10 hx hx1 hx0 hx1'
              go_wp2
              go_ret3
              refine ⟨rfl, ?_⟩
              rw [HN.out, HX.out]
              have h := HA.out
              rw [HX.out] at h
              simpa using h
          · have hx2 : (1 : Int) < (x.toNat : Int) := by omega
            have HX := Lib.hid hx1
            clear hacc h10 hk hkl hend hk10 hx hx1
            go_wp2
            go_ret3
            refine ⟨rfl, ?_⟩
            rw [HN.out]
            rw [if_pos ⟨trivial, Nat.lt_of_not_le HX.out⟩]
            exact rfl
        · obtain ⟨hb64, hacE⟩ := accE k acc x hk10 (fun h => absurd h h9) hacc
          by_cases hx128 : x.toNat < 128
          · by_cases hx0 : x.toNat = 0
            · have hx0i : ((x.toNat : Nat) : Int) = 0 := by omega
              have HX := Lib.hid hx0
              by_cases hk0 : 0 < k
              · have HK := Lib.hid (And.intro h9 hk0)
                clear hacE hacc hkl hend hx hx0 hb64
                go_wp2
                go_ret3
                refine ⟨rfl, ?_⟩
                rw [HN.out, HX.out, if_neg (fun h => HK.out.1 h.1)]
                simp [HK.out.2]
              · obtain rfl : k = 0 := by omega
                have HA := Lib.hid hacE
                clear hacE hacc hkl hend hx hx0 hb64
                simp only [Nat.add_zero] at hck
                go_wp2
                go_ret3
                refine ⟨rfl, ?_⟩
                have h := HA.out
                rw [HX.out] at h
                rw [HN.out, HX.out]
                simpa using h
            · have hx0i : (((x.toNat : Int)) == 0) = false := by simp; omega
              have HA := Lib.hid hacE
              have HK := Lib.hid (And.intro h9 (And.intro hx128 hx0))
              have hxi : ((x.toNat : Nat) : Int) < 128 := by omega
              clear hacE hacc hkl hend hx hx0 hb64 hx128
              go_wp2
              go_ret3
              refine ⟨rfl, ?_⟩
              rw [HN.out, if_neg (fun h => HK.out.1 h.1), if_pos HK.out.2.1, if_neg (fun h => HK.out.2.2 h.1), HA.out]
              exact rfl
          · have HA := Lib.hid hacE
            have HK := Lib.hid (And.intro h9 (And.intro hx128 hacc))
            have HL := Lib.hid hlt
            have hq : (((k : Int) == (bs.length : Int))) = false := by simp; omega
            have hxi : (128 : Int) ≤ ((x.toNat : Nat) : Int) := by omega
            clear hacE hacc hkl hend hx hb64 hx128 hlt
            go_wp2
            go_round
            case rel =>
              refine ⟨k + 1, acc + x.toNat % 128 * 128 ^ k, by simp, congrArg (Value.int .u64) HA.out, by omega, HL.out, ?_, ?_⟩
              · rw [Nat.pow_succ]
                have := HK.out.2.2
                have h2 : x.toNat % 128 * 128 ^ k ≤ 127 * 128 ^ k := Nat.mul_le_mul_right _ (by omega)
                omega
              · rw [HN.out, if_neg (fun h => HK.out.1 h.1), if_neg HK.out.2.1, show 10 - (k + 1) = 9 - k from by omega]
            case measure => simp [intOf]; omega
end Go.Proofs.YtdmopnmifdjcnaaDoor
