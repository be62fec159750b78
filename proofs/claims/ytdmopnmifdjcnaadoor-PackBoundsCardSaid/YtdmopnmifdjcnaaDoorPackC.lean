/- Layer 2's reader: Uint, take, Bool, Done, and what must come. -/
import Derived.Test.YtdmopnmifdjcnaaDoorPackB
namespace Go.Proofs.YtdmopnmifdjcnaaDoor
open Go Go.RowKit Go.Isth

set_option maxRecDepth 100000 in
theorem ruint_any (r : Nat) (s : RS) (most : Nat) (w : World) (h : RIs w r s) :
    Calls Tryd.prog 21 #[Ptr r, .int .u64 most] w fun e w' => e = .returned (.int .u64 ((s.uint most).1 : Nat)) ∧ RIs w' r (s.uint most).2 ∧ w.grownBy w' (some r) := by
  have H := Lib.hid h
  clear h
  rcases he : s.err with _ | k
  · obtain ⟨A, c, ev, hc, hf, hr, hn, hs, h0, h1⟩ := H.out.of
    obtain rfl := h0 he
    obtain ⟨hc0, hc1, hf0, hf1, hlt⟩ := two_cells hc
    have HE := Lib.hid he
    have HC := Lib.hid hc
    have HF := Lib.hid hf
    have HN := Lib.hid hn
    have HS := Lib.hid hs
    have HR := Lib.hid hr
    clear h0 h1 he hc hf hn hs hr
    go_enter Tryd.func21, Tryd.ntmps21
    go_wp2_with fail
    refine (live_any r s w H.out).mono ?_
    rintro e w1 ⟨rfl, rfl⟩
    rw [HE.out]
    go_wp2_with fail
    refine (number_any A c s.rest w1 HR.out HS.out).mono ?_
    rintro e w2 ⟨rfl, hnum⟩
    rcases hN : numF 10 0 0 s.rest with k | ⟨n, k⟩
    · rw [hN] at hnum
      subst hnum
      have HNum := Lib.hid hN
      have hk0 : k = 3 ∨ k = 12 := by
        have key : ∀ (f i acc : Nat) (bs : List UInt8) (k : Int), numF f i acc bs = .inl k → k = 3 ∨ k = 12 := by
          intro f
          induction f with
          | zero => intro i acc bs k h; simp [numF] at h; exact .inl h.symm
          | succ f ih =>
            intro i acc bs k h
            cases bs with
            | nil => simp [numF] at h; exact .inr h.symm
            | cons c cs =>
              rw [numF] at h
              split at h
              · cases h; exact .inl rfl
              · split at h
                · split at h
                  · cases h; exact .inl rfl
                  · cases h
                · exact ih _ _ _ _ h
        exact key _ _ _ _ _ hN
      have hk1 : ((k == 0) : Bool) = false := by rcases hk0 with rfl | rfl <;> rfl
      clear hN
      go_wp2_with fail
      refine (fail_any r s _ k w2 H.out).mono ?_
      rintro e w3 ⟨rfl, h3, h4⟩
      go_wp2
      go_ret
      unfold RS.uint
      rw [if_neg (by rw [HE.out]; simp), HNum.out]
      exact ⟨rfl, h3, h4⟩
    · rw [hN] at hnum
      subst hnum
      obtain ⟨hk0, hk1⟩ := numF_bounds _ _ _ _ _ _ hN
      have HNum := Lib.hid hN
      clear hN
      by_cases hm : most < n
      · have hmi : (most : Int) < (n : Int) := by omega
        have HM := Lib.hid hm
        clear hm
        go_wp2_with fail
        refine (fail_any r s _ 4 w2 H.out).mono ?_
        rintro e w3 ⟨rfl, h3, h4⟩
        go_wp2
        go_ret
        unfold RS.uint
        rw [if_neg (by rw [HE.out]; simp), HNum.out]
        simp only [if_pos HM.out]
        exact ⟨rfl, h3, h4⟩
      · have hmi : (n : Int) ≤ (most : Int) := by omega
        have HM := Lib.hid hm
        have hcut := run_cut_from tBp A s.rest.length c k (by omega) (by omega) w2
        rw [Int.toNat_natCast] at hcut
        have HK := Lib.hid hk1
        clear hm hk0 hk1
        go_wp2
        go_ret
        unfold RS.uint
        rw [if_neg (by rw [HE.out]; simp), HNum.out]
        simp only [if_neg HM.out]
        have hl : (s.rest.drop k).length = s.rest.length - k := by simp
        have hR := HR.out.cut c k 1 (s.rest.length - k) (by simpa using HF.out) (by have := HK.out; simp; omega)
        rw [← List.map_drop, Nat.mul_one, List.take_of_length_le (by simp)] at hR
        refine ⟨rfl, ?_, grown_set _ _ _ _⟩
        rw [← hl]
        refine RdrIs.cut (G := fun k => k = r) (s := s) (s' := { s with rest := s.rest.drop k }) (tF := 92) (by decide) rfl HC.out ?_ hR ⟨?_, HN.out.2⟩ ?_ ?_ ?_
        · have := HF.out; simp only [hl]; omega
        · intro hp ad e
          obtain ⟨a, ea, eb⟩ := cutA_block e
          rw [← eb]
          exact HN.out.1 (by simp at hp; omega) a ea
        · have := HS.out; simp only [hl]; omega
        · exact fun _ => rfl
        · intro k' h; rw [HE.out] at h; cases h
  · have HE := Lib.hid he
    clear he
    go_enter Tryd.func21, Tryd.ntmps21
    go_wp2_with fail
    refine (live_any r s w H.out).mono ?_
    rintro e w1 ⟨rfl, rfl⟩
    rw [HE.out]
    go_wp2
    go_ret
    unfold RS.uint
    rw [if_pos (by rw [HE.out]; simp)]
    exact ⟨rfl, H.out, World.grownBy.refl _ _⟩

set_option maxRecDepth 100000 in
theorem take_anyG {G : Nat → Prop} (r : Nat) (s : RS) (t : ByteArray) (n : Nat) (w : World) (h : RIsG G w r s) (hnm : n ≤ 1152921504606846976) (hGr0 : G r) (hGn0 : ¬ G w.heap.size) :
    Calls Tryd.prog 46 #[Ptr r, .string t, .int .i64 n] w fun e w' => ∃ v, e = .returned v ∧ w'.ownsRow w.heap.size 5 1 v (s.take n).1.length ((s.take n).1.map B) ∧ RIsG G w' r (s.take n).2 ∧ w.grownBy w' (some r) := by
  have H := Lib.hid h
  have HNM := Lib.hid hnm
  have HGR := Lib.hid hGr0
  have HGN := Lib.hid hGn0
  clear h hnm hGr0 hGn0
  rcases he : s.err with _ | k
  · obtain ⟨A, c, ev, hc, hf, hr, hn, hs, h0, h1⟩ := H.out.of
    obtain rfl := h0 he
    obtain ⟨hc0, hc1, hf0, hf1, hlt⟩ := two_cells hc
    have HE := Lib.hid he
    have HC := Lib.hid hc
    have HF := Lib.hid hf
    have HN := Lib.hid hn
    have HS := Lib.hid hs
    have HR := Lib.hid hr
    clear h0 h1 he hc hf hn hs hr
    go_enter Tryd.func46, Tryd.ntmps46
    go_wp2_with fail
    refine (live_any r s w H.out).mono ?_
    rintro e w1 ⟨rfl, rfl⟩
    rw [HE.out]
    by_cases hle : s.rest.length < n
    · have hi : ((s.rest.length : Nat) : Int) < (n : Int) := by omega
      have HL := Lib.hid hle
      clear hle
      go_wp2_with fail
      refine (fail_anyG r s _ 12 w1 H.out HGR.out HGN.out).mono ?_
      rintro e w3 ⟨rfl, h3, h4⟩
      go_wp2
      go_ret
      unfold RS.take
      rw [if_neg (by rw [HE.out]; simp), if_pos HL.out]
      exact ⟨_, rfl, World.ownsRow_nil _ _ _ _, h3, h4⟩
    · have hi : (n : Int) ≤ ((s.rest.length : Nat) : Int) := by omega
      have HL := Lib.hid hle
      have hc1 := run_cut_to tBp A s.rest.length c n (by omega) (by have := HF.out; omega) w1
      rw [Int.toNat_natCast] at hc1
      have hR1 := HR.out.front n
      rw [← List.map_take] at hR1
      have el : n = (s.rest.take n).length := by simp; omega
      have HEL := Lib.hid el
      clear hle el
      go_wp2_with (at_builtin; refine wpList_app tBp rfl _ _ rfl w1.heap.size _ 0 [] rfl (World.ownsRow_nil _ _ _ _) _ n _ _ rfl hR1 (by rw [List.length_map]; have := HEL.out; omega) one_bytes ?c2 ?c3 (Nat.le_refl _) ?_)
      case c2 => have := HS.out; have := HL.out; unfold maxLen; omega
      case c3 => have := HS.out; have := HL.out; omega
      intro v1 w2 ho1 hx1
      have hb1 : Below w1.heap.size w1 w2 := hx1.below (Nat.le_refl _) (fun k e => by cases e)
      have hcc := (hb1.block r hlt).trans HC.out
      obtain ⟨hd0, hd1, hg0, hg1, hlt2⟩ := two_cells hcc
      have hcut := run_cut_from tBp A s.rest.length c n (by omega) (by have := HL.out; omega) w2
      rw [Int.toNat_natCast] at hcut
      have HO := Lib.hid ho1
      have HX := Lib.hid hx1
      have HB := Lib.hid hb1
      have HCC := Lib.hid hcc
      clear ho1 hx1 hb1 hcc hc1 hR1
      go_wp2
      go_ret
      unfold RS.take
      rw [if_neg (by rw [HE.out]; simp), if_neg HL.out]
      have hl : (s.rest.drop n).length = s.rest.length - n := by simp
      have hR := (HR.out.below HB.out).cut c n 1 (s.rest.length - n) (by simpa using HF.out) (by have := HL.out; simp; omega)
      rw [← List.map_drop, Nat.mul_one, List.take_of_length_le (by simp)] at hR
      refine ⟨_, rfl, ?_, ?_, grown_one (grown_of_below HB.out _) (grown_set _ _ _ _)⟩
      · have ho := HO.out
        rw [← List.map_take] at ho
        refine (?_ : World.ownsRow _ _ _ _ v1 (s.rest.take n).length ((s.rest.take n).map B))
        rw [← HEL.out]
        refine ho.kept (grown_set w2 r 0 _) ?_
        rcases hob : v1.ownBlock with _ | k
        · exact .inl rfl
        · refine .inr fun e => ?_
          have := (ho.lt k hob).1
          simp at e
          omega
      · rw [← hl]
        refine RdrIs.cut (s := s) (s' := { s with rest := s.rest.drop n }) (tF := 92) (by decide) HGR.out HCC.out ?_ hR ⟨?_, HN.out.2⟩ ?_ ?_ ?_
        · have := HF.out; simp only [hl]; omega
        · intro hp ad e
          obtain ⟨a, ea, eb⟩ := cutA_block e
          rw [← eb]
          exact HN.out.1 (by simp at hp; omega) a ea
        · have := HS.out; simp only [hl]; omega
        · exact fun _ => rfl
        · intro k' h; rw [HE.out] at h; cases h
  · have HE := Lib.hid he
    clear he
    go_enter Tryd.func46, Tryd.ntmps46
    go_wp2_with fail
    refine (live_any r s w H.out).mono ?_
    rintro e w1 ⟨rfl, rfl⟩
    rw [HE.out]
    go_wp2
    go_ret
    unfold RS.take
    rw [if_pos (by rw [HE.out]; simp)]
    exact ⟨_, rfl, World.ownsRow_nil _ _ _ _, H.out, World.grownBy.refl _ _⟩

theorem take_any (r : Nat) (s : RS) (t : ByteArray) (n : Nat) (w : World) (h : RIs w r s) (hnm : n ≤ 1152921504606846976) :
    Calls Tryd.prog 46 #[Ptr r, .string t, .int .i64 n] w fun e w' => ∃ v, e = .returned v ∧ w'.ownsRow w.heap.size 5 1 v (s.take n).1.length ((s.take n).1.map B) ∧ RIs w' r (s.take n).2 ∧ w.grownBy w' (some r) :=
  take_anyG r s t n w h hnm rfl (fun e => by have := h.lt; omega)

theorem err_any (r : Nat) (s : RS) (w : World) (h : RIs w r s) :
    Calls Tryd.prog 26 #[Ptr r] w fun e w' => ∃ v, e = .returned v ∧ w' = w ∧ (s.err = none → v = .nilIface) ∧ (∀ k, s.err = some k → ErrAt 90 92 71 w v k) := by
  obtain ⟨A, c, ev, hc, hf, hr, hn, hs, h0, h1⟩ := h.of
  obtain ⟨hc0, hc1, hf0, hf1, hlt⟩ := two_cells hc
  clear hc hf hr hn hs h
  go_enter Tryd.func26, Tryd.ntmps26
  go_wp2
  go_ret
  exact ⟨_, rfl, rfl, h0, h1⟩

def RS.doneErr (s : RS) : Option Int := if s.err = none ∧ 0 < s.rest.length then some 3 else s.err
theorem rdone_any (r : Nat) (s : RS) (w : World) (h : RIs w r s) :
    Calls Tryd.prog 49 #[Ptr r] w fun e w' => ∃ v, e = .returned v ∧ Below w.heap.size w w' ∧ (RS.doneErr s = none → v = .nilIface) ∧ (∀ k, RS.doneErr s = some k → ErrAt 90 92 71 w' v k) := by
  have H := Lib.hid h
  obtain ⟨A, c, ev, hc, hf, hr, hn, hs, h0, h1⟩ := h.of
  obtain ⟨hc0, hc1, hf0, hf1, hlt⟩ := two_cells hc
  have HS := Lib.hid hs
  clear hc hf hr hn h hs h0 h1
  rcases he : s.err with _ | k
  · have HE := Lib.hid he
    clear he
    by_cases hp : 0 < s.rest.length
    · have hpi : (0 : Int) < ((s.rest.length : Nat) : Int) := by omega
      have HP := Lib.hid hp
      clear hp
      go_enter Tryd.func49, Tryd.ntmps49
      go_wp2_with fail
      refine (live_any r s w H.out).mono ?_
      rintro e w1 ⟨rfl, rfl⟩
      rw [HE.out]
      go_wp2
      go_ret
      refine ⟨_, rfl, (Below.refl _ _).alloc (Nat.le_refl _) _, fun h => ?_, fun k h => ?_⟩
      · unfold RS.doneErr at h; rw [if_pos ⟨HE.out, HP.out⟩] at h; cases h
      · unfold RS.doneErr at h; rw [if_pos ⟨HE.out, HP.out⟩] at h; cases h; exact ⟨_, _, rfl, heap_alloc_new w1 _⟩
    · have hpi : ((s.rest.length : Nat) : Int) ≤ 0 := by omega
      have HP := Lib.hid hp
      clear hp
      go_enter Tryd.func49, Tryd.ntmps49
      go_wp2_with fail
      refine (live_any r s w H.out).mono ?_
      rintro e w1 ⟨rfl, rfl⟩
      rw [HE.out]
      go_wp2_with fail
      refine (err_any r s w1 H.out).mono ?_
      rintro e w2 ⟨v, rfl, rfl, h0, h1⟩
      go_wp2
      go_ret
      refine ⟨v, rfl, Below.refl _ _, fun _ => h0 HE.out, fun k h => ?_⟩
      unfold RS.doneErr at h; rw [if_neg (fun h => HP.out h.2)] at h; exact h1 k h
  · have HE := Lib.hid he
    clear he
    go_enter Tryd.func49, Tryd.ntmps49
    go_wp2_with fail
    refine (live_any r s w H.out).mono ?_
    rintro e w1 ⟨rfl, rfl⟩
    rw [HE.out]
    go_wp2_with fail
    refine (err_any r s w1 H.out).mono ?_
    rintro e w2 ⟨v, rfl, rfl, h0, h1⟩
    go_wp2
    go_ret
    refine ⟨v, rfl, Below.refl _ _, fun h => ?_, fun k' h => ?_⟩
    · unfold RS.doneErr at h; rw [if_neg (fun h => by rw [HE.out] at h; cases h.1), HE.out] at h; cases h
    · unfold RS.doneErr at h; rw [if_neg (fun h => by rw [HE.out] at h; cases h.1)] at h; exact h1 k' h
end Go.Proofs.YtdmopnmifdjcnaaDoor
