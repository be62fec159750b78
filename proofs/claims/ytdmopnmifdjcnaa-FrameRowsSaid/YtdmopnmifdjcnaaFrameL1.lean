/- Layer 3's law FrameLengths, walked. -/
import Derived.Test.YtdmopnmifdjcnaaFrameA
import Derived.Test.YtdmopnmifdjcnaaFrameP
namespace Go.Proofs.Ytdmopnmifdjcnaa
open Go Go.RowKit Go.Isth

theorem oneF_own (p : List UInt8) (h0 : 0 < p.length) (h1 : p.length ≤ 1048576) : oneF (record p) = .inl (p, p.length + 12) := by
  have := oneF_record p [] h0 h1
  rwa [List.append_nil] at this

/-- One of a record of the call's own. -/
theorem one_record (A : Option Addr) (n c : Nat) (p : List UInt8) (w : World) (h0 : 0 < p.length) (h1 : p.length ≤ 1048576) (hn : n = (record p).length) (hc : n ≤ c) (hr : Rd w A ((record p).map B)) :
    Calls Try.prog 10 #[.slice A n c] w fun e w' => ∃ v, e = .returned (.tuple #[v, .int .i64 ((p.length + 12 : Nat) : Int), .nilIface]) ∧ w'.ownsRow w.heap.size 5 1 v p.length (p.map B) ∧ Below w.heap.size w w' := by
  have hl := record_length p
  refine (one_any A n c (record p) w hn hc (by omega) hr).mono fun e w' ⟨hb, h⟩ => ?_
  rcases h with ⟨p', k, v, h, he, ho⟩ | ⟨k, v, h, _⟩
  · rw [oneF_own p h0 h1] at h
    injection h with h
    injection h with h2 h3
    subst h2
    subst h3
    exact ⟨v, he, ho, hb⟩
  · rw [oneF_own p h0 h1] at h
    cases h

set_option maxHeartbeats 1000000 in
theorem sure_any (w : World) : Calls Try.prog 9 #[] w fun e w' => e = .returned (.bool true) ∧ Below w.heap.size w w' := by
  have kc := fun (w : World) (C : Array Value) (n c : Nat) => Lib.run_convert_bytes_const (P := Try.prog) w 23 5 C n c Try.underlying23 Try.underlying5
  go_enter Try.func9, Try.ntmps9
  go_wp2_with fail
  refine (frame_ok _ 1 1 [97] _ rfl (by decide) (by decide) (Rd_alloc_mark _ _ _ _)).mono ?_
  rintro e w1 ⟨v1, rfl, ho1, hb1⟩
  obtain ⟨A1, c1, rfl, hc1, hr1, _, _⟩ := own_slice ho1
  have hb1' := ((Below.refl w.heap.size w).alloc (Nat.le_refl _) _).trans (hb1.mono (by simp))
  have hlr : (record [97]).length = 13 := record_length _
  rw [hlr] at hc1
  simp only [hlr]
  clear ho1 hb1
  go_wp2_with fail
  refine (one_record A1 13 c1 [97] w1 (by decide) (by decide) hlr.symm hc1 hr1).mono ?_
  rintro e w2 ⟨v2, rfl, ho2, hb2⟩
  obtain ⟨A2, c2, rfl, hc2, hr2, _, _⟩ := own_slice ho2
  have hb2' := below_trans hb1' hb2
  have hst := run_str Try.underlying23 Try.underlying5 Try.underlying9 A2 1 c2 [97] w2 rfl hr2
  clear ho2 hb2
  go_wp2_with fail
  refine (sum_rd _ 9 9 [49, 50, 51, 52, 53, 54, 55, 56, 57] _ rfl (by decide) (Rd_alloc_mark _ _ _ _)).mono ?_
  rintro e w3 ⟨rfl, rfl⟩
  rw [crc_check]
  go_wp2
  go_ret
  exact ⟨rfl, hb2'.alloc hb2'.size _⟩

set_option maxHeartbeats 1000000 in
set_option maxRecDepth 100000 in
theorem lengths_any (n : Int) (w : World) : Calls Try.prog 3 #[.int .i64 n] w fun e w' => e = .returned (.bool true) ∧ Below w.heap.size w w' := by
  obtain ⟨k, hk, hn⟩ := umod n 1048579 (by decide) (by decide)
  have hm := run_mk tB rfl k (by omega) (by omega)
  have HN := Lib.hid hn
  clear hn
  by_cases hk0 : k = 0 ∨ 1048576 < k
  · go_enter Try.func3, Try.ntmps3
    go_wp2_with fail
    simp only [HN.out, hm, Result.andThen]
    go_wp2_with fail
    have HK := Lib.hid hk0
    clear hk0
    refine (frame_bad _ k k _ HK.out (by omega)).mono ?_
    rintro e w1 ⟨v1, rfl, he, hb1⟩
    obtain ⟨b1, s1, rfl, hc1⟩ := he
    have hb1' := ((Below.refl w.heap.size w).alloc (Nat.le_refl _) _).trans (hb1.mono (by simp))
    clear hc1 hb1
    rcases HK.out with h | h
    · subst h
      go_wp2_with fail
      refine (sure_any _).mono ?_
      rintro e w2 ⟨rfl, hb2⟩
      go_wp2
      go_ret
      exact ⟨rfl, below_trans hb1' hb2⟩
    · have hz : ((k : Int) == 0) = false := by simp; omega
      have hg : (1048576 : Int) < (k : Int) := by omega
      go_wp2_with fail
      refine (sure_any _).mono ?_
      rintro e w2 ⟨rfl, hb2⟩
      go_wp2
      go_ret
      exact ⟨rfl, below_trans hb1' hb2⟩
  · have hz : ((k : Int) == 0) = false := by simp; omega
    have hg : ¬ (1048576 : Int) < (k : Int) := by omega
    have hkp : 0 < k := by omega
    have hkm : k ≤ 1048576 := by omega
    have hr0 : ∀ w : World, Rd (w.alloc (.cells (madeCells #[.int .u8 0] k) 5)) (some ⟨w.heap.size, 0, none⟩) ((List.replicate k (0 : UInt8)).map B) := fun w => by
      rw [List.map_replicate]; exact Rd_made w _ k _
    clear hk0
    go_enter Try.func3, Try.ntmps3
    go_wp2_with fail
    simp only [HN.out, hm, Result.andThen]
    go_wp2_with fail
    refine (frame_ok _ k k (List.replicate k 0) _ (by simp) (by simpa using hkp) (by simpa using hkm) (hr0 w)).mono ?_
    rintro e w1 ⟨v1, rfl, ho1, hb1⟩
    obtain ⟨A1, c1, rfl, hc1, hr1, _, _⟩ := own_slice ho1
    have hb1' := ((Below.refl w.heap.size w).alloc (Nat.le_refl _) _).trans (hb1.mono (by simp))
    have hlr : (record (List.replicate k (0 : UInt8))).length = k + 12 := by rw [record_length, List.length_replicate]
    have HLR := Lib.hid hlr
    have hc1' := hc1
    rw [hlr] at hc1'
    have HC1 := Lib.hid hc1'
    simp only [hlr]
    clear hc1'
    have HKM := Lib.hid hkm
    clear ho1 hb1 hlr hr0 hm hk hkm hc1
    go_wp2_with fail
    refine (one_record A1 (k + 12) c1 (List.replicate k 0) w1 (by simpa using hkp) (by simpa using HKM.out) HLR.out.symm HC1.out hr1).mono ?_
    rintro e w2 ⟨v2, rfl, ho2, hb2⟩
    obtain ⟨A2, c2, rfl, hc2, hr2, _, _⟩ := own_slice ho2
    have hb2' := below_trans hb1' hb2
    simp only [List.length_replicate]
    clear ho2 hb2 hr2 hc2 hr1
    go_wp2_with fail
    refine (sure_any _).mono ?_
    rintro e w3 ⟨rfl, hb3⟩
    go_wp2
    go_ret
    exact ⟨rfl, below_trans hb2' hb3⟩
end Go.Proofs.Ytdmopnmifdjcnaa
