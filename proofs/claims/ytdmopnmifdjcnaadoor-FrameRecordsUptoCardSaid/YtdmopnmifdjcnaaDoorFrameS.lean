/- Layer 3's small helps (isthmuslaw03.sure, twin), for a seat that has not FrameLengths. -/
import Derived.Test.YtdmopnmifdjcnaaDoorFrameA
import Derived.Test.YtdmopnmifdjcnaaDoorFrameP
namespace Go.Proofs.YtdmopnmifdjcnaaDoor
open Go Go.RowKit Go.Isth

theorem oneF_own (p : List UInt8) (h0 : 0 < p.length) (h1 : p.length ≤ 1048576) : oneF (record p) = .inl (p, p.length + 12) := by
  have := oneF_record p [] h0 h1
  rwa [List.append_nil] at this

/-- One of a record of the call's own. -/
theorem one_record (A : Option Addr) (n c : Nat) (p : List UInt8) (w : World) (h0 : 0 < p.length) (h1 : p.length ≤ 1048576) (hn : n = (record p).length) (hc : n ≤ c) (hr : Rd w A ((record p).map B)) :
    Calls Tryd.prog 10 #[.slice A n c] w fun e w' => ∃ v, e = .returned (.tuple #[v, .int .i64 ((p.length + 12 : Nat) : Int), .nilIface]) ∧ w'.ownsRow w.heap.size 5 1 v p.length (p.map B) ∧ Below w.heap.size w w' := by
  have hl := record_length p
  refine (one_any A n c (record p) w hn hc (by omega) hr).mono fun e w' ⟨hb, h⟩ => ?_
  rcases h with ⟨p', k, v, h, he, ho⟩ | ⟨k, v, h, _⟩
  · rw [oneF_own p h0 h1] at h
    injection h with h
    injection h with h2 h3
    subst h2
    subst h3
    exact ⟨v, he, ho, hb⟩
  · rw [oneF_own p h0 h1] at h
    cases h

set_option maxHeartbeats 1000000 in
theorem sure_any (w : World) : Calls Tryd.prog 19 #[] w fun e w' => e = .returned (.bool true) ∧ Below w.heap.size w w' := by
  have kc := fun (w : World) (C : Array Value) (n c : Nat) => Lib.run_convert_bytes_const (P := Tryd.prog) w 22 5 C n c Tryd.underlying22 Tryd.underlying5
  go_enter Tryd.func19, Tryd.ntmps19
  go_wp2_with fail
  refine (frame_ok _ 1 1 [97] _ rfl (by decide) (by decide) (Rd_alloc_mark _ _ _ _)).mono ?_
  rintro e w1 ⟨v1, rfl, ho1, hb1⟩
  obtain ⟨A1, c1, rfl, hc1, hr1, _, _⟩ := own_slice ho1
  have hb1' := ((Below.refl w.heap.size w).alloc (Nat.le_refl _) _).trans (hb1.mono (by simp))
  have hlr : (record [97]).length = 13 := record_length _
  rw [hlr] at hc1
  simp only [hlr]
  clear ho1 hb1
  go_wp2_with fail
  refine (one_record A1 13 c1 [97] w1 (by decide) (by decide) hlr.symm hc1 hr1).mono ?_
  rintro e w2 ⟨v2, rfl, ho2, hb2⟩
  obtain ⟨A2, c2, rfl, hc2, hr2, _, _⟩ := own_slice ho2
  have hb2' := below_trans hb1' hb2
  have hst := run_str Tryd.underlying22 Tryd.underlying5 Tryd.underlying9 A2 1 c2 [97] w2 rfl hr2
  clear ho2 hb2
  go_wp2_with fail
  refine (sum_rd _ 9 9 [49, 50, 51, 52, 53, 54, 55, 56, 57] _ rfl (by decide) (Rd_alloc_mark _ _ _ _)).mono ?_
  rintro e w3 ⟨rfl, rfl⟩
  rw [crc_check]
  go_wp2
  go_ret
  exact ⟨rfl, hb2'.alloc hb2'.size _⟩

theorem twin_any (A : Option Addr) (n c : Nat) (p : List UInt8) (w : World) (hn : n = p.length) (hbig : p.length ≤ 140737488351232) (hr : Rd w A (p.map B)) :
    Calls Tryd.prog 7 #[.slice A n c] w fun e w' => ∃ v, e = .returned v ∧ w'.ownsRow w.heap.size 5 1 v p.length (p.map B) ∧ Below w.heap.size w w' := by
  have E := Lib.hid hn
  clear hn
  go_enter Tryd.func7, Tryd.ntmps7
  go_wp2_with (at_builtin; refine wpList_app tB rfl _ _ rfl w.heap.size _ 0 [] rfl (World.ownsRow_nil _ _ _ _) _ n _ _ rfl hr ?c1 one_bytes ?c2 ?c3 ?c4 ?_)
  case c1 => rw [List.length_map, E.out, Nat.mul_one]
  case c2 => have := E.out; unfold maxLen; omega
  case c3 => have := E.out; omega
  case c4 => exact Nat.le_refl _
  intro v1 w1 ho hx
  go_wp2
  go_ret
  refine ⟨v1, rfl, ?_, hx.below (Nat.le_refl _) (fun k hk => by simp [Value.ownBlock] at hk)⟩
  have := E.out
  subst this
  simpa using ho

end Go.Proofs.YtdmopnmifdjcnaaDoor
