/- Layer 3's law FrameRows, walked. -/
import Derived.Test.YtdmopnmifdjcnaaFrameB
import Derived.Test.YtdmopnmifdjcnaaFrameQ
import Derived.Test.YtdmopnmifdjcnaaFrameL1
namespace Go.Proofs.Ytdmopnmifdjcnaa
open Go Go.RowKit Go.Isth

theorem tI : SlT Try.prog 33 3 (.int .i64 0) 1 8 := ⟨Try.underlying33, by kernel_rfl, rfl, by decide⟩

theorem twin_any (A : Option Addr) (n c : Nat) (p : List UInt8) (w : World) (hn : n = p.length) (hbig : p.length ≤ 140737488351232) (hr : Rd w A (p.map B)) :
    Calls Try.prog 11 #[.slice A n c] w fun e w' => ∃ v, e = .returned v ∧ w'.ownsRow w.heap.size 5 1 v p.length (p.map B) ∧ Below w.heap.size w w' := by
  have E := Lib.hid hn
  clear hn
  go_enter Try.func11, Try.ntmps11
  go_wp2_with (at_builtin; refine wpList_app tB rfl _ _ rfl w.heap.size _ 0 [] rfl (World.ownsRow_nil _ _ _ _) _ n _ _ rfl hr ?c1 one_bytes ?c2 ?c3 ?c4 ?_)
  case c1 => rw [List.length_map, E.out, Nat.mul_one]
  case c2 => have := E.out; unfold maxLen; omega
  case c3 => have := E.out; omega
  case c4 => exact Nat.le_refl _
  intro v1 w1 ho hx
  go_wp2
  go_ret
  refine ⟨v1, rfl, ?_, hx.below (Nat.le_refl _) (fun k hk => by simp [Value.ownBlock] at hk)⟩
  have := E.out
  subst this
  simpa using ho

theorem RdRows.at_ {w : World} {vs : List Value} {ps : List (List UInt8)} (h : RdRows w vs ps) (i : Nat) (hi : i < ps.length) : ∃ A c, vs[i]? = some (.slice A ps[i].length c) ∧ ps[i].length ≤ c ∧ Rd w A (ps[i].map B) ∧ ps[i].length ≤ 140737488351232 := by
  have hv : i < vs.length := by rw [h.1]; exact hi
  obtain ⟨A, c, e, r⟩ := h.2 i _ _ (List.getElem?_eq_getElem hv) (List.getElem?_eq_getElem hi)
  exact ⟨A, c, by rw [List.getElem?_eq_getElem hv, e], r⟩

set_option maxHeartbeats 1000000 in
theorem lists_true (A A' : Option Addr) (n c n' c' : Nat) (vs vs' : List Value) (ps : List (List UInt8)) (w : World) (hn : n = vs.length) (hn' : n' = vs'.length) (hm : n ≤ 1000000000)
    (hr : Rd w A vs) (hr' : Rd w A' vs') (hp : RdRows w vs ps) (hp' : RdRows w vs' ps) :
    Calls Try.prog 13 #[.slice A n c, .slice A' n' c'] w fun e w' => e = .returned (.bool true) ∧ ∃ m, w' = w.drewN m := by
  have en : n' = n := by rw [hn, hn', hp.1, hp'.1]
  subst en
  have E := Lib.hid hn
  have E' := Lib.hid hn'
  have PL := Lib.hid hp.1
  clear hn hn'
  go_enter Try.func13, Try.ntmps13
  go_wp2
  go_loopw [5] (fun i wr => ∃ k m : Nat, k ≤ n' ∧ i = .int .i64 k ∧ wr = w.drewN m) (fun i _ => n' - (intOf i).toNat)
  case atStart => exact ⟨0, 0, Nat.zero_le _, rfl, rfl⟩
  case round =>
    obtain ⟨k, m, hk, rfl, rfl⟩ := hrel
    by_cases hlt : k < n'
    · have hkp : k < ps.length := by rw [← PL.out, ← E.out]; exact hlt
      obtain ⟨A1, c1, hv1, _, r1, _⟩ := RdRows.at_ hp k hkp
      obtain ⟨A2, c2, hv2, _, r2, _⟩ := RdRows.at_ hp' k hkp
      obtain ⟨b1, o1, rfl, hc1⟩ := hr (by rw [← E.out]; omega)
      obtain ⟨b2, o2, rfl, hc2⟩ := hr' (by rw [← E'.out]; omega)
      have q1 := hc1 k _ hv1
      have q2 := hc2 k _ hv2
      have s1 : ∀ nq, (convert 23 9 (.slice A1 ps[k].length c1)).run Try.prog (w.drewN nq) = .ok (.string ⟨ps[k].toArray⟩) (w.drewN nq) := fun nq => run_str Try.underlying23 Try.underlying5 Try.underlying9 A1 _ c1 ps[k] _ rfl (r1.drewN nq)
      have s2 : ∀ nq, (convert 23 9 (.slice A2 ps[k].length c2)).run Try.prog (w.drewN nq) = .ok (.string ⟨ps[k].toArray⟩) (w.drewN nq) := fun nq => run_str Try.underlying23 Try.underlying5 Try.underlying9 A2 _ c2 ps[k] _ rfl (r2.drewN nq)
      clear hc1 hc2 hv1 hv2 r1 r2
      generalize ps[k] = p at *
      clear hkp
      go_wp2_with fail
      go_quiet (fail)
      go_wp2
      go_roundw
      case rel => exact ⟨k + 1, m + nq, by omega, by go_num, by first | rfl | rw [World.drewN_drewN]⟩
      case measure => simp [intOf]; omega
    · go_wp2
      go_ret
      exact ⟨rfl, m, rfl⟩

def RowsInv (n : Nat) (w : World) (all want ends i : Value) (wr : World) : Prop :=
  ∃ (k : Nat) (qs : List (List UInt8)) (vs : List Value), i = .int .i64 (k : Int) ∧ k ≤ n ∧ k ≤ 20 ∧ qs.length ≤ k ∧ (∀ p ∈ qs, okp p) ∧ wr.ownsRow w.heap.size 5 1 all (recs qs).length ((recs qs).map B) ∧
    wr.ownsRow w.heap.size 23 1 want qs.length vs ∧ RdRows w vs qs ∧ wr.ownsRow w.heap.size 3 1 ends qs.length ((endsOf qs).map (Value.int .i64)) ∧ Below w.heap.size w wr ∧ (recs qs).length ≤ 1048588 * qs.length

set_option maxRecDepth 100000 in
set_option maxHeartbeats 4000000 in
theorem rows_any (A : Option Addr) (n c : Nat) (cut : Int) (vs0 : List Value) (ps0 : List (List UInt8)) (w : World) (hn : n = vs0.length) (hr : Rd w A vs0) (hp : RdRows w vs0 ps0) :
    Calls Try.prog 4 #[.slice A n c, .int .i64 cut] w fun e w' => e = .returned (.bool true) ∧ Below w.heap.size w w' := by
  have E := Lib.hid hn
  have PL := Lib.hid hp.1
  clear hn
  go_enter Try.func4, Try.ntmps4
  go_wp2
  go_loopw [5, 6, 7, 8] (fun all want ends i wr => RowsInv n w all want ends i wr) (fun _ _ _ i _ => 20 - (intOf i).toNat)
  case atStart => exact ⟨0, [], [], rfl, Nat.zero_le _, by omega, Nat.le_refl _, by simp, World.ownsRow_nil _ _ _ _, World.ownsRow_nil _ _ _ _, RdRows.nil _, World.ownsRow_nil _ _ _ _, Below.refl _ _, by simp [recs]⟩
  case round =>
    obtain ⟨k, qs, vs, rfl, hk, hk20, hqk, hok, ho1, ho2, hrr, ho3, hb, hlen⟩ := hrel
    by_cases hlt : k < n ∧ k < 20
    · obtain ⟨hlt, hlt2⟩ := hlt
      have hkp : k < ps0.length := by rw [← PL.out, ← E.out]; exact hlt
      obtain ⟨A1, c1, hv1, hc1, r1, hm1⟩ := RdRows.at_ hp k hkp
      obtain ⟨bl, ol, rfl, hcell⟩ := hr (by rw [← E.out]; omega)
      have q0 := hcell k _ hv1
      have q1 := (hb.cell (p := ⟨bl, ol + k, none⟩) (World.block_lt_of_cell? w _ q0)).trans q0
      have Q0 := Lib.hid q0
      have HOK := Lib.hid hok
      have HL := Lib.hid hlen
      clear hcell hv1 hok hlen hp hr q0
      generalize ps0[k] = p at *
      have HM := Lib.hid hm1
      have HR1 := Lib.hid r1
      clear hm1 hkp
      go_wp2_with fail
      refine (twin_any A1 _ c1 p _ rfl HM.out (r1.below hb)).mono ?_
      rintro e w1 ⟨v1, rfl, hov, hb1⟩
      obtain ⟨A2, c2, rfl, hc2, r2, _, _⟩ := own_slice hov
      have hbw1 := below_trans hb hb1
      have o1' := own_below ho1 hb1
      have o2' := own_below ho2 hb1
      have o3' := own_below ho3 hb1
      clear hov ho1 ho2 ho3 r1 q1
      by_cases hpk : okp p
      · have HLR := Lib.hid (record_length p)
        go_wp2_with fail
        refine (frame_ok A2 p.length c2 p _ rfl hpk.1 hpk.2 r2).mono ?_
        rintro e w2 ⟨v2, rfl, hov2, hb2⟩
        obtain ⟨A3, c3, rfl, hc3, r3, hk3, hlt3⟩ := own_slice hov2
        have hbw2 := below_trans hbw1 hb2
        have o1 := own_below o1' hb2
        have o2 := own_below o2' hb2
        have o3 := own_below o3' hb2
        have hbz2 := hbw2.size
        clear o1' o2' o3' hb2 r2
        go_wp2_with (at_builtin; refine wpList_app tB rfl _ _ rfl w.heap.size _ _ _ rfl o1 A3 (record p).length _ _ rfl r3 ?d1 one_bytes ?d2 ?d3 hbz2 ?_)
        case d1 => rw [List.length_map, Nat.mul_one]
        case d2 => have := HL.out; have := hpk.2; have := HLR.out; unfold maxLen; omega
        case d3 => have := HL.out; have := hpk.2; have := HLR.out; omega
        intro v4 w4 o4 hx4
        have hbw4 := hbw2.grown hx4.grown hbz2 (fun j hj => (o1.lt j hj).1)
        have q4 := (hbw4.cell (p := ⟨bl, ol + k, none⟩) (World.block_lt_of_cell? w _ Q0.out)).trans Q0.out
        have p2 := own_ext o2 o1 (by decide) hx4
        have p3 := own_ext o3 o1 (by decide) hx4
        obtain ⟨A4, c4, rfl, _, _, _, _⟩ := own_slice o4
        have hbz4 := hbw4.size
        clear o1 o2 o3 hx4 r3 hbw2
        go_wp2_with (at_builtin; refine wpList_app tBB rfl _ _ rfl w.heap.size _ _ _ rfl (p2.alloc _) _ 1 1 _ rfl (Rd_alloc _ _ _) rfl ?e1 ?e2 ?e3 ?e4 ?_)
        case e1 => rfl
        case e2 => unfold maxLen; omega
        case e3 => omega
        case e4 => simp; omega
        intro v5 w5 o5 hx5
        have hal : Below w4.heap.size w4 (w4.alloc (Obj.cells #[Value.slice A1 p.length c1] 23)) := (Below.refl _ _).alloc (Nat.le_refl _) _
        have hbw5 := (hbw4.trans (hal.mono hbz4)).grown hx5.grown (by simp; omega) (fun j hj => (p2.lt j hj).1)
        have o4' := own_ext (o4.alloc (Obj.cells #[Value.slice A1 p.length c1] 23)) (p2.alloc _) (by decide) hx5
        have p3' := own_ext (p3.alloc (Obj.cells #[Value.slice A1 p.length c1] 23)) (p2.alloc _) (by decide) hx5
        have hbz5 := hbw5.size
        clear o4 p2 p3 hx5 hal q4
        go_wp2_with (at_builtin; refine wpList_app tI rfl _ _ rfl w.heap.size _ _ _ rfl (p3'.alloc _) _ 1 1 _ rfl (Rd_alloc _ _ _) rfl ?f1 ?f2 ?f3 ?f4 ?_)
        case f1 => rfl
        case f2 => unfold maxLen; omega
        case f3 => omega
        case f4 => simp; omega
        intro v6 w6 o6 hx6
        go_wp2
        go_roundw
        case rel =>
          have hal : Below w5.heap.size w5 (w5.alloc (Obj.cells #[Value.int .i64 (((recs qs).length : Int) + ((record p).length : Int))] 3)) := (Below.refl _ _).alloc (Nat.le_refl _) _
          have e1 : (recs qs).length + (record p).length = (recs (qs ++ [p])).length := by rw [recs_snoc, List.length_append]
          have e2 : (recs qs).map B ++ (record p).map B = (recs (qs ++ [p])).map B := by rw [recs_snoc, List.map_append]
          have o7 := own_ext (own_below o4' hal) (p3'.alloc _) (by decide) hx6
          have o8 := own_ext (own_below o5 hal) (p3'.alloc _) (by decide) hx6
          rw [e1, e2] at o7
          refine ⟨k + 1, qs ++ [p], vs ++ [.slice A1 p.length c1], by go_num, by omega, by omega, by simp; omega, ?_, e1 ▸ o7, ?_, hrr.snoc ⟨A1, c1, rfl, hc1, HR1.out, HM.out⟩, ?_, ?_, ?_⟩
          · intro q hq
            rcases List.mem_append.1 hq with h | h
            · exact HOK.out q h
            · simp at h; rw [h]; exact hpk
          · simpa using o8
          · rw [endsOf_snoc, ← e1]; simpa using o6
          · exact (hbw5.trans (hal.mono hbz5)).grown hx6.grown (by simp; omega) (fun j hj => (p3'.lt j hj).1)
          · have h1 := HL.out; have h2 := HLR.out; have h3 := hpk.2; rw [← e1]; simp; omega
        case measure => simp [intOf]; omega
      · have hbad : p.length = 0 ∨ 1048576 < p.length := by
          simp only [okp] at hpk
          omega
        have HBAD := Lib.hid hbad
        clear hpk hbad
        go_wp2_with fail
        refine (frame_bad A2 p.length c2 _ HBAD.out HM.out).mono ?_
        rintro e w2 ⟨v2, rfl, he2, hb2⟩
        have hbw2 := below_trans hbw1 hb2
        have o1 := own_below o1' hb2
        have o2 := own_below o2' hb2
        have o3 := own_below o3' hb2
        obtain ⟨b5, s5, rfl, hc5⟩ := he2
        clear o1' o2' o3' hb2 hc5 r2
        go_wp2
        go_roundw
        case rel => exact ⟨k + 1, qs, vs, by go_num, by omega, by omega, by omega, HOK.out, o1, o2, hrr, o3, hbw2, HL.out⟩
        case measure => simp [intOf]; omega
    · obtain ⟨A2, c2, rfl, hc2, r2, _, _⟩ := own_slice ho1
      obtain ⟨A3, c3, rfl, hc3, r3, _, _⟩ := own_slice ho2
      obtain ⟨A4, c4, rfl, hc4, r4, _, _⟩ := own_slice ho3
      have hq20 : qs.length ≤ 20 := by omega
      have HOK := Lib.hid hok
      have HL := Lib.hid hlen
      have HQ := Lib.hid hq20
      have hrrw := hrr.below hb
      clear hok hlen hqk hq20 hp hr
      have hbig : (recs qs).length ≤ 100000000 := by have := HL.out; have := HQ.out; omega
      have HBIG := Lib.hid hbig
      obtain ⟨at_, hat, hu1, hu2, hu3, hcut⟩ := umod_len cut (recs qs).length (by omega)
      clear hbig
      have HU := Lib.hid (And.intro hu1 (And.intro hu2 (And.intro hu3 hcut)))
      have hgo : k < n → ¬ (k : Int) < 20 := by omega
      have HGO := Lib.hid hgo
      have HAT := Lib.hid hat
      have HB := Lib.hid hb
      clear hu1 hu2 hu3 hcut hgo hat hb hlt
      have hkn : k < n ∨ ¬ k < n := by omega
      rcases hkn with hkn | hkn
      all_goals
        try have hk20' := HGO.out hkn
        go_wp2_with fail
        refine (scan_any A2 _ c2 (recs qs) _ rfl hc2 (by have := HBIG.out; omega) r2).mono ?_
        rintro e w1 ⟨ps, a, code, v, vsx, ev, hsc, rfl, ha, ox, rx, hcode, hb1⟩
        obtain ⟨rfl, rfl, rfl⟩ := hsc.det (scans_all qs HOK.out)
        have hev : ev = .nilIface := by
          obtain ⟨_, h⟩ | ⟨h0, _⟩ := hcode
          · exact h
          · exact absurd rfl h0
        subst hev
        obtain ⟨Ax, cx, rfl, hcx, rdx, _, _⟩ := own_slice ox
        have rdx2 := rx.rd (fun p hp => by have := (HOK.out p hp).2; omega)
        have hbw1 := below_trans HB.out hb1
        have r2' := r2.below hb1
        have r3' := r3.below hb1
        have r4' := r4.below hb1
        have rr' := hrrw.below hb1
        have hvx := rx.1
        have HVX := Lib.hid hvx
        obtain ⟨u1, u2, u3, u4⟩ := HU.out
        have hcutr := run_cut_to tB A2 (recs ps).length c2 at_ (by omega) (by have := HAT.out; omega)
        rw [Int.toNat_natCast] at hcutr
        clear hvx hcode ha hsc rx ox r2 r3 r4 hrrw hb1
        go_wp2_with fail
        refine (scan_any A2 _ c2 ((recs ps).take at_) _ (by have := HAT.out; simp; omega) (by have := HAT.out; omega) (by have := HBIG.out; simp; omega) (by rw [List.map_take]; exact r2'.front _)).mono ?_
        rintro e w2 ⟨ps2, a2, code2, v2, vsy, ev2, hsc2, rfl, ha2, oy, ry, hcode2, hb2⟩
        obtain ⟨Ay, cy, rfl, hcy, rdy, _, _⟩ := own_slice oy
        have hbw2 := below_trans hbw1 hb2
        have rdx' := rdx.below hb2
        have rdx2' := rdx2.below hb2
        have r3'' := r3'.below hb2
        have r4'' := r4'.below hb2
        have rr'' := rr'.below hb2
        have HA2 := Lib.hid ha2
        clear u1 u2 u3 u4 hcutr rdx rdx2 r2' r3' r4' rr' hbw1 hb2 oy ha2
        go_wp2
        go_loop [18, 19] (fun kk en => ∃ j : Nat, kk = .int .i64 (j : Int) ∧ j ≤ ps.length ∧ en = .int .i64 (((recs (ps.take j)).length : Nat) : Int) ∧ (recs (ps.take j)).length ≤ at_) (fun kk _ => ps.length - (intOf kk).toNat)
        case atStart => exact ⟨0, rfl, Nat.zero_le _, by simp [recs], by simp [recs]⟩
        case round =>
          obtain ⟨j, rfl, hj, rfl, hja⟩ := hrel
          by_cases hcont : j < ps.length ∧ (recs (ps.take (j + 1))).length ≤ at_
          · obtain ⟨hjl, hle⟩ := hcont
            obtain ⟨b4, o4, rfl, hc4'⟩ := r4'' (by simp [endsOf_length]; omega)
            have qj := hc4' j (.int .i64 ((recs (ps.take (j + 1))).length : Int)) (by rw [List.getElem?_map, endsOf_get _ _ hjl]; rfl)
            have hle' : ((recs (ps.take (j + 1))).length : Int) ≤ (at_ : Int) := by omega
            have hj20 : j < 21 := by have := HQ.out; omega
            go_wp2
            go_round
            case rel => exact ⟨j + 1, by go_num, by omega, rfl, hle⟩
            case measure => simp [intOf]; omega
          · have hstop : j < ps.length → at_ < (recs (ps.take (j + 1))).length := by intro h; omega
            have hplain := scans_cut ps HOK.out at_ j (HAT.out) hj hja hstop
            obtain ⟨rfl, rfl, rfl⟩ := hsc2.det hplain
            have HST := Lib.hid hstop
            have HJ := Lib.hid hj
            have rdy2 := ry.rd (fun p hp => by have := (HOK.out p (List.mem_of_mem_take hp)).2; omega)
            have hvy := ry.1
            have HVY := Lib.hid hvy
            have hcutw := run_cut_to tBB A3 ps.length c3 j (by omega) (by omega)
            rw [Int.toNat_natCast] at hcutw
            have HQ' := HQ.out
            have hpq : ps.length ≤ 20 := HQ'
            have HPQ := Lib.hid hpq
            clear hcont hstop hplain hsc2 hvy HQ' hpq ry
            have hway : ¬ j < ps.length ∨ j < ps.length ∧ ∃ b4 o4, A4 = some ⟨b4, o4, none⟩ ∧ w2.cell? ⟨b4, o4 + j, none⟩ = some (.int .i64 ((recs (ps.take (j + 1))).length : Int)) ∧ ¬ ((recs (ps.take (j + 1))).length : Int) ≤ (at_ : Int) := by
              rcases Nat.lt_or_ge j ps.length with hjl | hjl
              · obtain ⟨b4, o4, e4, hc4'⟩ := r4'' (by simp [endsOf_length]; omega)
                exact .inr ⟨hjl, b4, o4, e4, hc4' j (.int .i64 ((recs (ps.take (j + 1))).length : Int)) (by rw [List.getElem?_map, endsOf_get _ _ hjl]; rfl), by have := HST.out hjl; omega⟩
              · exact .inl (by omega)
            rcases hway with hjl | ⟨hjl, b4, o4, rfl, qj, hle'⟩
            all_goals
              have hvl := rr''.1
              have HVL := Lib.hid hvl
              clear hvl
              go_wp2_with fail
              refine (lists_true Ax A3 _ cx _ c3 vsx vs ps w2 rfl HVL.out.symm (by have := HVX.out; have := HPQ.out; omega) rdx' r3'' rdx2' rr'').mono ?_
              rintro e w3 ⟨rfl, m1, rfl⟩
              by_cases hee : (recs (ps.take j)).length = at_
              · have hcc : cutCode (recs (ps.take j)).length at_ = 0 := by rw [hee, cutCode_eq]
                rw [hcc] at hcode2
                have hev2 : ev2 = .nilIface := by
                  obtain ⟨_, h⟩ | ⟨h0, _⟩ := hcode2
                  · exact h
                  · exact absurd rfl h0
                subst hev2
                have hb1 : (((recs (ps.take j)).length : Int) == (at_ : Int)) = true := by simp; omega
                clear hcode2 hcc hee
                go_wp2_with fail
                refine (lists_true Ay A3 _ cy _ c3 vsy (vs.take j) (ps.take j) _ rfl (by have := HVL.out; have := HJ.out; simp; omega) (by have h1 := HVY.out; have h2 := HPQ.out; rw [List.length_take] at h1; omega) (rdy.drewN _) ((r3''.front _).drewN _) (rdy2.below (refl_drewN _ _)) ((rr''.take j).below (refl_drewN _ _))).mono ?_
                rintro e w4 ⟨rfl, m2, rfl⟩
                go_wp2_with fail
                refine (sure_any _).mono ?_
                rintro e w5 ⟨rfl, hb5⟩
                go_wp2
                go_ret
                exact ⟨rfl, below_trans hbw2 (of_drewN hb5)⟩
              · have hcc : cutCode (recs (ps.take j)).length at_ = 12 := cutCode_ne hee
                rw [hcc] at hcode2
                have hev2 : ErrIs w2 ev2 12 := by
                  obtain ⟨h, _⟩ | ⟨_, h⟩ := hcode2
                  · exact absurd h (by decide)
                  · exact h
                have HEV := Lib.hid hev2
                obtain ⟨b7, s7, rfl, hc7⟩ := hev2
                have hb1 : (((recs (ps.take j)).length : Int) == (at_ : Int)) = false := by simp; omega
                clear hcode2 hcc hee hc7
                go_wp2_with fail
                refine (lists_true Ay A3 _ cy _ c3 vsy (vs.take j) (ps.take j) _ rfl (by have := HVL.out; have := HJ.out; simp; omega) (by have h1 := HVY.out; have h2 := HPQ.out; rw [List.length_take] at h1; omega) (rdy.drewN _) ((r3''.front _).drewN _) (rdy2.below (refl_drewN _ _)) ((rr''.take j).below (refl_drewN _ _))).mono ?_
                rintro e w4 ⟨rfl, m2, rfl⟩
                go_wp2_with fail
                refine (torn_any _ 12 _ (.inr ⟨by decide, HEV.out.below (refl_drewN _ _)⟩)).mono ?_
                rintro e w5 ⟨rfl, rfl⟩
                go_wp2_with fail
                refine (sure_any _).mono ?_
                rintro e w6 ⟨rfl, hb6⟩
                go_wp2
                go_ret
                exact ⟨rfl, below_trans hbw2 (of_drewN hb6)⟩
end Go.Proofs.Ytdmopnmifdjcnaa
