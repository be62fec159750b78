/- The reference of layer 3: Scan by its contract; lists of rows. -/
import Derived.Test.YtdmopnmifdjcnaaDoorFr3C
import Derived.Test.YtdmopnmifdjcnaaDoorFrameS
import Derived.Test.YtdmopnmifdjcnaaDoorNum
namespace Go.Proofs.YtdmopnmifdjcnaaDoor
open Go Go.RowKit Go.Isth

theorem RdRows.at_ {w : World} {vs : List Value} {ps : List (List UInt8)} (h : RdRows w vs ps) (i : Nat) (hi : i < ps.length) : ∃ A c, vs[i]? = some (.slice A ps[i].length c) ∧ ps[i].length ≤ c ∧ Rd w A (ps[i].map B) ∧ ps[i].length ≤ 140737488351232 := by
  have hv : i < vs.length := by rw [h.1]; exact hi
  obtain ⟨A, c, e, r⟩ := h.2 i _ _ (List.getElem?_eq_getElem hv) (List.getElem?_eq_getElem hi)
  exact ⟨A, c, by rw [List.getElem?_eq_getElem hv, e], r⟩

set_option maxHeartbeats 1000000 in
theorem lists_true (A A' : Option Addr) (n c n' c' : Nat) (vs vs' : List Value) (ps : List (List UInt8)) (w : World) (hn : n = vs.length) (hn' : n' = vs'.length) (hm : n ≤ 1000000000)
    (hr : Rd w A vs) (hr' : Rd w A' vs') (hp : RdRows w vs ps) (hp' : RdRows w vs' ps) :
    Calls Tryd.prog 15 #[.slice A n c, .slice A' n' c'] w fun e w' => e = .returned (.bool true) ∧ ∃ m, w' = w.drewN m := by
  have en : n' = n := by rw [hn, hn', hp.1, hp'.1]
  subst en
  have E := Lib.hid hn
  have E' := Lib.hid hn'
  have PL := Lib.hid hp.1
  clear hn hn'
  go_enter Tryd.func15, Tryd.ntmps15
  go_wp2
  go_loopw [5] (fun i wr => ∃ k m : Nat, k ≤ n' ∧ i = .int .i64 k ∧ wr = w.drewN m) (fun i _ => n' - (intOf i).toNat)
  case atStart => exact ⟨0, 0, Nat.zero_le _, rfl, rfl⟩
  case round =>
    obtain ⟨k, m, hk, rfl, rfl⟩ := hrel
    by_cases hlt : k < n'
    · have hkp : k < ps.length := by rw [← PL.out, ← E.out]; exact hlt
      obtain ⟨A1, c1, hv1, _, r1, _⟩ := RdRows.at_ hp k hkp
      obtain ⟨A2, c2, hv2, _, r2, _⟩ := RdRows.at_ hp' k hkp
      obtain ⟨b1, o1, rfl, hc1⟩ := hr (by rw [← E.out]; omega)
      obtain ⟨b2, o2, rfl, hc2⟩ := hr' (by rw [← E'.out]; omega)
      have q1 := hc1 k _ hv1
      have q2 := hc2 k _ hv2
      have s1 : ∀ nq, (convert 22 9 (.slice A1 ps[k].length c1)).run Tryd.prog (w.drewN nq) = .ok (.string ⟨ps[k].toArray⟩) (w.drewN nq) := fun nq => run_str Tryd.underlying22 Tryd.underlying5 Tryd.underlying9 A1 _ c1 ps[k] _ rfl (r1.drewN nq)
      have s2 : ∀ nq, (convert 22 9 (.slice A2 ps[k].length c2)).run Tryd.prog (w.drewN nq) = .ok (.string ⟨ps[k].toArray⟩) (w.drewN nq) := fun nq => run_str Tryd.underlying22 Tryd.underlying5 Tryd.underlying9 A2 _ c2 ps[k] _ rfl (r2.drewN nq)
      clear hc1 hc2 hv1 hv2 r1 r2
      generalize ps[k] = p at *
      clear hkp
      go_wp2_with fail
      go_quiet (fail)
      go_wp2
      go_roundw
      case rel => exact ⟨k + 1, m + nq, by omega, by go_num, by first | rfl | rw [World.drewN_drewN]⟩
      case measure => simp [intOf]; omega
    · go_wp2
      go_ret
      exact ⟨rfl, m, rfl⟩


def RScanPost (A : Option Addr) (b : List UInt8) (w : World) (e : Ending) (w' : World) : Prop :=
  ∃ ps a code A' c' vs, Scans b ps a code ∧ e = .returned (.tuple #[.slice A' ps.length c', .int .i64 ((a : Nat) : Int), .int .i64 code]) ∧ vs.length = ps.length ∧ ps.length ≤ b.length ∧ Rd w' A' vs ∧ (∀ ad, A' = some ad → w.heap.size ≤ ad.block) ∧ (∀ wx, Rd wx A (b.map B) → RdRows wx vs ps) ∧ Below w.heap.size w w'
def RScanInv (A : Option Addr) (b : List UInt8) (w : World) (v i : Value) (wr : World) : Prop :=
  ∃ at_ ps vs, i = .int .i64 ((at_ : Nat) : Int) ∧ at_ ≤ b.length ∧ (∀ ps2 a2 e2, Scans (b.drop at_) ps2 a2 e2 → Scans b (ps ++ ps2) (at_ + a2) e2) ∧ wr.ownsRow w.heap.size 22 1 v vs.length vs ∧ (∀ wx, Rd wx A (b.map B) → RdRows wx vs ps) ∧ Below w.heap.size w wr ∧ 13 * vs.length ≤ at_
theorem rd_from3 {A : Option Addr} {bs : List UInt8} {w : World} (c i : Nat) (hr : Rd w A (bs.map B)) (hi : i ≤ bs.length) (hc : bs.length ≤ c) : Rd w (cutA A c i 1) ((bs.drop i).map B) := by
  have h := hr.cut c i 1 (bs.length - i) (by simp; omega) (by simp; omega)
  rwa [Nat.mul_one, ← List.map_drop, List.take_of_length_le (by simp)] at h
set_option maxRecDepth 100000 in
set_option maxHeartbeats 2000000 in
theorem rscan_any (A : Option Addr) (n c : Nat) (b : List UInt8) (w : World) (hn : b.length = n) (hc : n ≤ c) (hbig : n ≤ 2000000) (hr : Rd w A (b.map B)) :
    Calls Tryd.prog 13 #[.slice A n c] w (RScanPost A b w) := by
  have HT := Lib.hid (And.intro hn (And.intro hc (And.intro hbig hr)))
  clear hn hc hbig hr
  go_enter Tryd.func13, Tryd.ntmps13
  go_wp2_with fail
  go_loopw [5, 6] (fun v i wr => RScanInv A b w v i wr) (fun _ i _ => b.length - (intOf i).toNat)
  case atStart => exact ⟨0, [], [], rfl, Nat.zero_le _, fun ps2 a2 e2 h => by simpa using h, World.ownsRow_nil _ _ _ _, fun _ _ => RdRows.nil _, Below.refl _ _, by simp⟩
  case round =>
    obtain ⟨k, ps, vs, rfl, hk, hs, ho, hp, hb, hvs⟩ := hrel
    obtain ⟨A5, c5, rfl, _⟩ := own_slice ho
    have hcut : ∀ wx, _ := fun wx => run_cut_from tB A n c (k : Int) (by omega) (by have := HT.out; omega) wx
    simp only [Int.toNat_natCast] at hcut
    obtain ⟨nk, hnk⟩ : ∃ m, n - k = m := ⟨_, rfl⟩
    rw [hnk] at hcut
    have HS := Lib.hid (And.intro hs (And.intro ho (And.intro hp (And.intro hb (And.intro hvs (And.intro hk hnk))))))
    have hkI : (k : Int) ≤ 2000000 := by have := HT.out; omega
    clear hs ho hp hb hvs hk hnk
    go_wp2_with fail
    refine (rone_any (cutA A c k 1) nk (c - k) (b.drop k) wr (by have := HT.out.1; have := HS.out.2.2.2.2.2.2; simp; omega) (by have := HT.out; have := HS.out.2.2.2.2.2.2; omega) (by have := HT.out; have := HS.out.2.2.2.2.2.2; omega) (rd_from3 c k (HT.out.2.2.2.below HS.out.2.2.2.1) HS.out.2.2.2.2.2.1 (by have := HT.out; omega))).mono ?_
    rintro e w1 ⟨hb1, h⟩
    have HB1 := Lib.hid (And.intro (below_then HS.out.2.2.2.1 HS.out.2.2.2.1.size hb1) (own_below HS.out.2.1 hb1))
    clear hb1 hcut
    rcases h with ⟨p, m, A', c', h1, rfl, hc', hrd⟩ | ⟨m, h1, rfl⟩
    · obtain ⟨hm, hm2, hp0, hp1⟩ := oneF_inl h1
      have hsn : ∀ wx, Rd wx A (b.map B) → RdRows wx (vs ++ [.slice A' p.length c']) (ps ++ [p]) := fun wx hx => (HS.out.2.2.1 wx hx).snoc ⟨A', c', rfl, hc', hrd wx (rd_from3 c k hx HS.out.2.2.2.2.2.1 (by have := HT.out; omega)), by omega⟩
      have H1 := Lib.hid (And.intro h1 (And.intro hm (And.intro (show k + m ≤ b.length by simp at hm2; have := HS.out.2.2.2.2.2.1; omega) (And.intro hp0 hsn))))
      have hmI : (m : Int) ≤ 2000000 := by omega
      have HM := Lib.hid (show vs.length + 1 ≤ maxLen ∧ (vs.length + 1) * 24 ≤ 140737488355328 by have := HS.out.2.2.2.2.1; have := HS.out.2.2.2.2.2.1; have := HT.out; unfold maxLen; omega)
      clear h1 hm hm2 hp0 hp1 hc' hrd hsn
      go_wp2_with (at_builtin; refine wpList_app tBB rfl _ _ rfl w.heap.size (.slice A5 vs.length c5) vs.length vs rfl (HB1.out.2.alloc _) (some ⟨w1.heap.size, 0, none⟩) 1 1 [.slice A' p.length c'] rfl (Rd_alloc _ _ _) rfl ?c1 HM.out.1 HM.out.2 ?c4 ?_)
      case c1 => intro u hu; simp at hu; subst hu; rfl
      case c4 => have := HB1.out.1.size; simp; omega
      intro v' w3 ho3 hx3
      obtain ⟨A6, c6, rfl, _⟩ := own_slice ho3
      have hb3 : Below w.heap.size w w3 := (HB1.out.1.alloc HB1.out.1.size _).grown hx3.grown (by have := HB1.out.1.size; simp; omega) (fun j hj => (HB1.out.2.lt j hj).1)
      have H3 := Lib.hid (And.intro ho3 hb3)
      clear ho3 hx3 hb3
      go_wp2_with fail
      go_roundw
      case rel =>
        refine ⟨k + m, ps ++ [p], vs ++ [.slice A' p.length c'], by go_num, H1.out.2.2.1, fun ps2 a2 e2 h => ?_, ?_, H1.out.2.2.2.2, H3.out.2, ?_⟩
        · have := HS.out.1 (p :: ps2) (m + a2) e2 (.more H1.out.1 (by rwa [List.drop_drop]))
          simpa [Nat.add_assoc] using this
        · have h := H3.out.1; rw [List.length_append]; exact h
        · have := H1.out.2.1; have := H1.out.2.2.2.1; have := HS.out.2.2.2.2.1; simp; omega
      case measure => have := H1.out; simp [intOf]; omega
    · have hin := oneF_inr h1
      have hlen : vs.length = ps.length := (HS.out.2.2.1 w HT.out.2.2.2).1
      have hle : ps.length ≤ b.length := by have := HS.out.2.2.2.2.1; have := HS.out.2.2.2.2.2.1; omega
      have H1 := Lib.hid (And.intro h1 (And.intro hlen hle))
      obtain ⟨A6, c6, e6, _, hrd6, _, hl6⟩ := own_slice HB1.out.2
      injection e6 with e61 _ e62
      subst e61
      subst e62
      have HR6 := Lib.hid (And.intro hrd6 (show ∀ ad, A5 = some ad → w.heap.size ≤ ad.block from fun ad e => (hl6 ad e).1))
      clear h1 hlen hle hrd6 hl6
      rcases hin with rfl | rfl | rfl
      · have HSC := Lib.hid (HS.out.1 [] 0 0 (.stop H1.out.1))
        go_wp2_with fail
        go_ret3
        refine ⟨ps, k, 0, A5, c5, vs, by simpa using HSC.out, ?_, H1.out.2.1, H1.out.2.2, HR6.out.1, HR6.out.2, HS.out.2.2.1, HB1.out.1⟩
        rw [← H1.out.2.1]; rfl
      · have HSC := Lib.hid (HS.out.1 [] 0 11 (.bad H1.out.1 (by decide)))
        go_wp2_with fail
        go_ret3
        refine ⟨ps, k, 11, A5, c5, vs, by simpa using HSC.out, ?_, H1.out.2.1, H1.out.2.2, HR6.out.1, HR6.out.2, HS.out.2.2.1, HB1.out.1⟩
        rw [← H1.out.2.1]; rfl
      · have HSC := Lib.hid (HS.out.1 [] 0 12 (.bad H1.out.1 (by decide)))
        go_wp2_with fail
        go_ret3
        refine ⟨ps, k, 12, A5, c5, vs, by simpa using HSC.out, ?_, H1.out.2.1, H1.out.2.2, HR6.out.1, HR6.out.2, HS.out.2.2.1, HB1.out.1⟩
        rw [← H1.out.2.1]; rfl
end Go.Proofs.YtdmopnmifdjcnaaDoor
