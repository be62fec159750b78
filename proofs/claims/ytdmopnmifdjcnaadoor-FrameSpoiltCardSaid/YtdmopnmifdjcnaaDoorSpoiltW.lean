/- FrameSpoilt: the walk. -/
import Derived.Test.YtdmopnmifdjcnaaDoorFrameS
import Derived.Test.YtdmopnmifdjcnaaDoorFrameB
import Derived.Test.YtdmopnmifdjcnaaDoorSpoilt
import Derived.Test.YtdmopnmifdjcnaaDoorNum
import Derived.Laws.OwnMore
namespace Go.Proofs.YtdmopnmifdjcnaaDoor
open Go Go.RowKit Go.Isth

/-- The records' errors, as num reads them. -/
theorem ErrIs.fault {w : World} {v : Value} {k : Int} (h : ErrIs w v k) : FaultIs w v k := h

theorem scans_spoilt {b : List UInt8} {ps : List (List UInt8)} {a : Nat} {code : Int} (h : Scans b ps a code) (hb : oneF b = .inr 11) : ps = [] ∧ a = 0 ∧ code = 11 := by
  cases h with
  | stop h => rw [hb] at h; cases h
  | bad h _ => rw [hb] at h; cases h; exact ⟨rfl, rfl, rfl⟩
  | more h _ => rw [hb] at h; cases h

set_option maxRecDepth 100000 in
set_option maxHeartbeats 2000000 in
theorem spoilt_any (A : Option Addr) (c : Nat) (p : List UInt8) (at_ : Int) (by_ : UInt8) (w : World) (hm : p.length ≤ 140737488351232) (hr : Rd w A (p.map B)) (hg : TypeLaid w) :
    Calls Tryd.prog 4 #[.slice A p.length c, .int .i64 at_, B by_] w fun e w' => e = .returned (.bool true) ∧ Below w.heap.size w w' := by
  have HN := Lib.hid hm
  have HG := Lib.hid hg
  clear hg
  go_enter Tryd.func4, Tryd.ntmps4
  go_wp2_with fail
  refine (twin_any A p.length c p w rfl hm hr).mono ?_
  rintro e w1 ⟨v1, rfl, ho1, hb1⟩
  obtain ⟨A1, c1, rfl, hc1, hr1, _⟩ := own_slice ho1
  have HB1 := Lib.hid hb1
  clear ho1 hb1 hr hm
  by_cases hbad : p.length = 0 ∨ 1048576 < p.length
  · go_wp2_with fail
    refine (frame_bad A1 p.length c1 w1 hbad HN.out).mono ?_
    rintro e w2 ⟨v2, rfl, ⟨b2, s2, rfl, _⟩, hb2⟩
    have HB2 := Lib.hid hb2
    clear hb2
    go_wp2_with fail
    refine (sure_any w2).mono ?_
    rintro e w3 ⟨rfl, hb3⟩
    go_wp2
    go_ret
    exact ⟨rfl, below_trans (below_trans HB1.out HB2.out) hb3⟩
  · have hp0 : 0 < p.length := by omega
    have hp1 : p.length ≤ 1048576 := by omega
    have HP := Lib.hid (And.intro hp0 hp1)
    clear hbad hp0 hp1
    go_wp2_with fail
    refine (frame_ok A1 p.length c1 p w1 rfl HP.out.1 HP.out.2 hr1).mono ?_
    rintro e w2 ⟨v2, rfl, ho2, hb2⟩
    have HB2 := Lib.hid (below_trans HB1.out hb2)
    have HG2 : TypeLaid w2 := HG.out.below (below_trans HB1.out hb2) HG.out.lt
    have HG2' := Lib.hid HG2
    clear hb2 hr1 HG2
    by_cases hby : by_.toNat = 0
    · have hbz : (((by_.toNat : Nat) : Int) == 0) = true := by rw [hby]; rfl
      have hbz' : ((by_.toNat : Nat) : Int) = 0 := by omega
      clear ho2 hby
      go_wp2_with fail
      refine (sure_any w2).mono ?_
      rintro e w3 ⟨rfl, hb3⟩
      go_wp2
      go_ret
      exact ⟨rfl, below_trans HB2.out hb3⟩
    · have hbz : (((by_.toNat : Nat) : Int) == 0) = false := by simp; omega
      by_cases hlong : 100000 < p.length
      · have hli : (100000 : Int) < ((p.length : Nat) : Int) := by omega
        clear ho2 hby hlong
        go_wp2_with fail
        refine (sure_any w2).mono ?_
        rintro e w3 ⟨rfl, hb3⟩
        go_wp2
        go_ret
        exact ⟨rfl, below_trans HB2.out hb3⟩
      · have hli : ((p.length : Nat) : Int) ≤ 100000 := by omega
        have hrl := record_length p
        rcases ho2.2 with ⟨_, h0⟩ | ⟨g, cap, cur, rfl, hgw, _⟩
        · omega
        generalize hrec : record p = b at *
        have HREC := Lib.hid hrec
        have HRL := Lib.hid hrl
        have hlen0 : (((b.length : Nat) : Int) == 0) = false := beq_eq_false_iff_ne.2 (by omega)
        obtain ⟨i, hi, hie⟩ := umod at_ ((b.length : Nat) : Int) (by omega) (by omega)
        rw [wrap64] at hie
        rw [← IntKind.wrap_i64] at hie
        have hlw : IntKind.u64.wrap ((b.length : Nat) : Int) = ((b.length : Nat) : Int) := by
          simp only [IntKind.wrap, IntKind.bits, IntKind.signed, Bool.false_and, Bool.false_eq_true, if_false]
          omega
        have hib : i < b.length := by omega
        have hii : (i : Int) < ((b.length : Nat) : Int) := by omega
        have hcell := ho2.cellAt i (by omega)
        rw [List.getElem?_eq_getElem (by simp; omega)] at hcell
        simp only [List.getElem_map] at hcell
        have hfr := ho2.frozenAt i
        have hsp : oneF (b.set i (b[i] ^^^ by_)) = .inr 11 := by
          subst hrec
          refine oneF_spoilt p HP.out.1 HP.out.2 i _ hib ?_
          intro e
          apply hby
          have h2 := congrArg ((record p)[i] ^^^ ·) e
          simp only [← UInt8.xor_assoc, UInt8.xor_self, UInt8.zero_xor] at h2
          rw [h2]; rfl
        have hxor := xor8 b[i] by_
        have hst := ho2.stored i (B (b[i] ^^^ by_))
        rw [← List.map_set] at hst
        generalize b[i] ^^^ by_ = y at *
        generalize b[i] = x0 at *
        have HST := Lib.hid hst
        have HSP := Lib.hid hsp
        have HI := Lib.hid hib
        clear hst hsp ho2 hib hi hrl hrec hby hlong
        have hb3 : Below w.heap.size w (w2.setCell ⟨g, i, none⟩ (B y)) := HB2.out.setCell (p := ⟨g, i, none⟩) (Nat.le_trans HB1.out.size hgw) _
        have hg3 : TypeLaid (w2.setCell ⟨g, i, none⟩ (B y)) := HG.out.below hb3 HG.out.lt
        have HB3 := Lib.hid hb3
        have HG3 := Lib.hid hg3
        clear hb3 hg3
        go_wp2_with fail
        have ho3 := HST.out.1
        generalize w2.setCell ⟨g, i, none⟩ (B y) = w3 at *
        have hl3 : b.length = (b.set i y).length := by simp
        obtain ⟨A3, c3, e3, hc3, hr3, _⟩ := own_slice ho3
        injection e3 with e31 _ e32
        subst e31
        subst e32
        have HR3 := Lib.hid hr3
        have HC3 := Lib.hid hc3
        have HL3 := Lib.hid hl3
        have HLI := Lib.hid hli
        clear ho3 hr3 hc3 hl3 hcell hfr hxor hlw hie hii hlen0
        refine (one_any _ b.length _ (b.set i y) w3 HL3.out HC3.out (by have := HRL.out; have := HLI.out; simp; omega) HR3.out).mono ?_
        rintro e w4 ⟨hb4, h⟩
        rcases h with ⟨p', k', v', h', _⟩ | ⟨k', v', h', rfl, he⟩
        · exfalso; rw [HSP.out] at h'; cases h'
        · obtain rfl : k' = 11 := by rw [HSP.out] at h'; cases h'; rfl
          have HB4 := Lib.hid hb4
          have HE4 := Lib.hid he
          clear hb4 he h'
          go_wp2_with fail
          refine (scan_any _ b.length _ (b.set i y) w4 HL3.out HC3.out (by have := HRL.out; have := HLI.out; simp; omega) (HR3.out.below HB4.out)).mono ?_
          rintro e w5 ⟨ps, a, code, vl, vs, ev, hsc, rfl, _, hol, hrows, hcode, hb5⟩
          obtain ⟨rfl, rfl, rfl⟩ := scans_spoilt hsc HSP.out
          have hvs : vs = [] := List.eq_nil_of_length_eq_zero hrows.1
          subst hvs
          obtain ⟨Al, cl, rfl, _⟩ := own_slice hol
          have hee : ErrIs w5 ev 11 := by rcases hcode with ⟨h, _⟩ | ⟨_, h⟩; · cases h
                                          · exact h
          have HE5 := Lib.hid (HE4.out.below hb5)
          have HEE := Lib.hid hee
          have hb35 := below_trans HB4.out hb5
          have hB5 := below_trans HB3.out hb35
          have HB5 := Lib.hid hB5
          have HG5 : Hid (TypeLaid w5) := Lib.hid (HG.out.below hB5 HG.out.lt)
          clear hsc hol hrows hcode hb5 hee hb35 hB5
          go_wp2_with fail
          refine (num03_any v' 11 w5 HE5.out.fault HG5.out).mono ?_
          rintro e w6 ⟨rfl, hb6⟩
          have HB6 := Lib.hid (below_trans HB5.out hb6)
          have HE6 := Lib.hid (HE5.out.below hb6)
          have HEE6 := Lib.hid (HEE.out.below hb6)
          clear hb6
          have HG6 : Hid (TypeLaid w6) := Lib.hid (HG.out.below HB6.out HG.out.lt)
          go_wp2_with fail
          refine (num03_any ev 11 w6 HEE6.out.fault HG6.out).mono ?_
          rintro e w7 ⟨rfl, hb7⟩
          have HB7 := Lib.hid (below_trans HB6.out hb7)
          have HE7 := Lib.hid (HE6.out.below hb7)
          clear hb7
          go_wp2_with fail
          refine (torn_any v' 11 w7 (.inr ⟨by decide, HE7.out⟩)).mono ?_
          rintro e w8 ⟨rfl, rfl⟩
          go_wp2_with fail
          refine (sure_any w8).mono ?_
          rintro e w9 ⟨rfl, hb9⟩
          go_wp2
          go_ret
          exact ⟨rfl, below_trans HB7.out hb9⟩
#print axioms spoilt_any
end Go.Proofs.YtdmopnmifdjcnaaDoor
