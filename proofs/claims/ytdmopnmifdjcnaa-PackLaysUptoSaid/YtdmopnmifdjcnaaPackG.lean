/- A writer that is none; the walk of PackLays. -/
import Derived.Test.YtdmopnmifdjcnaaPackF
import Derived.Test.YtdmopnmifdjcnaaPackD
import Derived.Deep.RegionWith
import Derived.Deep.Cut
namespace Go.Proofs.Ytdmopnmifdjcnaa
open Go Go.RowKit Go.Isth
abbrev Nix : Value := .pointer none

theorem uintNil (n : Int) (w : World) : Calls Try.prog 16 #[Nix, .int .u64 n] w fun e w' => e = .returned Nix ∧ w' = w := by
  go_enter Try.func16, Try.ntmps16
  go_wp2
  go_ret
  exact ⟨rfl, rfl⟩
theorem intNil (n : Int) (w : World) : Calls Try.prog 22 #[Nix, .int .i64 n] w fun e w' => e = .returned Nix ∧ w' = w := by
  go_enter Try.func22, Try.ntmps22
  go_wp2_with fail
  refine (uintNil _ w).mono ?_
  rintro e w1 ⟨rfl, rfl⟩
  go_wp2
  go_ret
  exact ⟨rfl, rfl⟩
theorem rawNil (A : Option Addr) (n c : Nat) (w : World) : Calls Try.prog 41 #[Nix, .slice A n c] w fun e w' => e = .returned Nix ∧ w' = w := by
  go_enter Try.func41, Try.ntmps41
  go_wp2
  go_ret
  exact ⟨rfl, rfl⟩
theorem boolNil (x : Bool) (w : World) : Calls Try.prog 18 #[Nix, .bool x] w fun e w' => e = .returned Nix ∧ Below w.heap.size w w' := by
  go_enter Try.func18, Try.ntmps18
  cases x
  all_goals
    go_wp2_with fail
    refine (rawNil _ _ _ _).mono ?_
    rintro e w1 ⟨rfl, rfl⟩
    go_wp2
    go_ret
    exact ⟨rfl, (Below.refl _ _).alloc (Nat.le_refl _) _⟩
theorem bytesNil (A : Option Addr) (n c : Nat) (w : World) : Calls Try.prog 24 #[Nix, .slice A n c] w fun e w' => e = .returned Nix ∧ w' = w := by
  go_enter Try.func24, Try.ntmps24
  go_wp2_with fail
  refine (uintNil _ w).mono ?_
  rintro e w1 ⟨rfl, rfl⟩
  go_wp2_with fail
  refine (rawNil _ _ _ _).mono ?_
  rintro e w1 ⟨rfl, rfl⟩
  go_wp2
  go_ret
  exact ⟨rfl, rfl⟩
theorem textNil (s : ByteArray) (w : World) : Calls Try.prog 23 #[Nix, .string s] w fun e w' => e = .returned Nix ∧ Below w.heap.size w w' := by
  go_enter Try.func23, Try.ntmps23
  obtain ⟨c, w1, hcv, hc, hr, hb, hsz⟩ := run_text Try.underlying9 Try.underlying23 Try.underlying5 s w
  have HB := Lib.hid hb
  clear hr hb hsz hc
  go_wp2_with fail
  refine (bytesNil _ _ _ _).mono ?_
  rintro e w2 ⟨rfl, rfl⟩
  go_wp2
  go_ret
  exact ⟨rfl, HB.out⟩
theorem hashNil (cs : Array Value) (w : World) : Calls Try.prog 19 #[Nix, .agg cs] w fun e w' => e = .returned Nix ∧ Below w.heap.size w w' := by
  go_enter Try.func19, Try.ntmps19
  go_wp2_with fail
  refine (rawNil _ _ _ _).mono ?_
  rintro e w2 ⟨rfl, rfl⟩
  go_wp2
  go_ret
  exact ⟨rfl, (Below.refl _ _).alloc (Nat.le_refl _) _⟩
theorem doneNil (w : World) : Calls Try.prog 17 #[Nix] w fun e w' => e = .returned (.slice none 0 0) ∧ w' = w := by
  go_enter Try.func17, Try.ntmps17
  go_wp2
  go_ret
  exact ⟨rfl, rfl⟩

theorem of_any {w0 w1 w2 : World} (h : Below w1.heap.size w1 w2) (ho : w1.os = w0.os := by rfl) (ht : w1.tape = w0.tape := by rfl) (hp : w1.output = w0.output := by rfl) (hh : w1.heap = w0.heap := by rfl) : Below w0.heap.size w0 w2 :=
  ⟨h.os.trans ho, h.tape.trans ht, h.output.trans hp, by rw [← hh]; exact h.size, fun k hk => by rw [← hh] at hk ⊢; exact h.block k hk⟩
theorem below_next {w w1 w1' w2 : World} (h : Below w.heap.size w w1) (k : Below w1'.heap.size w1' w2) (ho : w1'.os = w1.os := by rfl) (ht : w1'.tape = w1.tape := by rfl) (hp : w1'.output = w1.output := by rfl) (hh : w1'.heap = w1.heap := by rfl) : Below w.heap.size w w2 :=
  h.trans ((of_any k ho ht hp hh).mono h.size)
theorem below_same {w w1 w2 : World} (h : Below w.heap.size w w1) (ho : w2.os = w1.os := by rfl) (ht : w2.tape = w1.tape := by rfl) (hp : w2.output = w1.output := by rfl) (hh : w2.heap = w1.heap := by rfl) : Below w.heap.size w w2 :=
  ⟨ho.trans h.os, ht.trans h.tape, hp.trans h.output, by rw [hh]; exact h.size, fun k hk => by rw [hh]; exact h.block k hk⟩
theorem conv_any (A : Option Addr) (c : Nat) (bs : List UInt8) (w : World) (hr : Rd w A (bs.map B)) : (convert 23 9 (.slice A bs.length c)).run Try.prog w = .ok (.string ⟨bs.toArray⟩) w :=
  run_str Try.underlying23 Try.underlying5 Try.underlying9 A _ c bs w rfl hr

/-- One that came in. -/
def ThingIn (w : World) (ad : Addr) : Prop := ∃ (k n : Int) (xs hs : List UInt8) (A : Option Addr) (c : Nat), (∀ j u, (thingCells k n (.slice A xs.length c) hs)[j]? = some u → w.cell? (ad.add j) = some u) ∧ Rd w A (xs.map B) ∧ (∀ ad, A = some ad → 0 < xs.length → ad.block < w.heap.size) ∧
  xs.length ≤ c ∧ xs.length ≤ 1048576 ∧ hs.length = 32 ∧ -9223372036854775808 ≤ n ∧ n < 9223372036854775808 ∧ ad.block < w.heap.size

def LaysInv (w : World) (n : Nat) (o i : Value) (wr : World) : Prop :=
  ∃ (k : Nat) (bs : List UInt8) (v : Value), i = .int .i64 k ∧ k ≤ n ∧ k ≤ 60 ∧ bs.length ≤ k * 1048618 ∧ WIs wr w.heap.size w.heap.size v bs ∧ wr.ownsRow w.heap.size 5 1 o bs.length (bs.map B) ∧ (o.ownBlock = none ∨ o.ownBlock ≠ v.ownBlock) ∧ Below w.heap.size w wr

def XorInv (w5 : World) (base : Nat) (v5 : Value) (n : Nat) (i : Value) (wr : World) : Prop :=
  ∃ (k : Nat) (zs : List UInt8), i = .int .i64 k ∧ k ≤ n ∧ zs.length = n ∧ wr.ownsRow base 5 1 v5 n (zs.map B) ∧ w5.grownBy wr v5.ownBlock

set_option maxRecDepth 100000 in
set_option maxHeartbeats 20000000 in
theorem lays_any (A0 : Option Addr) (n cap : Nat) (w : World) (hn : n ≤ 1048576) (hl : ∀ i, i < n → ∃ b0 o0, A0 = some ⟨b0, o0, none⟩ ∧ ThingIn w ⟨b0, o0 + i * 35, none⟩) :
    Calls Try.prog 6 #[.slice A0 n cap] w fun e w' => e = .returned (.bool true) ∧ Below w.heap.size w w' := by
  have HN := Lib.hid hn
  have HL := Lib.hid hl
  clear hn hl
  go_enter Try.func6, Try.ntmps6
  go_wp2_with fail
  refine (new_any w).mono ?_
  rintro e w1 ⟨rfl, hw1, hb1⟩
  have HW1 := Lib.hid hw1
  have HB1 := Lib.hid hb1
  clear hw1 hb1
  go_wp2_with fail
  go_loopw [4, 5] (fun o i wr => LaysInv w n o i wr) (fun _ i _ => 60 - (intOf i).toNat)
  case atStart => exact ⟨0, [], _, rfl, Nat.zero_le _, Nat.zero_le _, by simp, HW1.out, World.ownsRow_nil _ _ _ _, .inl rfl, HB1.out⟩
  case round =>
    obtain ⟨k, bs, v, rfl, hk, hk60, hbl, hW, hown, hap, hB⟩ := hrel
    by_cases hend : k < n ∧ k < 60
    · obtain ⟨hkn, hk6⟩ := hend
      obtain ⟨b0, o0, rfl, k1, n1, xs, hs, A, c, hcells, hr, hA, hc, hx, hh, h0, h1, hlt⟩ := HL.out k hkn
      have hld : (loadVar 53 ⟨b0, o0 + k * 35, none⟩).run Try.prog wr = .ok (.agg (thingCells k1 n1 (.slice A xs.length c) hs).toArray) wr := run_load_agg (n := 35) Try.underlying53 rfl (by kernel_rfl) wr _ (thingCells k1 n1 (.slice A xs.length c) hs) (by simp [thingCells, hh]) (fun j u hu => (hB.cell (by rw [Addr.add_block]; exact hlt)).trans (hcells j u hu))
      obtain ⟨Ao, co, rfl, _⟩ := own_slice hown
      have hkni : (k : Int) < (n : Int) := by omega
      have hk6i : (k : Int) < 60 := by omega
      have HK := Lib.hid (And.intro hkn (And.intro hk6 hbl))
      have HS := Lib.hid (And.intro hW (And.intro hown (And.intro hap hB)))
      have HT := Lib.hid (And.intro hr (And.intro hA (And.intro hx (And.intro hh (And.intro h0 h1)))))
      clear hkn hk6 hbl hW hown hap hB hr hA hx hh h0 h1 hcells hk hk60 hc
      go_wp2_with (refine wpList_load rfl (.tmp 26) rfl _ _ rfl hld ?_)
      refine (lay_any w.heap.size v _ bs bs xs hs k1 n1 A c w.heap.size wr HS.out.1 HS.out.2.1 HS.out.2.2.1 (HT.out.1.below HS.out.2.2.2) HT.out.2.1 HT.out.2.2.1 HT.out.2.2.2.1 HT.out.2.2.2.2.1 HT.out.2.2.2.2.2 (by have := HK.out; omega) (by have := HK.out; omega)).mono ?_
      rintro e w2 ⟨enc, v2, vb2, rfl, hel, hW2, ho2, hap2, hb2⟩
      have H2 := Lib.hid (And.intro hel (And.intro hW2 (And.intro ho2 (And.intro hap2 (HS.out.2.2.2.trans hb2)))))
      clear hel hW2 ho2 hap2 hb2 hld
      go_wp2
      go_round
      case rel => exact ⟨k + 1, bs ++ enc, v2, by simp, by have := HK.out; omega, by have := HK.out; omega, by have := HK.out; have := H2.out.1; have := HT.out.2.2.1; rw [List.length_append]; omega, H2.out.2.1, H2.out.2.2.1, H2.out.2.2.2.1, H2.out.2.2.2.2⟩
      case measure => simp [intOf]; omega
    · obtain ⟨Ao, co, rfl, _, hro, _⟩ := own_slice hown
      have HE := Lib.hid hend
      have HS := Lib.hid (And.intro hW (And.intro hown (And.intro hap hB)))
      have hbl' : bs.length ≤ 62917080 := by omega
      have HBL := Lib.hid hbl'
      have hor : (n : Int) ≤ (k : Int) ∨ ((k : Int) < (n : Int) ∧ (60 : Int) ≤ (k : Int)) := by omega
      have HRO := Lib.hid hro
      clear hend hW hown hap hB hbl hbl' hk hk60 hro
      rcases hor with hc | ⟨hc, hc2⟩
      all_goals
        go_wp2_with fail
        refine (done_any _ v bs w.heap.size wr HS.out.1 (by have := HBL.out; omega)).mono ?_
        rintro e w5 ⟨v5, rfl, ho5, hb5⟩
        have HO5 := Lib.hid ho5
        have HB5 := Lib.hid hb5
        clear hb5 ho5 hc
        go_wp2_with fail
        go_loopw [7] (fun i wr' => XorInv w5 wr.heap.size v5 bs.length i wr') (fun i _ => bs.length - (intOf i).toNat)
        case atStart => exact ⟨0, bs, rfl, Nat.zero_le _, rfl, HO5.out, World.grownBy.refl _ _⟩
        case round =>
          obtain ⟨i, zs, rfl, hi, hzl, howr, hgr⟩ := hrel
          by_cases hlt : i < bs.length
          · rcases howr.2 with ⟨_, h0⟩ | ⟨g, cap5, cur, hvm, _⟩
            · omega
            · subst hvm
              have hcell := howr.cellAt i (by omega)
              rw [List.getElem?_eq_getElem (by simp; omega)] at hcell
              simp only [List.getElem_map] at hcell
              generalize zs[i] = z0 at hcell
              have hfr := howr.frozenAt i
              have hxor := xor8 z0 255
              rw [show (((255 : UInt8).toNat : Nat) : Int) = 255 from rfl] at hxor
              have hst := howr.stored i (B (z0 ^^^ 255))
              rw [← List.map_set] at hst
              have HST := Lib.hid hst
              have HG := Lib.hid hgr
              have HY := Lib.hid hzl
              have HI := Lib.hid hlt
              have hbig : (i : Int) + 1 ≤ 62917080 := by have := HBL.out; omega
              clear hst hgr hzl howr hi
              go_wp2
              go_round
              case rel => exact ⟨i + 1, zs.set i (z0 ^^^ 255), by simp, HI.out, by have := HY.out; simpa using this, HST.out.1, grown_trans HG.out HST.out.2 (.inl rfl)⟩
              case measure => have := HI.out; simp [intOf]; omega
          · obtain ⟨A5, c5, e5, _⟩ := own_slice howr
            subst e5
            have hx5 : Ext w5 _ (.slice A5 bs.length c5) (.slice A5 bs.length c5) := ⟨hgr, .inl rfl⟩
            have hWF := (HS.out.1.below HB5.out).ext hx5 (fun e => by have := (HO5.out.lt _ e).1; have := HS.out.1.lt; omega) (by
              rcases h : (Value.slice A5 bs.length c5).ownBlock with _ | k5
              · exact .inl rfl
              · exact .inr fun e => by have h1 := (HO5.out.lt k5 h).1; have h2 := (HS.out.1.own.lt k5 e.symm).2; omega)
            have hoF := own_block (own_below HS.out.2.1 HB5.out) (fun k' e => hgr.block _ (by have := (HS.out.2.1.lt k' e).2; have := HB5.out.size; omega) (fun e' => by have h1 := (HO5.out.lt _ e'.symm).1; have h2 := (HS.out.2.1.lt k' e).2; omega))
            have hBF := (HS.out.2.2.2.trans (HB5.out.mono HS.out.2.2.2.size)).grown hgr (Nat.le_trans HS.out.2.2.2.size HB5.out.size) (fun k' e => by have h1 := (HO5.out.lt _ e).1; have h2 := HS.out.2.2.2.size; omega)
            obtain ⟨_, _, eo, _, hrF, _⟩ := own_slice hoF
            injection eo with eo1 eo3 eo2
            clear eo3
            subst eo1
            subst eo2
            have HWF := Lib.hid hWF
            have HBF := Lib.hid hBF
            have HRF := Lib.hid hrF
            have hge : ((bs.length : Nat) : Int) ≤ (i : Int) := by omega
            clear hx5 hWF hBF hoF howr hgr hzl hi hrF
            have q0 := conv_any Ao co bs wr HRF.out
            have q1 := conv_any Ao co bs wr.drew HRF.out
            have q2 := conv_any Ao co bs wr.drew.drew HRF.out
            go_wp2_with fail
            go_region_with (first
              | (go_at_call_of 17 (Ptr w.heap.size); refine (done_any _ v bs w.heap.size _ ?_ ?_).mono ?_; exact HWF.out.below ⟨rfl, rfl, rfl, Nat.le_refl _, fun _ _ => rfl⟩; exact Nat.le_trans HBL.out (by omega); rintro e w6 ⟨v6, rfl, ho6, hb6⟩; obtain ⟨A6, c6, rfl, _, hr6, _⟩ := own_slice ho6; have hro := HRF.out.below (of_any hb6 : Below wr.heap.size wr w6); have r0 := conv_any A6 c6 bs w6 hr6; have r1 := conv_any A6 c6 bs w6.drew hr6; have r2 := conv_any A6 c6 bs w6.drew.drew hr6; have t0 := conv_any Ao co bs w6 hro; have t1 := conv_any Ao co bs w6.drew hro; have t2 := conv_any Ao co bs w6.drew.drew hro; clear ho6 hro hr6 q0 q1 q2)
              | (go_at_call 17; refine (doneNil _).mono ?_; rintro e w7 ⟨rfl, rfl⟩)
              | (go_at_call 16; refine (uintNil _ _).mono ?_; rintro e w7 ⟨rfl, rfl⟩)
              | (go_at_call 22; refine (intNil _ _).mono ?_; rintro e w7 ⟨rfl, rfl⟩)
              | (go_at_call 23; refine (textNil _ _).mono ?_; rintro e w8 ⟨rfl, hb8⟩)
              | (go_at_call 19; refine (hashNil _ _).mono ?_; rintro e w9 ⟨rfl, hb9⟩)
              | (go_at_call 18; refine (boolNil _ _).mono ?_; rintro e wa ⟨rfl, hba⟩)
              | (go_at_call 20; refine (packSure_any _).mono ?_; rintro e wb ⟨rfl, hbb⟩))
            all_goals
              go_wp2
              go_ret
              first
                | exact ⟨rfl, below_next (below_next (below_next (below_next (below_next HBF.out hb6) hb8) hb9) hba) hbb⟩
                | exact ⟨rfl, below_same (below_next (below_next (below_next (below_next (below_next HBF.out hb6) hb8) hb9) hba) hbb)⟩
#print axioms lays_any
end Go.Proofs.Ytdmopnmifdjcnaa
