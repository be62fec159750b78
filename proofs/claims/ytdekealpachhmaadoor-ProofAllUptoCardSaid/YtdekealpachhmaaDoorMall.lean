/- Layer 7's reference: Find by its contract. ProofAll's walk. -/
import Derived.Test.YtdekealpachhmaaDoorRvG
import Derived.Test.YtdekealpachhmaaDoorMrng
import Derived.Test.YtdekealpachhmaaDoorMgrw
import Derived.Test.YtdekealpachhmaaDoorMver

namespace Go.Isth
open Go Go.Op
theorem prefix_find : ∀ (l : List (Str × Str)) (k : Nat) (key : Str), Sorted l → k ≤ l.length → (∀ (j : Nat) p, j < k → l[j]? = some p → bytesLess p.1 key = true) → (∀ p, l[k]? = some p → bytesLess p.1 key = false) → (l.filter fun x => bytesLess x.1 key).length = k
  | [], k, key, _, hk, _, _ => by
    obtain rfl : k = 0 := by simpa using hk
    rfl
  | x :: l, 0, key, hs, _, _, h2 => by
    obtain ⟨h1, _⟩ := List.pairwise_cons.1 hs
    have hx := h2 x rfl
    rw [List.length_eq_zero_iff, List.filter_eq_nil_iff]
    intro z hz
    rcases List.mem_cons.1 hz with rfl | hz
    · rw [hx]; simp
    · cases hzk : bytesLess z.1 key with
      | false => simp
      | true => rw [less_trans (h1 z hz) hzk] at hx; cases hx
  | x :: l, k + 1, key, hs, hk, h1, h2 => by
    obtain ⟨_, hs2⟩ := List.pairwise_cons.1 hs
    rw [List.filter_cons, if_pos (h1 0 x (by omega) rfl), List.length_cons, prefix_find l k key hs2 (by simpa using hk) (fun j p hj hp => h1 (j + 1) p (by omega) (by simpa using hp)) (fun p hp => h2 p (by simpa using hp))]
end Go.Isth
namespace Go.Proofs.YtdekealpachhmaaDoor
open Go Go.RowKit Go.Isth

def RFindInv (w : World) (l : List (Str × Str)) (key : Str) (n : Value) (wr : World) : Prop := ∃ k : Nat, n = .int .i64 (k : Nat) ∧ k ≤ l.length ∧ (∀ (j : Nat) p, j < k → l[j]? = some p → Op.bytesLess p.1 key = true) ∧ wr = w
set_option maxRecDepth 100000 in
set_option maxHeartbeats 1000000 in
theorem rfind_any (t : Option Av) (key : Str) (cs : List Value) (w : World) (h : RO w t cs) (hg : Isth.Good t) (hm : manyO t ≤ 900000) :
    Calls Tryd.prog 39 #[.agg cs.toArray, S8 key] w fun e w' => e = .returned (.int .i64 (findO key t : Nat)) ∧ Below w.heap.size w w' := by
  have hl := h.len
  have hz := Blk_new w cs 26
  have hb0 : Below w.heap.size w (w.alloc (.cells cs.toArray 26)) := (Below.refl _ _).alloc (Nat.le_refl _) _
  have HLD := Lib.hid (run_load_agg (P := Tryd.prog) Tryd.underlying26 rfl (by kernel_rfl) (w.alloc (.cells cs.toArray 26)) ⟨w.heap.size, 0, none⟩ cs hl (fun j u hj => by rw [add_plain, Nat.zero_add]; exact hz.cellD j u hj))
  have HT := Lib.hid (And.intro (h.below hb0) (And.intro hg (And.intro hm hb0)))
  go_enter Tryd.func39, Tryd.ntmps39
  go_upto_region 1 with fail
  change Code.wp _ _ _ _ (w.alloc (.cells cs.toArray 26))
  generalize w.alloc (.cells cs.toArray 26) = w0 at *
  clear h hg hm hl hz hb0
  go_wp2_with (refine wpList_load rfl (.tmp 2) rfl ⟨w.heap.size, 0, none⟩ (.agg cs.toArray) rfl HLD.out ?_)
  refine (rpairs_any t cs w0 HT.out.1 HT.out.2.2.1).mono ?_
  rintro e wc ⟨A, c, rfl, hc, hr, hb⟩
  have H1 := Lib.hid (And.intro hr (And.intro hc (below_then HT.out.2.2.2 HT.out.2.2.2.size hb)))
  obtain ⟨n, hn⟩ : ∃ n, manyO t = n := ⟨_, rfl⟩
  have HN := Lib.hid (show (pairsO t).length = n by rw [← hn]; exact pairsO_length t)
  rw [hn]
  clear hr hc hb hn
  go_wp2_with fail
  go_loopw [6] (fun i wr => RFindInv wc (pairsO t) key i wr) (fun i _ => n - (intOf i).toNat)
  case atStart => exact ⟨0, rfl, Nat.zero_le _, fun j p h => by omega, rfl⟩
  case round =>
    obtain ⟨k, rfl, hk, hno, hw⟩ := hrel
    obtain rfl : wc = wr := hw.symm
    rw [HN.out] at hk
    have HNO := Lib.hid hno
    clear hno hw
    rcases Nat.lt_or_ge k n with hkn | hkn
    · obtain ⟨p, hp⟩ : ∃ p, (pairsO t)[k]? = some p := ⟨_, List.getElem?_eq_getElem (by rw [HN.out]; exact hkn)⟩
      obtain ⟨b, o, rfl, hcl⟩ := H1.out.1 (by rw [pairsC_len, HN.out]; omega)
      have e1 := hcl _ _ (pairsC_cells _ _ _ hp).1
      have hk1 : (k : Int) < (n : Int) := by omega
      have HP := Lib.hid hp
      have hm9 : n ≤ 900000 := by have := HT.out.2.2.1; have := HN.out; have := pairsO_length t; omega
      clear hp hcl
      cases hb : Op.bytesLess p.1 key with
      | true =>
        go_wp2
        refine ⟨⟨k + 1, by simp, by rw [HN.out]; omega, fun j q hj hq => ?_, rfl⟩, ?_⟩
        · rcases Nat.lt_or_ge j k with hjk | hjk
          · exact HNO.out j q hjk hq
          · obtain rfl : j = k := by omega
            rw [HP.out] at hq
            obtain rfl := Option.some.inj hq
            exact hb
        · show n - (Int.toNat ((k : Int) + 1)) < n - Int.toNat (k : Int)
          omega
      | false =>
        go_wp2
        go_ret
        refine ⟨?_, H1.out.2.2⟩
        rw [findO_pairs HT.out.2.1, prefix_find (pairsO t) k key (sorted_good HT.out.2.1) (by rw [HN.out]; omega) HNO.out (fun q hq => by rw [HP.out] at hq; obtain rfl := Option.some.inj hq; exact hb)]
        rfl
    · have hk1 : ¬ (k : Int) < (n : Int) := by omega
      go_wp2
      go_ret
      refine ⟨?_, H1.out.2.2⟩
      rw [findO_pairs HT.out.2.1, prefix_find (pairsO t) k key (sorted_good HT.out.2.1) (by rw [HN.out]; omega) HNO.out (fun q hq => by rw [List.getElem?_eq_none (by rw [HN.out]; exact hkn)] at hq; cases hq)]
      rfl
end Go.Proofs.YtdekealpachhmaaDoor

namespace Go.Isth
open Go Go.RowKit Go.Op
theorem less_snoc : ∀ x y : Str, bytesLess x (y ++ [0]) = (decide (x = y) || bytesLess x y)
  | [], [] => rfl
  | [], b :: y => by simp [bytesLess]
  | a :: x, [] => by
    have h : bytesLess x ([] : Str) = false := by cases x <;> rfl
    have h2 : bytesLess (a :: x) ([] : Str) = false := rfl
    rw [h2]
    simp only [List.nil_append, bytesLess, h, Bool.and_false, Bool.or_false]
    simp
  | a :: x, b :: y => by
    have ih := less_snoc x y
    simp only [List.cons_append, bytesLess, ih]
    by_cases hab : a = b
    · subst hab
      simp
    · have hab' : (a == b) = false := by simp [hab]
      have hd : decide (a :: x = b :: y) = false := by simp [hab]
      rw [hab', hd]
      simp only [Bool.false_and, Bool.or_false, Bool.false_or]
theorem sorted_lt {l : List (Str × Str)} (hs : Sorted l) {j k : Nat} {p q : Str × Str} (hjk : j < k) (hq : l[j]? = some q) (hp : l[k]? = some p) : bytesLess q.1 p.1 = true := by
  obtain ⟨h1, e1⟩ := List.getElem?_eq_some_iff.1 hq
  obtain ⟨h2, e2⟩ := List.getElem?_eq_some_iff.1 hp
  have h := List.pairwise_iff_getElem.1 hs j k h1 h2 hjk
  rw [e1, e2] at h
  exact h
theorem findO_atA {t : Option Av} (hg : Isth.Good t) {k : Nat} {p : Str × Str} (h : (pairsO t)[k]? = some p) : findO p.1 t = k := by
  cases t with
  | none => simp [pairsO] at h
  | some t =>
    have hk : k < t.many := by rw [← t.pairs_length]; exact (List.getElem?_eq_some_iff.1 h).1
    have h1 := t.at_pairs k hk
    have h2 : t.at_ k = p := Option.some.inj (h1.symm.trans h)
    rw [← h2]
    exact find_at t k hk hg.2
theorem find_snoc {t : Option Av} (hg : Isth.Good t) {k : Nat} {p : Str × Str} (h : (pairsO t)[k]? = some p) : findO (p.1 ++ [0]) t = k + 1 := by
  rw [findO_pairs hg]
  refine prefix_find (pairsO t) (k + 1) _ (sorted_good hg) (List.getElem?_eq_some_iff.1 h).1 (fun j q hj hq => ?_) (fun q hq => ?_)
  · rw [less_snoc]
    rcases Nat.lt_or_ge j k with hjk | hjk
    · rw [sorted_lt (sorted_good hg) hjk hq h, Bool.or_true]
    · obtain rfl : j = k := by omega
      rw [h] at hq
      obtain rfl := Option.some.inj hq
      simp
  · have h1 := sorted_lt (sorted_good hg) (Nat.lt_succ_self k) h hq
    rw [less_snoc, less_asymm h1, Bool.or_false]
    have : q.1 ≠ p.1 := fun e => by rw [e, less_irrefl] at h1; cases h1
    simp [this]
theorem snoc_below {t : Option Av} (hg : Isth.Good t) {k : Nat} {p q : Str × Str} (h : (pairsO t)[k]? = some p) (hq : (pairsO t)[k + 1]? = some q) (hn : getO (p.1 ++ [0]) t = none) : bytesLess (p.1 ++ [0]) q.1 = true := by
  have h1 := sorted_lt (sorted_good hg) (Nat.lt_succ_self k) h hq
  rcases less_tri (p.1 ++ [0]) q.1 with h2 | h2 | h2
  · exact h2
  · exfalso
    cases t with
    | none => simp [pairsO] at h
    | some t =>
      have hm : (p.1 ++ [0], q.2) ∈ t.pairs := by rw [h2]; exact List.mem_of_getElem? hq
      have := (get_pairs t _ hg.2 q.2).2 hm
      simp only [getO] at hn
      rw [hn] at this
      cases this
  · rw [less_snoc] at h2
    simp only [Bool.or_eq_true, decide_eq_true_eq] at h2
    rcases h2 with h3 | h3
    · have : q.1 = p.1 := h3
      rw [this, less_irrefl] at h1
      cases h1
    · rw [less_asymm h1] at h3
      cases h3
end Go.Isth
namespace Go.Proofs.YtdekealpachhmaaDoor
open Go Go.RowKit Go.Isth

def AllInv (w5 : World) (n : Nat) (v6 : Value) (wr : World) : Prop := ∃ k : Nat, v6 = .int .i64 (k : Nat) ∧ k ≤ n ∧ Below w5.heap.size w5 wr
set_option maxRecDepth 100000 in
set_option maxHeartbeats 8000000 in
theorem all_any (A : Option Addr) (c : Nat) (l : List (Str × Str)) (w : World) (hc : l.length ≤ c) (hr : Rd w A (pairsC l)) (hl : ∀ a ∈ l, a.1.length ≤ 2000000 ∧ a.2.length ≤ 2000000) (hn : l.length ≤ 4611686018427387904) (ht : TabLaid w) (hy : TypeLaid w) :
    Calls Tryd.prog 3 #[.slice A l.length c] w fun e w' => e = .returned (.bool true) ∧ Below w.heap.size w w' := by
  obtain ⟨hgood, hmany, hsmall⟩ := grownS_facts l hl
  have HA := Lib.hid (And.intro hc (And.intro hr (And.intro hl (And.intro hn (And.intro ht hy)))))
  clear hc hr hl hn ht hy
  go_enter Tryd.func3, Tryd.ntmps3
  go_wp2_with fail
  refine (grown08_any A c l w HA.out.1 HA.out.2.1 HA.out.2.2.1 HA.out.2.2.2.1 HA.out.2.2.2.2.1).mono ?_
  rintro e w1 ⟨v, cs, rfl, htr, hro, hb⟩
  have HLC := Lib.hid (And.intro hro.len hro.one)
  have HW := Lib.hid hb
  have HTR := Lib.hid htr
  clear hro hb htr
  obtain ⟨t, htt⟩ : ∃ t, t = grownS l := ⟨_, rfl⟩
  rw [← htt] at hgood hmany hsmall HTR
  obtain ⟨rl, hrl⟩ : ∃ rl, pairsO t = rl := ⟨_, rfl⟩
  obtain ⟨nl, hnl⟩ : ∃ nl, rl.length = nl := ⟨_, rfl⟩
  have HMN := Lib.hid (show manyO t = nl by rw [← hnl, ← hrl]; exact (pairsO_length t).symm)
  have HRN := Lib.hid (And.intro hrl (And.intro hnl (show nl ≤ 40 by rw [← HMN.out]; exact hmany)))
  have HGT := Lib.hid (And.intro hgood (And.intro hmany hsmall))
  clear hgood hmany hsmall hrl hnl htt
  go_wp2_with (refine wpList_store_blk rfl 26 (.tmp 4) (.tmp 19) rfl w1.heap.size cs rfl rfl 26 emptyC (heap_alloc_new w1 _) (by rw [HLC.out.1]; kernel_rfl) (by rw [HLC.out.1]; rfl) HLC.out.2 ?_; intro w2 hz hg
               have hb2 : Below w1.heap.size w1 w2 := ((Below.refl w1.heap.size w1).alloc (Nat.le_refl _) _).grown hg (by simp) (fun q e => by injection e with e; omega)
               have HW := Lib.hid (below_then HW.out HW.out.size hb2)
               have HTR := Lib.hid (HTR.out.below hb2)
               clear hz hg hb2)
  refine (range_any t v [] [] _ HTR.out HGT.out.1 (by have := HGT.out.2.1; omega)).mono ?_
  rintro e w5 ⟨vr, rfl, ho, hb⟩
  rw [show rangeO [] [] t = rl by rw [← HRN.out.1]; exact between_all _] at ho
  obtain ⟨A', c', rfl, _, hrd, _⟩ := own_slice ho
  rw [HRN.out.2.1]
  have HTR := Lib.hid (HTR.out.below hb)
  have HW := Lib.hid (below_then HW.out HW.out.size hb)
  have HRD := Lib.hid hrd
  have HT5 := Lib.hid (And.intro (HA.out.2.2.2.2.1.below HW.out HA.out.2.2.2.2.1.lt) (HA.out.2.2.2.2.2.below HW.out HA.out.2.2.2.2.2.lt))
  clear hb ho hrd
  go_wp2_with fail
  go_loopw [6] (fun v6 wr => AllInv w5 nl v6 wr) (fun v6 _ => nl - (intOf v6).toNat)
  case atStart => exact ⟨0, rfl, Nat.zero_le _, Below.refl _ _⟩
  case round =>
    obtain ⟨k, rfl, hk, hB⟩ := hrel
    by_cases hkn : k < nl
    · obtain ⟨p, hp⟩ : ∃ p, rl[k]? = some p := ⟨_, List.getElem?_eq_getElem (by rw [HRN.out.2.1]; exact hkn)⟩
      obtain ⟨pk, pv⟩ := p
      obtain ⟨tt, htt⟩ : ∃ tt, t = some tt := by
        cases t with
        | none => rw [← HRN.out.1] at hp; simp [pairsO] at hp
        | some tt => exact ⟨tt, rfl⟩
      subst htt
      obtain ⟨g, rfl, hx⟩ := HTR.out
      have HPK := Lib.hid (show (pairsO (some tt))[k]? = some (pk, pv) by rw [HRN.out.1]; exact hp)
      have HPF := Lib.hid (show tt.get pk = some pv ∧ tt.find pk = k ∧ k < tt.many ∧ tt.at_ k = (pk, pv) ∧ tt.many ≤ 40 ∧ tt.many = nl from
        ⟨(getO_pairs HGT.out.1 pk pv).2 (List.mem_of_getElem? HPK.out), findO_atA HGT.out.1 HPK.out, by have := HMN.out; simp only [manyO] at this; omega, Option.some.inj ((tt.at_pairs k (by have := HMN.out; simp only [manyO] at this; omega)).symm.trans HPK.out), HGT.out.2.1, HMN.out⟩)
      obtain ⟨b, o, rfl, hcl⟩ := HRD.out (by rw [pairsC_len, HRN.out.2.1]; omega)
      have e1 := cell_below (hcl _ _ (pairsC_cells _ _ _ hp).1) hB
      have e2 := cell_below (hcl _ _ (pairsC_cells _ _ _ hp).2) hB
      rw [← Nat.add_assoc] at e2
      have hk1 : (k : Int) < (nl : Int) := by omega
      have hm6 := HRN.out.2.2
      have HBW := Lib.hid hB
      have HX := Lib.hid (hx.below hB)
      have HTA := Lib.hid (And.intro (HT5.out.1.below hB HT5.out.1.lt) (HT5.out.2.below hB HT5.out.2.lt))
      have HC1 := Lib.hid (And.intro e1 e2)
      clear hp hcl hB hx
      go_wp2_with fail
      refine (exist_yes tt g pk pv _ HX.out HGT.out.1.2 HPF.out.1 (by have := HPF.out; omega)).mono ?_
      rintro e w3 ⟨csp, rfl, hpp, hb3⟩
      rw [HPF.out.2.1] at hpp
      have HPP := Lib.hid hpp
      have HX := Lib.hid (HX.out.below hb3)
      have HBR := Lib.hid hb3
      clear hpp hb3 e1 e2
      obtain ⟨x7, hx7⟩ : ∃ n, n = w3.heap.size := ⟨_, rfl⟩
      have e1 := cell_below HC1.out.1 HBR.out
      go_upto_region 7 with (refine wpList_store_blk rfl 32 (.tmp 7) _ rfl w3.heap.size csp rfl rfl 32 noPrf (heap_alloc_new w3 _) (by rw [HPP.out.len]; kernel_rfl) (by rw [HPP.out.len]; rfl) HPP.out.one ?_
                             intro w4 hz hg
                             have hbb : Below w3.heap.size w3 w4 := ((Below.refl _ _).alloc (Nat.le_refl _) _).grown hg (by simp) (fun q e => by injection e with e; omega)
                             have HPP := Lib.hid (HPP.out.below hbb)
                             have HX := Lib.hid (HX.out.below hbb)
                             have HBR := Lib.hid (below_then HBR.out HBR.out.size hbb)
                             have HX7 := Lib.hid hz
                             clear hz hg hbb)
      rw [← hx7] at HX7 ⊢
      clear hx7 e1
      have e1 := cell_below HC1.out.1 HBR.out
      go_wp2_with fail
      refine (none_no (some tt) (Ptr g) pk pv _ ⟨g, rfl, HX.out⟩ HPF.out.1).mono ?_
      rintro e w5' ⟨ev, rfl, hf, hb⟩
      have HF9 := Lib.hid hf
      obtain ⟨bf, rfl⟩ := hf.shape
      have HPP := Lib.hid (HPP.out.below hb)
      have HX := Lib.hid (HX.out.below hb)
      have HX7 := Lib.hid (HX7.out.below hb)
      have HBR := Lib.hid (below_then HBR.out HBR.out.size hb)
      clear hf hb e1
      rw [show noAbs.toArray = #[.slice none 0 0, .slice none 0 0] from rfl]
      go_upto_region 8 with fail
      obtain ⟨w6, hw6⟩ : ∃ w6, w6 = w5'.alloc (.cells #[.slice none 0 0, .slice none 0 0] 41) := ⟨_, rfl⟩
      have b6 : Below w5'.heap.size w5' w6 := by rw [hw6]; exact (Below.refl _ _).alloc (Nat.le_refl _) _
      rw [← hw6]
      have HF9 := Lib.hid (HF9.out.below b6)
      have HPP := Lib.hid (HPP.out.below b6)
      have HX := Lib.hid (HX.out.below b6)
      have HX7 := Lib.hid (HX7.out.below b6)
      have HBR := Lib.hid (below_then HBR.out HBR.out.size b6)
      have e1 := cell_below HC1.out.1 HBR.out
      have hsm := HGT.out.2.2 (pk, pv) (List.mem_of_getElem? HPK.out)
      have HSM := Lib.hid hsm
      have hpc : ¬ 9223372036854775807 < List.length pk + 1 := by have := hsm.1; simp only at this; omega
      obtain ⟨kz, hkz⟩ : ∃ kz, kz = pk ++ [0] := ⟨_, rfl⟩
      have hcat : (({ data := List.toArray pk } : ByteArray) ++ { data := #[0] }) = { data := List.toArray kz } := by rw [hkz]; apply ByteArray.ext; simp
      have HKZ := Lib.hid hkz
      clear hw6 b6 hkz hsm
      rcases hgz : tt.get kz with _ | uz
      · have HGZ := Lib.hid hgz
        have HFZ := Lib.hid (show tt.find kz = k + 1 by rw [HKZ.out]; exact find_snoc HGT.out.1 HPK.out)
        obtain ⟨n, hnn⟩ : ∃ n, tt.many = n := ⟨_, rfl⟩
        have HN := Lib.hid (show n ≤ 40 ∧ k < n by have := HPF.out; omega)
        clear hgz
        by_cases hk2 : k + 1 < n
        · have HNN := Lib.hid (And.intro hnn hk2)
          clear hnn
          go_wp2_with fail
          refine (none_yy tt g kz (k + 1) _ HX.out HGZ.out HFZ.out (by have := HPF.out.2.2.2.2.1; omega) (by have := HNN.out; omega)).mono ?_
          rintro e w8 ⟨vl, vr, rfl, hsl, hsr, hb⟩
          rw [show leftP tt (k + 1) = [madeP tt k] from rfl] at hsl
          rw [show rightP tt (k + 1) = [madeP tt (k + 1)] from if_pos (by have := HNN.out; omega)] at hsr
          have HLL := Lib.hid hsl.list
          have HRR := Lib.hid hsr.list
          rcases hsl with ⟨h, _⟩ | ⟨_, gl, _, _, rfl, _⟩
          · cases h
          rcases hsr with ⟨h, _⟩ | ⟨_, gr, _, _, rfl, _⟩
          · cases h
          have HF9 := Lib.hid (HF9.out.below hb)
          have HPP := Lib.hid (HPP.out.below hb)
          have HX := Lib.hid (HX.out.below hb)
          have HX7 := Lib.hid (HX7.out.below hb)
          have HBR := Lib.hid (below_then HBR.out HBR.out.size hb)
          clear hb e1
          go_upto_region 9 with fail
          obtain ⟨w9, hw9⟩ : ∃ w9, w9 = w8.alloc (.cells #[.slice (some ⟨gl, 0, none⟩) 1 1, .slice (some ⟨gr, 0, none⟩) 1 1] 41) := ⟨_, rfl⟩
          obtain ⟨x11, hx11⟩ : ∃ n, n = w8.heap.size := ⟨_, rfl⟩
          have b9 : Below w8.heap.size w8 w9 := by rw [hw9]; exact (Below.refl _ _).alloc (Nat.le_refl _) _
          have z9 : Blk w9 x11 41 [.slice (some ⟨gl, 0, none⟩) 1 1, .slice (some ⟨gr, 0, none⟩) 1 1] := by rw [hw9, hx11]; exact Blk_new w8 [.slice (some ⟨gl, 0, none⟩) 1 1, .slice (some ⟨gr, 0, none⟩) 1 1] 41
          rw [← hw9, ← hx11]
          have HX11 := Lib.hid z9
          have HF9 := Lib.hid (HF9.out.below b9)
          have HPP := Lib.hid (HPP.out.below b9)
          have HBR := Lib.hid (below_then HBR.out HBR.out.size b9)
          have hX7 := HX7.out.below b9
          have hpl := HPP.out.len
          obtain ⟨csr, hcsr⟩ : ∃ cs, cs = tt.sum.map B := ⟨_, rfl⟩
          have HC9 := Lib.hid (And.intro (cell_below HC1.out.1 HBR.out) (cell_below HC1.out.2 HBR.out))
          have HTS : Hid (∀ w', Below w9.heap.size w9 w' → w'.rangeAt x7 0 csp ∧ w'.cell? ⟨b, o + k * 2, none⟩ = some (S8 pk) ∧ w'.cell? ⟨b, o + k * 2 + 1, none⟩ = some (S8 pv)) := Lib.hid fun w' h => ⟨blk_range (hX7.below h), cell_below HC9.out.1 h, cell_below HC9.out.2 h⟩
          have ip : (Tryd.prog.info? 32).map (·.size) = some csp.length := by rw [hpl]; kernel_rfl
          have up := Tryd.underlying32
          have hsm0 := showF_made tt k HPF.out.2.2.1 (by have := path_len_le tt k; have := HPF.out.2.2.2.2.1; omega) (by have := HPF.out.2.2.2.2.1; omega)
          have hk0 : (madeP tt k).key = pk ∧ (madeP tt k).val = pv := by unfold madeP; rw [HPF.out.2.2.2.1]; exact ⟨rfl, rfl⟩
          have HV := Lib.hid (show verF tt.sum pk pv (madeP tt k) = true by simp only [verF, hsm0, hk0]; simp)
          have HP := Lib.hid (And.intro (HPP.out.mono (Nat.zero_le _)) (And.intro (show (madeP tt k).key.length ≤ 2000000 ∧ (madeP tt k).val.length ≤ 2000000 by rw [hk0.1, hk0.2]; exact HSM.out) (madeP_steps tt k)))
          have HT := Lib.hid (And.intro (HX.out.below b9) (And.intro (show csr = (rootO (some tt)).map B from hcsr) (And.intro (HTA.out.1.below HBR.out HTA.out.1.lt) (HTA.out.2.below HBR.out HTA.out.2.lt))))
          have HB : Hid (Below w9.heap.size w9 (w9.drewN 1)) := Lib.hid (refl_drewN w9 1)
          have hsk : tt.many = n := HNN.out.1
          rw [hsk] at hsm0
          have HS := Lib.hid (And.intro hsm0 (And.intro (show Op.bytesLess (madeP tt k).key kz = true by rw [hk0.1, HKZ.out, less_snoc]; simp) (show Op.bytesLess (madeP tt k).key pk = false by rw [hk0.1]; exact less_irrefl pk)))
          have LDA : Hid (∀ w : World, w.rangeAt x11 0 [.slice (some ⟨gl, 0, none⟩) 1 1, .slice (some ⟨gr, 0, none⟩) 1 1] → (loadVar 41 ⟨x11, 0, none⟩).run Tryd.prog w = .ok (.agg #[.slice (some ⟨gl, 0, none⟩) 1 1, .slice (some ⟨gr, 0, none⟩) 1 1]) w) := Lib.hid fun w h => run_load_agg (P := Tryd.prog) Tryd.underlying41 rfl (by kernel_rfl) w ⟨x11, 0, none⟩ [.slice (some ⟨gl, 0, none⟩) 1 1, .slice (some ⟨gr, 0, none⟩) 1 1] rfl (fun j u hj => by rw [add_plain]; exact h j u hj)
          have HTU : Hid (∀ w', Below w9.heap.size w9 w' → w'.cell? ⟨b, o + k * 2, none⟩ = some (S8 pk) ∧ w'.rangeAt x11 0 [.slice (some ⟨gl, 0, none⟩) 1 1, .slice (some ⟨gr, 0, none⟩) 1 1]) := Lib.hid fun w' h => ⟨cell_below HC9.out.1 h, blk_range (HX11.out.below h)⟩
          clear hsk
          have hq := tt.at_pairs (k + 1) (by have := HNN.out; omega)
          obtain ⟨qk, qv, hqq⟩ : ∃ a b, tt.at_ (k + 1) = (a, b) := ⟨_, _, rfl⟩
          rw [hqq] at hq
          have hk1' : (madeP tt (k + 1)).key = qk ∧ (madeP tt (k + 1)).val = qv := by unfold madeP; rw [hqq]; exact ⟨rfl, rfl⟩
          have hsm1 := showF_made tt (k + 1) (by have := HNN.out; omega) (by have := path_len_le tt (k + 1); have := HPF.out.2.2.2.2.1; omega) (by have := HPF.out.2.2.2.2.1; omega)
          rw [HNN.out.1] at hsm1
          have HS2 := Lib.hid (And.intro hsm1 (show Op.bytesLess kz (madeP tt (k + 1)).key = true by rw [hk1'.1, HKZ.out]; exact snoc_below HGT.out.1 HPK.out hq (by rw [← HKZ.out]; exact HGZ.out)))
          have HQ := Lib.hid (And.intro (HLL.out.below b9) (And.intro (HRR.out.below b9) (show GoodPs ([madeP tt k] ++ [madeP tt (k + 1)]) from fun p hp => by
            simp only [List.cons_append, List.nil_append, List.mem_cons, List.not_mem_nil, or_false] at hp
            rcases hp with rfl | rfl
            · exact HP.out.2
            · exact ⟨by rw [hk1'.1, hk1'.2]; exact HGT.out.2.2 (qk, qv) (List.mem_of_getElem? hq), madeP_steps tt (k + 1)⟩)))
          clear hq hqq hk1' hsm1
          clear hw9 hx11 b9 z9 hX7 hpl hcsr hsm0 hk0
          refine wp_region_held_drew (S := (fun w' => w'.rangeAt x7 0 csp ∧ w'.cell? ⟨b, o + k * 2, none⟩ = some (S8 pk) ∧ w'.cell? ⟨b, o + k * 2 + 1, none⟩ = some (S8 pv))) (by kernel_rfl) ?qas0 (fun hHeld => ?_)
          case qas0 => exact HTS.out _ HB.out
          refine held_take (i := 0) (v := ?qa1v) rfl (by kernel_rfl) (by kernel_rfl) (by kernel_rfl) (fun _ _ _ h => h) (by rfl) ?qa1y hHeld ?_
          case qa1y => ((intro w _hSw; (try dsimp only at _hSw); go_simp); try (with_reducible rfl))
          try simp only [Act.put, List.setIfInBounds_toArray, List.set_cons_zero, List.set_cons_succ]
          refine held_take (i := 1) (v := ?qa2v) rfl (by kernel_rfl) (by kernel_rfl) (by kernel_rfl) (fun _ _ _ h => h) (by rfl) ?qa2y hHeld ?_
          case qa2y => ((intro w _hSw; (try dsimp only at _hSw); go_simp); try (with_reducible rfl))
          try simp only [Act.put, List.setIfInBounds_toArray, List.set_cons_zero, List.set_cons_succ]
          refine held_take (i := 2) (v := ?qa3v) rfl (by kernel_rfl) (by kernel_rfl) (by kernel_rfl) (fun _ _ _ h => h) (by rfl) ?qa3y hHeld ?_
          case qa3y => ((intro w _hSw; (try dsimp only at _hSw); go_simp); try (with_reducible rfl))
          try simp only [Act.put, List.setIfInBounds_toArray, List.set_cons_zero, List.set_cons_succ]
          refine held_take (i := 3) (v := ?qa4v) rfl (by kernel_rfl) (by kernel_rfl) (by kernel_rfl) (fun _ _ _ h => h) (by rfl) ?qa4y hHeld ?_
          case qa4y => ((intro w _hSw; (try dsimp only at _hSw); go_simp); try (with_reducible rfl))
          try simp only [Act.put, List.setIfInBounds_toArray, List.set_cons_zero, List.set_cons_succ]
          refine held_take (i := 5) (v := ?qa5v) rfl (by kernel_rfl) (by kernel_rfl) (by kernel_rfl) (fun _ _ _ h => h) (by rfl) ?qa5y hHeld ?_
          case qa5y => ((intro w _hSw; (try dsimp only at _hSw); go_simp); try (with_reducible rfl))
          try simp only [Act.put, List.setIfInBounds_toArray, List.set_cons_zero, List.set_cons_succ]
          refine held_take (i := 6) (v := ?qa6v) rfl (by kernel_rfl) (by kernel_rfl) (by kernel_rfl) (fun _ _ _ h => h) (by rfl) ?qa6y hHeld ?_
          case qa6y => ((intro w _hSw; (try dsimp only at _hSw); go_simp); try (with_reducible rfl))
          try simp only [Act.put, List.setIfInBounds_toArray, List.set_cons_zero, List.set_cons_succ]
          refine held_take (i := 7) (v := ?qa7v) rfl (by kernel_rfl) (by kernel_rfl) (by kernel_rfl) (fun _ _ _ h => h) (by rfl) ?qa7y hHeld ?_
          case qa7y => ((intro w _hSw; (try dsimp only at _hSw); go_simp); try (with_reducible rfl))
          try simp only [Act.put, List.setIfInBounds_toArray, List.set_cons_zero, List.set_cons_succ]
          refine held_take (i := 8) (v := ?qa8v) rfl (by kernel_rfl) (by kernel_rfl) (by kernel_rfl) (fun _ _ _ h => h) (by rfl) ?qa8y hHeld ?_
          case qa8y => ((intro w _hSw; (try dsimp only at _hSw); go_simp); try (with_reducible rfl))
          try simp only [Act.put, List.setIfInBounds_toArray, List.set_cons_zero, List.set_cons_succ]
          refine held_take (i := 9) (v := ?qa9v) rfl (by kernel_rfl) (by kernel_rfl) (by kernel_rfl) (fun _ _ _ h => h) (by rfl) ?qa9y hHeld ?_
          case qa9y => ((intro w _hSw; (try dsimp only at _hSw); go_simp); try (with_reducible rfl))
          try simp only [Act.put, List.setIfInBounds_toArray, List.set_cons_zero, List.set_cons_succ]
          refine held_take (i := 10) (v := ?qa10v) rfl (by kernel_rfl) (by kernel_rfl) (by kernel_rfl) (fun _ _ _ h => h) (by rfl) ?qa10y hHeld ?_
          case qa10y => ((intro w _hSw; (try dsimp only at _hSw); go_simp); try (with_reducible rfl))
          try simp only [Act.put, List.setIfInBounds_toArray, List.set_cons_zero, List.set_cons_succ]
          refine held_take (i := 11) (v := ?qa11v) rfl (by kernel_rfl) (by kernel_rfl) (by kernel_rfl) (fun _ _ _ h => h) (by rfl) ?qa11y hHeld ?_
          case qa11y => ((intro w _hSw; (try dsimp only at _hSw); go_simp); try (with_reducible rfl))
          try simp only [Act.put, List.setIfInBounds_toArray, List.set_cons_zero, List.set_cons_succ]
          refine held_take (i := 12) (v := ?qa12v) rfl (by kernel_rfl) (by kernel_rfl) (by kernel_rfl) (fun _ _ _ h => h) (by rfl) ?qa12y hHeld ?_
          case qa12y => ((intro w _hSw; (try dsimp only at _hSw); go_simp); try (with_reducible rfl))
          try simp only [Act.put, List.setIfInBounds_toArray, List.set_cons_zero, List.set_cons_succ]
          refine held_take (i := 13) (v := ?qa13v) rfl (by kernel_rfl) (by kernel_rfl) (by kernel_rfl) (fun _ _ _ h => h) (by rfl) ?qa13y hHeld ?_
          case qa13y => ((intro w _hSw; (try dsimp only at _hSw); go_simp); try (with_reducible rfl))
          try simp only [Act.put, List.setIfInBounds_toArray, List.set_cons_zero, List.set_cons_succ]
          refine held_take (i := 14) (v := ?qa14v) rfl (by kernel_rfl) (by kernel_rfl) (by kernel_rfl) (fun _ _ _ h => h) (by rfl) ?qa14y hHeld ?_
          case qa14y => ((intro w _hSw; (try dsimp only at _hSw); go_simp); try (with_reducible rfl))
          try simp only [Act.put, List.setIfInBounds_toArray, List.set_cons_zero, List.set_cons_succ]
          refine held_row (i := 15) rfl (by kernel_rfl) (by kernel_rfl) (by kernel_rfl) _ _ rfl _ _ rfl ?qa15C ?qa15D (fun _ _ _ h => h) (by rfl) ?qa15a ?qa15b ?qa15c ?qa15d hHeld ?_
          case qa15a => (intro w hSw; (try dsimp only at hSw); go_split_ands; assumption)
          case qa15b => assumption
          case qa15c => rfl
          case qa15d => first | assumption | (simp only [*]; done)
          try simp only [Act.put, List.setIfInBounds_toArray, List.set_cons_zero, List.set_cons_succ]
          refine held_step (i := 4) rfl (by kernel_rfl) (by rfl) (fun K hK => ?_)
          go_simp
          refine (root_any (some tt) (Ptr g) csr _ ⟨g, rfl, HT.out.1.below HB.out⟩ HT.out.2.1 (HT.out.2.2.1.below HB.out HT.out.2.2.1.lt)).mono ?_
          rintro e wc ⟨rfl, hb⟩
          have HB := Lib.hid (below_then HB.out HB.out.size hb)
          clear hb
          go_wp2_with fail
          have hHeld := HTS.out _ HB.out
          refine hK.out _ _ (HTS.out _ HB.out) ?_
          clear hK K
          try simp only [Act.put, List.setIfInBounds_toArray, List.set_cons_zero, List.set_cons_succ]
          refine held_step (i := 16) rfl (by kernel_rfl) (by rfl) (fun K hK => ?_)
          go_simp
          refine (verify_any tt.sum csr pk pv (madeP tt k) csp _ tt.sum_length HT.out.2.1 (HP.out.1.below HB.out) HP.out.2.1 HP.out.2.2 (HT.out.2.2.1.below HB.out HT.out.2.2.1.lt)).mono ?_
          rintro e wc ⟨v, rfl, hv, hb⟩
          rw [HV.out] at hv
          obtain rfl : v = .nilIface := hv
          have HB := Lib.hid (below_then HB.out HB.out.size hb)
          clear hb
          go_wp2_with fail
          have hHeld := HTS.out _ HB.out
          refine hK.out _ _ (HTS.out _ HB.out) ?_
          clear hK K
          try simp only [Act.put, List.setIfInBounds_toArray, List.set_cons_zero, List.set_cons_succ]
          refine held_take (i := 17) (v := ?qa16v) rfl (by kernel_rfl) (by kernel_rfl) (by kernel_rfl) (fun _ _ _ h => h) (by rfl) ?qa16y hHeld ?_
          case qa16y => ((intro w _hSw; (try dsimp only at _hSw); go_simp); try (with_reducible rfl))
          try simp only [Act.put, List.setIfInBounds_toArray, List.set_cons_zero, List.set_cons_succ]
          refine held_take (i := 18) (v := ?qa17v) rfl (by kernel_rfl) (by kernel_rfl) (by kernel_rfl) (fun _ _ _ h => h) (by rfl) ?qa17y hHeld ?_
          case qa17y => ((intro w _hSw; (try dsimp only at _hSw); go_simp); try (with_reducible rfl))
          try simp only [Act.put, List.setIfInBounds_toArray, List.set_cons_zero, List.set_cons_succ]
          refine held_take (i := 19) (v := ?qa18v) rfl (by kernel_rfl) (by kernel_rfl) (by kernel_rfl) (fun _ _ _ h => h) (by rfl) ?qa18y hHeld ?_
          case qa18y => ((intro w _hSw; (try dsimp only at _hSw); go_simp); try (with_reducible rfl))
          try simp only [Act.put, List.setIfInBounds_toArray, List.set_cons_zero, List.set_cons_succ]
          refine held_take (i := 20) (v := ?qa19v) rfl (by kernel_rfl) (by kernel_rfl) (by kernel_rfl) (fun _ _ _ h => h) (by rfl) ?qa19y hHeld ?_
          case qa19y => ((intro w _hSw; (try dsimp only at _hSw); go_simp); try (with_reducible rfl))
          try simp only [Act.put, List.setIfInBounds_toArray, List.set_cons_zero, List.set_cons_succ]
          refine held_step (i := 21) rfl (by kernel_rfl) (by rfl) (fun K hK => ?_)
          go_simp
          refine (num08_any _ 9 _ (HF9.out.below HB.out) (HT.out.2.2.2.below HB.out HT.out.2.2.2.lt)).mono ?_
          rintro e wc ⟨rfl, hb⟩
          have HB := Lib.hid (below_then HB.out HB.out.size hb)
          clear hb
          go_wp2_with fail
          have hHeld := HTS.out _ HB.out
          refine hK.out _ _ (HTS.out _ HB.out) ?_
          clear hK K
          try simp only [Act.put, List.setIfInBounds_toArray, List.set_cons_zero, List.set_cons_succ]
          refine held_take (i := 22) (v := ?qa20v) rfl (by kernel_rfl) (by kernel_rfl) (by kernel_rfl) (fun _ _ _ h => h) (by rfl) ?qa20y hHeld ?_
          case qa20y => ((intro w _hSw; (try dsimp only at _hSw); go_simp); try (with_reducible rfl))
          try simp only [Act.put, List.setIfInBounds_toArray, List.set_cons_zero, List.set_cons_succ]
          refine held_take (i := 23) (v := ?qa21v) rfl (by kernel_rfl) (by kernel_rfl) (by kernel_rfl) (fun _ _ _ h => h) (by rfl) ?qa21y hHeld ?_
          case qa21y => ((intro w _hSw; (try dsimp only at _hSw); go_simp); try (with_reducible rfl))
          try simp only [Act.put, List.setIfInBounds_toArray, List.set_cons_zero, List.set_cons_succ]
          refine wpAnyH_done (by kernel_rfl) ?_ _
          clear hHeld
          have e1 := (HTS.out _ HB.out).2.1
          go_wp2_with fail
          refine (get_any (some tt) (Ptr g) kz _ ⟨g, rfl, HT.out.1.below HB.out⟩).mono ?_
          rintro e wz ⟨rfl, rfl⟩
          rw [show getO kz (some tt) = none from HGZ.out]
          unfold getVal
          have hz := HTU.out _ HB.out
          clear e1
          go_wp2_with fail
          have HB := Lib.hid (below_then HB.out HB.out.size (refl_drewN _ 1))
          clear hz
          refine wp_region_held_drew (S := (fun w' => w'.cell? ⟨b, o + k * 2, none⟩ = some (S8 pk) ∧ w'.rangeAt x11 0 [.slice (some ⟨gl, 0, none⟩) 1 1, .slice (some ⟨gr, 0, none⟩) 1 1])) (by kernel_rfl) ?qbs0 (fun hHeld => ?_)
          case qbs0 => exact HTU.out _ HB.out
          refine held_take (i := 0) (v := ?qb1v) rfl (by kernel_rfl) (by kernel_rfl) (by kernel_rfl) (fun _ _ _ h => h) (by rfl) ?qb1y hHeld ?_
          case qb1y => ((intro w _hSw; (try dsimp only at _hSw); go_simp); try (with_reducible rfl))
          try simp only [Act.put, List.setIfInBounds_toArray, List.set_cons_zero, List.set_cons_succ]
          refine held_take (i := 1) (v := ?qb2v) rfl (by kernel_rfl) (by kernel_rfl) (by kernel_rfl) (fun _ _ _ h => h) (by rfl) ?qb2y hHeld ?_
          case qb2y => ((intro w _hSw; (try dsimp only at _hSw); go_simp); try (with_reducible rfl))
          try simp only [Act.put, List.setIfInBounds_toArray, List.set_cons_zero, List.set_cons_succ]
          refine held_take (i := 2) (v := ?qb3v) rfl (by kernel_rfl) (by kernel_rfl) (by kernel_rfl) (fun _ _ _ h => h) (by rfl) ?qb3y hHeld ?_
          case qb3y => ((intro w _hSw; (try dsimp only at _hSw); go_simp); try (with_reducible rfl))
          try simp only [Act.put, List.setIfInBounds_toArray, List.set_cons_zero, List.set_cons_succ]
          refine held_take (i := 3) (v := ?qb4v) rfl (by kernel_rfl) (by kernel_rfl) (by kernel_rfl) (fun _ _ _ h => h) (by rfl) ?qb4y hHeld ?_
          case qb4y => ((intro w _hSw; (try dsimp only at _hSw); go_simp); try (with_reducible rfl))
          try simp only [Act.put, List.setIfInBounds_toArray, List.set_cons_zero, List.set_cons_succ]
          refine held_take (i := 4) (v := ?qb5v) rfl (by kernel_rfl) (by kernel_rfl) (by kernel_rfl) (fun _ _ _ h => h) (by rfl) ?qb5y hHeld ?_
          case qb5y => ((intro w _hSw; (try dsimp only at _hSw); go_simp); try (with_reducible rfl))
          try simp only [Act.put, List.setIfInBounds_toArray, List.set_cons_zero, List.set_cons_succ]
          refine held_take (i := 5) (v := ?qb6v) rfl (by kernel_rfl) (by kernel_rfl) (by kernel_rfl) (fun _ _ _ h => h) (by rfl) ?qb6y hHeld ?_
          case qb6y => ((intro w _hSw; (try dsimp only at _hSw); go_simp); try (with_reducible rfl))
          try simp only [Act.put, List.setIfInBounds_toArray, List.set_cons_zero, List.set_cons_succ]
          refine held_take (i := 6) (v := ?qb7v) rfl (by kernel_rfl) (by kernel_rfl) (by kernel_rfl) (fun _ _ _ h => h) (by rfl) ?qb7y hHeld ?_
          case qb7y => ((intro w _hSw; (try dsimp only at _hSw); go_simp); try (with_reducible rfl))
          try simp only [Act.put, List.setIfInBounds_toArray, List.set_cons_zero, List.set_cons_succ]
          refine held_take (i := 8) (v := ?qb8v) rfl (by kernel_rfl) (by kernel_rfl) (by kernel_rfl) (fun _ _ _ h => h) (by rfl) ?qb8y hHeld ?_
          case qb8y => ((intro w _hSw; (try dsimp only at _hSw); go_simp); try (with_reducible rfl))
          try simp only [Act.put, List.setIfInBounds_toArray, List.set_cons_zero, List.set_cons_succ]
          refine held_take (i := 9) (v := ?qb9v) rfl (by kernel_rfl) (by kernel_rfl) (by kernel_rfl) (fun _ _ _ h => h) (by rfl) ?qb9y hHeld ?_
          case qb9y => ((intro w _hSw; (try dsimp only at _hSw); go_simp); try (with_reducible rfl))
          try simp only [Act.put, List.setIfInBounds_toArray, List.set_cons_zero, List.set_cons_succ]
          refine held_take (i := 10) (v := ?qb10v) rfl (by kernel_rfl) (by kernel_rfl) (by kernel_rfl) (fun _ _ _ h => h) (by rfl) ?qb10y hHeld ?_
          case qb10y => ((intro w _hSw; (try dsimp only at _hSw); go_simp); try (with_reducible rfl))
          try simp only [Act.put, List.setIfInBounds_toArray, List.set_cons_zero, List.set_cons_succ]
          refine held_take (i := 11) (v := ?qb11v) rfl (by kernel_rfl) (by kernel_rfl) (by kernel_rfl) (fun _ _ _ h => h) (by rfl) ?qb11y hHeld ?_
          case qb11y => ((intro w _hSw; (try dsimp only at _hSw); go_simp); try (with_reducible rfl))
          try simp only [Act.put, List.setIfInBounds_toArray, List.set_cons_zero, List.set_cons_succ]
          refine held_take (i := 12) (v := ?qb12v) rfl (by kernel_rfl) (by kernel_rfl) (by kernel_rfl) (fun _ _ _ h => h) (by rfl) ?qb12y hHeld ?_
          case qb12y => ((intro w _hSw; (try dsimp only at _hSw); go_simp); try (with_reducible rfl))
          try simp only [Act.put, List.setIfInBounds_toArray, List.set_cons_zero, List.set_cons_succ]
          refine held_take (i := 13) (v := ?qb13v) rfl (by kernel_rfl) (by kernel_rfl) (by kernel_rfl) (fun _ _ _ h => h) (by rfl) ?qb13y hHeld ?_
          case qb13y => ((intro w _hSw; (try dsimp only at _hSw); go_simp); try (with_reducible rfl))
          try simp only [Act.put, List.setIfInBounds_toArray, List.set_cons_zero, List.set_cons_succ]
          refine held_take (i := 14) (v := (.agg #[.slice (some ⟨gl, 0, none⟩) 1 1, .slice (some ⟨gr, 0, none⟩) 1 1])) rfl (by kernel_rfl) (by kernel_rfl) (by kernel_rfl) (fun _ _ _ h => h) (by rfl) ?qb14y hHeld ?_
          case qb14y => (intro w hSw; exact exec_ld (.tmp 11) rfl ⟨x11, 0, none⟩ _ rfl (LDA.out w hSw.2))
          try simp only [Act.put, List.setIfInBounds_toArray, List.set_cons_zero, List.set_cons_succ]
          refine held_step (i := 7) rfl (by kernel_rfl) (by rfl) (fun K hK => ?_)
          go_simp
          refine (root_any (some tt) (Ptr g) csr _ ⟨g, rfl, HT.out.1.below HB.out⟩ HT.out.2.1 (HT.out.2.2.1.below HB.out HT.out.2.2.1.lt)).mono ?_
          rintro e wc ⟨rfl, hb⟩
          have HB := Lib.hid (below_then HB.out HB.out.size hb)
          clear hb
          go_wp2_with fail
          have hHeld := HTU.out _ HB.out
          refine hK.out _ _ (HTU.out _ HB.out) ?_
          clear hK K
          try simp only [Act.put, List.setIfInBounds_toArray, List.set_cons_zero, List.set_cons_succ]
          refine held_step (i := 15) rfl (by kernel_rfl) (by rfl) (fun K hK => ?_)
          go_simp
          refine (vnone_yy tt.sum csr kz _ _ (madeP tt k) (madeP tt (k + 1)) n k (by have := HN.out; omega) _ tt.sum_length HT.out.2.1 (HQ.out.1.below HB.out) (HQ.out.2.1.below HB.out) HQ.out.2.2 HS.out.1 HS2.out.1 HS.out.2.1 HS2.out.2 (HT.out.2.2.1.below HB.out HT.out.2.2.1.lt)).mono ?_
          rintro e wc ⟨rfl, hb⟩
          have HB := Lib.hid (below_then HB.out HB.out.size hb)
          clear hb
          go_wp2_with fail
          have hHeld := HTU.out _ HB.out
          refine hK.out _ _ (HTU.out _ HB.out) ?_
          clear hK K
          try simp only [Act.put, List.setIfInBounds_toArray, List.set_cons_zero, List.set_cons_succ]
          refine held_take (i := 16) (v := ?qb15v) rfl (by kernel_rfl) (by kernel_rfl) (by kernel_rfl) (fun _ _ _ h => h) (by rfl) ?qb15y hHeld ?_
          case qb15y => ((intro w _hSw; (try dsimp only at _hSw); go_simp); try (with_reducible rfl))
          try simp only [Act.put, List.setIfInBounds_toArray, List.set_cons_zero, List.set_cons_succ]
          refine held_take (i := 17) (v := ?qb16v) rfl (by kernel_rfl) (by kernel_rfl) (by kernel_rfl) (fun _ _ _ h => h) (by rfl) ?qb16y hHeld ?_
          case qb16y => ((intro w _hSw; (try dsimp only at _hSw); go_simp); try (with_reducible rfl))
          try simp only [Act.put, List.setIfInBounds_toArray, List.set_cons_zero, List.set_cons_succ]
          refine held_take (i := 18) (v := ?qb17v) rfl (by kernel_rfl) (by kernel_rfl) (by kernel_rfl) (fun _ _ _ h => h) (by rfl) ?qb17y hHeld ?_
          case qb17y => ((intro w _hSw; (try dsimp only at _hSw); go_simp); try (with_reducible rfl))
          try simp only [Act.put, List.setIfInBounds_toArray, List.set_cons_zero, List.set_cons_succ]
          refine held_take (i := 19) (v := ?qb18v) rfl (by kernel_rfl) (by kernel_rfl) (by kernel_rfl) (fun _ _ _ h => h) (by rfl) ?qb18y hHeld ?_
          case qb18y => ((intro w _hSw; (try dsimp only at _hSw); go_simp); try (with_reducible rfl))
          try simp only [Act.put, List.setIfInBounds_toArray, List.set_cons_zero, List.set_cons_succ]
          refine held_take (i := 21) (v := ?qb19v) rfl (by kernel_rfl) (by kernel_rfl) (by kernel_rfl) (fun _ _ _ h => h) (by rfl) ?qb19y hHeld ?_
          case qb19y => ((intro w _hSw; (try dsimp only at _hSw); go_simp); try (with_reducible rfl))
          try simp only [Act.put, List.setIfInBounds_toArray, List.set_cons_zero, List.set_cons_succ]
          refine held_take (i := 22) (v := ?qb20v) rfl (by kernel_rfl) (by kernel_rfl) (by kernel_rfl) (fun _ _ _ h => h) (by rfl) ?qb20y hHeld ?_
          case qb20y => ((intro w _hSw; (try dsimp only at _hSw); go_simp); try (with_reducible rfl))
          try simp only [Act.put, List.setIfInBounds_toArray, List.set_cons_zero, List.set_cons_succ]
          refine held_take (i := 23) (v := ?qb21v) rfl (by kernel_rfl) (by kernel_rfl) (by kernel_rfl) (fun _ _ _ h => h) (by rfl) ?qb21y hHeld ?_
          case qb21y => ((intro w _hSw; (try dsimp only at _hSw); go_simp); try (with_reducible rfl))
          try simp only [Act.put, List.setIfInBounds_toArray, List.set_cons_zero, List.set_cons_succ]
          refine held_take (i := 24) (v := ?qb22v) rfl (by kernel_rfl) (by kernel_rfl) (by kernel_rfl) (fun _ _ _ h => h) (by rfl) ?qb22y hHeld ?_
          case qb22y => ((intro w _hSw; (try dsimp only at _hSw); go_simp); try (with_reducible rfl))
          try simp only [Act.put, List.setIfInBounds_toArray, List.set_cons_zero, List.set_cons_succ]
          refine held_take (i := 25) (v := ?qb23v) rfl (by kernel_rfl) (by kernel_rfl) (by kernel_rfl) (fun _ _ _ h => h) (by rfl) ?qb23y hHeld ?_
          case qb23y => ((intro w _hSw; (try dsimp only at _hSw); go_simp); try (with_reducible rfl))
          try simp only [Act.put, List.setIfInBounds_toArray, List.set_cons_zero, List.set_cons_succ]
          refine held_take (i := 26) (v := (.agg #[.slice (some ⟨gl, 0, none⟩) 1 1, .slice (some ⟨gr, 0, none⟩) 1 1])) rfl (by kernel_rfl) (by kernel_rfl) (by kernel_rfl) (fun _ _ _ h => h) (by rfl) ?qb24y hHeld ?_
          case qb24y => (intro w hSw; exact exec_ld (.tmp 11) rfl ⟨x11, 0, none⟩ _ rfl (LDA.out w hSw.2))
          try simp only [Act.put, List.setIfInBounds_toArray, List.set_cons_zero, List.set_cons_succ]
          refine held_step (i := 20) rfl (by kernel_rfl) (by rfl) (fun K hK => ?_)
          go_simp
          refine (root_any (some tt) (Ptr g) csr _ ⟨g, rfl, HT.out.1.below HB.out⟩ HT.out.2.1 (HT.out.2.2.1.below HB.out HT.out.2.2.1.lt)).mono ?_
          rintro e wc ⟨rfl, hb⟩
          have HB := Lib.hid (below_then HB.out HB.out.size hb)
          clear hb
          go_wp2_with fail
          have hHeld := HTU.out _ HB.out
          refine hK.out _ _ (HTU.out _ HB.out) ?_
          clear hK K
          try simp only [Act.put, List.setIfInBounds_toArray, List.set_cons_zero, List.set_cons_succ]
          refine held_step (i := 27) rfl (by kernel_rfl) (by rfl) (fun K hK => ?_)
          go_simp
          refine (vbad_yy tt.sum csr pk _ _ (madeP tt k) (madeP tt (k + 1)) n k _ tt.sum_length HT.out.2.1 (HQ.out.1.below HB.out) (HQ.out.2.1.below HB.out) HQ.out.2.2 HS.out.1 HS2.out.1 HS.out.2.2 (HT.out.2.2.1.below HB.out HT.out.2.2.1.lt)).mono ?_
          rintro e wc ⟨vb, rfl, hf, hb⟩
          obtain ⟨bb, rfl⟩ := hf.shape
          have HB := Lib.hid (below_then HB.out HB.out.size hb)
          clear hb hf
          go_wp2_with fail
          have hHeld := HTU.out _ HB.out
          refine hK.out _ _ (HTU.out _ HB.out) ?_
          clear hK K
          try simp only [Act.put, List.setIfInBounds_toArray, List.set_cons_zero, List.set_cons_succ]
          refine held_take (i := 28) (v := ?qb25v) rfl (by kernel_rfl) (by kernel_rfl) (by kernel_rfl) (fun _ _ _ h => h) (by rfl) ?qb25y hHeld ?_
          case qb25y => ((intro w _hSw; (try dsimp only at _hSw); go_simp); try (with_reducible rfl))
          try simp only [Act.put, List.setIfInBounds_toArray, List.set_cons_zero, List.set_cons_succ]
          refine held_take (i := 29) (v := ?qb26v) rfl (by kernel_rfl) (by kernel_rfl) (by kernel_rfl) (fun _ _ _ h => h) (by rfl) ?qb26y hHeld ?_
          case qb26y => ((intro w _hSw; (try dsimp only at _hSw); go_simp); try (with_reducible rfl))
          try simp only [Act.put, List.setIfInBounds_toArray, List.set_cons_zero, List.set_cons_succ]
          refine held_take (i := 30) (v := ?qb27v) rfl (by kernel_rfl) (by kernel_rfl) (by kernel_rfl) (fun _ _ _ h => h) (by rfl) ?qb27y hHeld ?_
          case qb27y => ((intro w _hSw; (try dsimp only at _hSw); go_simp); try (with_reducible rfl))
          try simp only [Act.put, List.setIfInBounds_toArray, List.set_cons_zero, List.set_cons_succ]
          refine wpAnyH_done (by kernel_rfl) ?_ _
          clear hHeld
          go_wp2
          refine ⟨⟨k + 1, by simp, by omega, below_then HBW.out HBW.out.size (below_then HBR.out HBR.out.size HB.out)⟩, ?_⟩
          show nl - Int.toNat ((k : Int) + 1) < nl - Int.toNat (k : Int)
          omega
        · have HNN := Lib.hid (And.intro hnn (show k + 1 = n by have := HN.out; omega))
          clear hnn
          go_wp2_with fail
          refine (none_yn tt g kz (k + 1) _ HX.out HGZ.out HFZ.out (by have := HPF.out.2.2.2.2.1; omega) (by have := HNN.out; omega)).mono ?_
          rintro e w8 ⟨vl, vr, rfl, hsl, hsr, hb⟩
          rw [show leftP tt (k + 1) = [madeP tt k] from rfl] at hsl
          rw [show rightP tt (k + 1) = [] from if_neg (by have := HNN.out; omega)] at hsr
          have HLL := Lib.hid hsl.list
          have HRR := Lib.hid hsr.list
          rcases hsl with ⟨h, _⟩ | ⟨_, gl, _, _, rfl, _⟩
          · cases h
          obtain rfl : vr = .slice none 0 0 := by
            rcases hsr with ⟨_, h⟩ | ⟨_, _, _, h, _⟩
            · exact h
            · cases h
          clear hsr
          have HF9 := Lib.hid (HF9.out.below hb)
          have HPP := Lib.hid (HPP.out.below hb)
          have HX := Lib.hid (HX.out.below hb)
          have HX7 := Lib.hid (HX7.out.below hb)
          have HBR := Lib.hid (below_then HBR.out HBR.out.size hb)
          clear hb e1
          go_upto_region 9 with fail
          obtain ⟨w9, hw9⟩ : ∃ w9, w9 = w8.alloc (.cells #[.slice (some ⟨gl, 0, none⟩) 1 1, .slice none 0 0] 41) := ⟨_, rfl⟩
          obtain ⟨x11, hx11⟩ : ∃ n, n = w8.heap.size := ⟨_, rfl⟩
          have b9 : Below w8.heap.size w8 w9 := by rw [hw9]; exact (Below.refl _ _).alloc (Nat.le_refl _) _
          have z9 : Blk w9 x11 41 [.slice (some ⟨gl, 0, none⟩) 1 1, .slice none 0 0] := by rw [hw9, hx11]; exact Blk_new w8 [.slice (some ⟨gl, 0, none⟩) 1 1, .slice none 0 0] 41
          rw [← hw9, ← hx11]
          have HX11 := Lib.hid z9
          have HF9 := Lib.hid (HF9.out.below b9)
          have HPP := Lib.hid (HPP.out.below b9)
          have HBR := Lib.hid (below_then HBR.out HBR.out.size b9)
          have hX7 := HX7.out.below b9
          have hpl := HPP.out.len
          obtain ⟨csr, hcsr⟩ : ∃ cs, cs = tt.sum.map B := ⟨_, rfl⟩
          have HC9 := Lib.hid (And.intro (cell_below HC1.out.1 HBR.out) (cell_below HC1.out.2 HBR.out))
          have HTS : Hid (∀ w', Below w9.heap.size w9 w' → w'.rangeAt x7 0 csp ∧ w'.cell? ⟨b, o + k * 2, none⟩ = some (S8 pk) ∧ w'.cell? ⟨b, o + k * 2 + 1, none⟩ = some (S8 pv)) := Lib.hid fun w' h => ⟨blk_range (hX7.below h), cell_below HC9.out.1 h, cell_below HC9.out.2 h⟩
          have ip : (Tryd.prog.info? 32).map (·.size) = some csp.length := by rw [hpl]; kernel_rfl
          have up := Tryd.underlying32
          have hsm0 := showF_made tt k HPF.out.2.2.1 (by have := path_len_le tt k; have := HPF.out.2.2.2.2.1; omega) (by have := HPF.out.2.2.2.2.1; omega)
          have hk0 : (madeP tt k).key = pk ∧ (madeP tt k).val = pv := by unfold madeP; rw [HPF.out.2.2.2.1]; exact ⟨rfl, rfl⟩
          have HV := Lib.hid (show verF tt.sum pk pv (madeP tt k) = true by simp only [verF, hsm0, hk0]; simp)
          have HP := Lib.hid (And.intro (HPP.out.mono (Nat.zero_le _)) (And.intro (show (madeP tt k).key.length ≤ 2000000 ∧ (madeP tt k).val.length ≤ 2000000 by rw [hk0.1, hk0.2]; exact HSM.out) (madeP_steps tt k)))
          have HT := Lib.hid (And.intro (HX.out.below b9) (And.intro (show csr = (rootO (some tt)).map B from hcsr) (And.intro (HTA.out.1.below HBR.out HTA.out.1.lt) (HTA.out.2.below HBR.out HTA.out.2.lt))))
          have HB : Hid (Below w9.heap.size w9 (w9.drewN 1)) := Lib.hid (refl_drewN w9 1)
          have hsk : tt.many = n := HNN.out.1
          rw [hsk] at hsm0
          have HS := Lib.hid (And.intro hsm0 (And.intro (show Op.bytesLess (madeP tt k).key kz = true by rw [hk0.1, HKZ.out, less_snoc]; simp) (show Op.bytesLess (madeP tt k).key pk = false by rw [hk0.1]; exact less_irrefl pk)))
          have LDA : Hid (∀ w : World, w.rangeAt x11 0 [.slice (some ⟨gl, 0, none⟩) 1 1, .slice none 0 0] → (loadVar 41 ⟨x11, 0, none⟩).run Tryd.prog w = .ok (.agg #[.slice (some ⟨gl, 0, none⟩) 1 1, .slice none 0 0]) w) := Lib.hid fun w h => run_load_agg (P := Tryd.prog) Tryd.underlying41 rfl (by kernel_rfl) w ⟨x11, 0, none⟩ [.slice (some ⟨gl, 0, none⟩) 1 1, .slice none 0 0] rfl (fun j u hj => by rw [add_plain]; exact h j u hj)
          have HTU : Hid (∀ w', Below w9.heap.size w9 w' → w'.cell? ⟨b, o + k * 2, none⟩ = some (S8 pk) ∧ w'.rangeAt x11 0 [.slice (some ⟨gl, 0, none⟩) 1 1, .slice none 0 0]) := Lib.hid fun w' h => ⟨cell_below HC9.out.1 h, blk_range (HX11.out.below h)⟩
          clear hsk
          have HS2 := Lib.hid (show n = k + 1 by have := HNN.out; omega)
          have HQ := Lib.hid (And.intro (HLL.out.below b9) (And.intro (HRR.out.below b9) (show GoodPs ([madeP tt k] ++ []) from fun p hp => by
            simp only [List.append_nil, List.mem_cons, List.not_mem_nil, or_false] at hp
            subst hp
            exact HP.out.2)))
          clear hw9 hx11 b9 z9 hX7 hpl hcsr hsm0 hk0
          refine wp_region_held_drew (S := (fun w' => w'.rangeAt x7 0 csp ∧ w'.cell? ⟨b, o + k * 2, none⟩ = some (S8 pk) ∧ w'.cell? ⟨b, o + k * 2 + 1, none⟩ = some (S8 pv))) (by kernel_rfl) ?ras0 (fun hHeld => ?_)
          case ras0 => exact HTS.out _ HB.out
          refine held_take (i := 0) (v := ?ra1v) rfl (by kernel_rfl) (by kernel_rfl) (by kernel_rfl) (fun _ _ _ h => h) (by rfl) ?ra1y hHeld ?_
          case ra1y => ((intro w _hSw; (try dsimp only at _hSw); go_simp); try (with_reducible rfl))
          try simp only [Act.put, List.setIfInBounds_toArray, List.set_cons_zero, List.set_cons_succ]
          refine held_take (i := 1) (v := ?ra2v) rfl (by kernel_rfl) (by kernel_rfl) (by kernel_rfl) (fun _ _ _ h => h) (by rfl) ?ra2y hHeld ?_
          case ra2y => ((intro w _hSw; (try dsimp only at _hSw); go_simp); try (with_reducible rfl))
          try simp only [Act.put, List.setIfInBounds_toArray, List.set_cons_zero, List.set_cons_succ]
          refine held_take (i := 2) (v := ?ra3v) rfl (by kernel_rfl) (by kernel_rfl) (by kernel_rfl) (fun _ _ _ h => h) (by rfl) ?ra3y hHeld ?_
          case ra3y => ((intro w _hSw; (try dsimp only at _hSw); go_simp); try (with_reducible rfl))
          try simp only [Act.put, List.setIfInBounds_toArray, List.set_cons_zero, List.set_cons_succ]
          refine held_take (i := 3) (v := ?ra4v) rfl (by kernel_rfl) (by kernel_rfl) (by kernel_rfl) (fun _ _ _ h => h) (by rfl) ?ra4y hHeld ?_
          case ra4y => ((intro w _hSw; (try dsimp only at _hSw); go_simp); try (with_reducible rfl))
          try simp only [Act.put, List.setIfInBounds_toArray, List.set_cons_zero, List.set_cons_succ]
          refine held_take (i := 5) (v := ?ra5v) rfl (by kernel_rfl) (by kernel_rfl) (by kernel_rfl) (fun _ _ _ h => h) (by rfl) ?ra5y hHeld ?_
          case ra5y => ((intro w _hSw; (try dsimp only at _hSw); go_simp); try (with_reducible rfl))
          try simp only [Act.put, List.setIfInBounds_toArray, List.set_cons_zero, List.set_cons_succ]
          refine held_take (i := 6) (v := ?ra6v) rfl (by kernel_rfl) (by kernel_rfl) (by kernel_rfl) (fun _ _ _ h => h) (by rfl) ?ra6y hHeld ?_
          case ra6y => ((intro w _hSw; (try dsimp only at _hSw); go_simp); try (with_reducible rfl))
          try simp only [Act.put, List.setIfInBounds_toArray, List.set_cons_zero, List.set_cons_succ]
          refine held_take (i := 7) (v := ?ra7v) rfl (by kernel_rfl) (by kernel_rfl) (by kernel_rfl) (fun _ _ _ h => h) (by rfl) ?ra7y hHeld ?_
          case ra7y => ((intro w _hSw; (try dsimp only at _hSw); go_simp); try (with_reducible rfl))
          try simp only [Act.put, List.setIfInBounds_toArray, List.set_cons_zero, List.set_cons_succ]
          refine held_take (i := 8) (v := ?ra8v) rfl (by kernel_rfl) (by kernel_rfl) (by kernel_rfl) (fun _ _ _ h => h) (by rfl) ?ra8y hHeld ?_
          case ra8y => ((intro w _hSw; (try dsimp only at _hSw); go_simp); try (with_reducible rfl))
          try simp only [Act.put, List.setIfInBounds_toArray, List.set_cons_zero, List.set_cons_succ]
          refine held_take (i := 9) (v := ?ra9v) rfl (by kernel_rfl) (by kernel_rfl) (by kernel_rfl) (fun _ _ _ h => h) (by rfl) ?ra9y hHeld ?_
          case ra9y => ((intro w _hSw; (try dsimp only at _hSw); go_simp); try (with_reducible rfl))
          try simp only [Act.put, List.setIfInBounds_toArray, List.set_cons_zero, List.set_cons_succ]
          refine held_take (i := 10) (v := ?ra10v) rfl (by kernel_rfl) (by kernel_rfl) (by kernel_rfl) (fun _ _ _ h => h) (by rfl) ?ra10y hHeld ?_
          case ra10y => ((intro w _hSw; (try dsimp only at _hSw); go_simp); try (with_reducible rfl))
          try simp only [Act.put, List.setIfInBounds_toArray, List.set_cons_zero, List.set_cons_succ]
          refine held_take (i := 11) (v := ?ra11v) rfl (by kernel_rfl) (by kernel_rfl) (by kernel_rfl) (fun _ _ _ h => h) (by rfl) ?ra11y hHeld ?_
          case ra11y => ((intro w _hSw; (try dsimp only at _hSw); go_simp); try (with_reducible rfl))
          try simp only [Act.put, List.setIfInBounds_toArray, List.set_cons_zero, List.set_cons_succ]
          refine held_take (i := 12) (v := ?ra12v) rfl (by kernel_rfl) (by kernel_rfl) (by kernel_rfl) (fun _ _ _ h => h) (by rfl) ?ra12y hHeld ?_
          case ra12y => ((intro w _hSw; (try dsimp only at _hSw); go_simp); try (with_reducible rfl))
          try simp only [Act.put, List.setIfInBounds_toArray, List.set_cons_zero, List.set_cons_succ]
          refine held_take (i := 13) (v := ?ra13v) rfl (by kernel_rfl) (by kernel_rfl) (by kernel_rfl) (fun _ _ _ h => h) (by rfl) ?ra13y hHeld ?_
          case ra13y => ((intro w _hSw; (try dsimp only at _hSw); go_simp); try (with_reducible rfl))
          try simp only [Act.put, List.setIfInBounds_toArray, List.set_cons_zero, List.set_cons_succ]
          refine held_take (i := 14) (v := ?ra14v) rfl (by kernel_rfl) (by kernel_rfl) (by kernel_rfl) (fun _ _ _ h => h) (by rfl) ?ra14y hHeld ?_
          case ra14y => ((intro w _hSw; (try dsimp only at _hSw); go_simp); try (with_reducible rfl))
          try simp only [Act.put, List.setIfInBounds_toArray, List.set_cons_zero, List.set_cons_succ]
          refine held_row (i := 15) rfl (by kernel_rfl) (by kernel_rfl) (by kernel_rfl) _ _ rfl _ _ rfl ?ra15C ?ra15D (fun _ _ _ h => h) (by rfl) ?ra15a ?ra15b ?ra15c ?ra15d hHeld ?_
          case ra15a => (intro w hSw; (try dsimp only at hSw); go_split_ands; assumption)
          case ra15b => assumption
          case ra15c => rfl
          case ra15d => first | assumption | (simp only [*]; done)
          try simp only [Act.put, List.setIfInBounds_toArray, List.set_cons_zero, List.set_cons_succ]
          refine held_step (i := 4) rfl (by kernel_rfl) (by rfl) (fun K hK => ?_)
          go_simp
          refine (root_any (some tt) (Ptr g) csr _ ⟨g, rfl, HT.out.1.below HB.out⟩ HT.out.2.1 (HT.out.2.2.1.below HB.out HT.out.2.2.1.lt)).mono ?_
          rintro e wc ⟨rfl, hb⟩
          have HB := Lib.hid (below_then HB.out HB.out.size hb)
          clear hb
          go_wp2_with fail
          have hHeld := HTS.out _ HB.out
          refine hK.out _ _ (HTS.out _ HB.out) ?_
          clear hK K
          try simp only [Act.put, List.setIfInBounds_toArray, List.set_cons_zero, List.set_cons_succ]
          refine held_step (i := 16) rfl (by kernel_rfl) (by rfl) (fun K hK => ?_)
          go_simp
          refine (verify_any tt.sum csr pk pv (madeP tt k) csp _ tt.sum_length HT.out.2.1 (HP.out.1.below HB.out) HP.out.2.1 HP.out.2.2 (HT.out.2.2.1.below HB.out HT.out.2.2.1.lt)).mono ?_
          rintro e wc ⟨v, rfl, hv, hb⟩
          rw [HV.out] at hv
          obtain rfl : v = .nilIface := hv
          have HB := Lib.hid (below_then HB.out HB.out.size hb)
          clear hb
          go_wp2_with fail
          have hHeld := HTS.out _ HB.out
          refine hK.out _ _ (HTS.out _ HB.out) ?_
          clear hK K
          try simp only [Act.put, List.setIfInBounds_toArray, List.set_cons_zero, List.set_cons_succ]
          refine held_take (i := 17) (v := ?ra16v) rfl (by kernel_rfl) (by kernel_rfl) (by kernel_rfl) (fun _ _ _ h => h) (by rfl) ?ra16y hHeld ?_
          case ra16y => ((intro w _hSw; (try dsimp only at _hSw); go_simp); try (with_reducible rfl))
          try simp only [Act.put, List.setIfInBounds_toArray, List.set_cons_zero, List.set_cons_succ]
          refine held_take (i := 18) (v := ?ra17v) rfl (by kernel_rfl) (by kernel_rfl) (by kernel_rfl) (fun _ _ _ h => h) (by rfl) ?ra17y hHeld ?_
          case ra17y => ((intro w _hSw; (try dsimp only at _hSw); go_simp); try (with_reducible rfl))
          try simp only [Act.put, List.setIfInBounds_toArray, List.set_cons_zero, List.set_cons_succ]
          refine held_take (i := 19) (v := ?ra18v) rfl (by kernel_rfl) (by kernel_rfl) (by kernel_rfl) (fun _ _ _ h => h) (by rfl) ?ra18y hHeld ?_
          case ra18y => ((intro w _hSw; (try dsimp only at _hSw); go_simp); try (with_reducible rfl))
          try simp only [Act.put, List.setIfInBounds_toArray, List.set_cons_zero, List.set_cons_succ]
          refine held_take (i := 20) (v := ?ra19v) rfl (by kernel_rfl) (by kernel_rfl) (by kernel_rfl) (fun _ _ _ h => h) (by rfl) ?ra19y hHeld ?_
          case ra19y => ((intro w _hSw; (try dsimp only at _hSw); go_simp); try (with_reducible rfl))
          try simp only [Act.put, List.setIfInBounds_toArray, List.set_cons_zero, List.set_cons_succ]
          refine held_step (i := 21) rfl (by kernel_rfl) (by rfl) (fun K hK => ?_)
          go_simp
          refine (num08_any _ 9 _ (HF9.out.below HB.out) (HT.out.2.2.2.below HB.out HT.out.2.2.2.lt)).mono ?_
          rintro e wc ⟨rfl, hb⟩
          have HB := Lib.hid (below_then HB.out HB.out.size hb)
          clear hb
          go_wp2_with fail
          have hHeld := HTS.out _ HB.out
          refine hK.out _ _ (HTS.out _ HB.out) ?_
          clear hK K
          try simp only [Act.put, List.setIfInBounds_toArray, List.set_cons_zero, List.set_cons_succ]
          refine held_take (i := 22) (v := ?ra20v) rfl (by kernel_rfl) (by kernel_rfl) (by kernel_rfl) (fun _ _ _ h => h) (by rfl) ?ra20y hHeld ?_
          case ra20y => ((intro w _hSw; (try dsimp only at _hSw); go_simp); try (with_reducible rfl))
          try simp only [Act.put, List.setIfInBounds_toArray, List.set_cons_zero, List.set_cons_succ]
          refine held_take (i := 23) (v := ?ra21v) rfl (by kernel_rfl) (by kernel_rfl) (by kernel_rfl) (fun _ _ _ h => h) (by rfl) ?ra21y hHeld ?_
          case ra21y => ((intro w _hSw; (try dsimp only at _hSw); go_simp); try (with_reducible rfl))
          try simp only [Act.put, List.setIfInBounds_toArray, List.set_cons_zero, List.set_cons_succ]
          refine wpAnyH_done (by kernel_rfl) ?_ _
          clear hHeld
          have e1 := (HTS.out _ HB.out).2.1
          go_wp2_with fail
          refine (get_any (some tt) (Ptr g) kz _ ⟨g, rfl, HT.out.1.below HB.out⟩).mono ?_
          rintro e wz ⟨rfl, rfl⟩
          rw [show getO kz (some tt) = none from HGZ.out]
          unfold getVal
          have hz := HTU.out _ HB.out
          clear e1
          go_wp2_with fail
          have HB := Lib.hid (below_then HB.out HB.out.size (refl_drewN _ 1))
          clear hz
          refine wp_region_held_drew (S := (fun w' => w'.cell? ⟨b, o + k * 2, none⟩ = some (S8 pk) ∧ w'.rangeAt x11 0 [.slice (some ⟨gl, 0, none⟩) 1 1, .slice none 0 0])) (by kernel_rfl) ?rbs0 (fun hHeld => ?_)
          case rbs0 => exact HTU.out _ HB.out
          refine held_take (i := 0) (v := ?rb1v) rfl (by kernel_rfl) (by kernel_rfl) (by kernel_rfl) (fun _ _ _ h => h) (by rfl) ?rb1y hHeld ?_
          case rb1y => ((intro w _hSw; (try dsimp only at _hSw); go_simp); try (with_reducible rfl))
          try simp only [Act.put, List.setIfInBounds_toArray, List.set_cons_zero, List.set_cons_succ]
          refine held_take (i := 1) (v := ?rb2v) rfl (by kernel_rfl) (by kernel_rfl) (by kernel_rfl) (fun _ _ _ h => h) (by rfl) ?rb2y hHeld ?_
          case rb2y => ((intro w _hSw; (try dsimp only at _hSw); go_simp); try (with_reducible rfl))
          try simp only [Act.put, List.setIfInBounds_toArray, List.set_cons_zero, List.set_cons_succ]
          refine held_take (i := 2) (v := ?rb3v) rfl (by kernel_rfl) (by kernel_rfl) (by kernel_rfl) (fun _ _ _ h => h) (by rfl) ?rb3y hHeld ?_
          case rb3y => ((intro w _hSw; (try dsimp only at _hSw); go_simp); try (with_reducible rfl))
          try simp only [Act.put, List.setIfInBounds_toArray, List.set_cons_zero, List.set_cons_succ]
          refine held_take (i := 3) (v := ?rb4v) rfl (by kernel_rfl) (by kernel_rfl) (by kernel_rfl) (fun _ _ _ h => h) (by rfl) ?rb4y hHeld ?_
          case rb4y => ((intro w _hSw; (try dsimp only at _hSw); go_simp); try (with_reducible rfl))
          try simp only [Act.put, List.setIfInBounds_toArray, List.set_cons_zero, List.set_cons_succ]
          refine held_take (i := 4) (v := ?rb5v) rfl (by kernel_rfl) (by kernel_rfl) (by kernel_rfl) (fun _ _ _ h => h) (by rfl) ?rb5y hHeld ?_
          case rb5y => ((intro w _hSw; (try dsimp only at _hSw); go_simp); try (with_reducible rfl))
          try simp only [Act.put, List.setIfInBounds_toArray, List.set_cons_zero, List.set_cons_succ]
          refine held_take (i := 5) (v := ?rb6v) rfl (by kernel_rfl) (by kernel_rfl) (by kernel_rfl) (fun _ _ _ h => h) (by rfl) ?rb6y hHeld ?_
          case rb6y => ((intro w _hSw; (try dsimp only at _hSw); go_simp); try (with_reducible rfl))
          try simp only [Act.put, List.setIfInBounds_toArray, List.set_cons_zero, List.set_cons_succ]
          refine held_take (i := 6) (v := ?rb7v) rfl (by kernel_rfl) (by kernel_rfl) (by kernel_rfl) (fun _ _ _ h => h) (by rfl) ?rb7y hHeld ?_
          case rb7y => ((intro w _hSw; (try dsimp only at _hSw); go_simp); try (with_reducible rfl))
          try simp only [Act.put, List.setIfInBounds_toArray, List.set_cons_zero, List.set_cons_succ]
          refine held_take (i := 8) (v := ?rb8v) rfl (by kernel_rfl) (by kernel_rfl) (by kernel_rfl) (fun _ _ _ h => h) (by rfl) ?rb8y hHeld ?_
          case rb8y => ((intro w _hSw; (try dsimp only at _hSw); go_simp); try (with_reducible rfl))
          try simp only [Act.put, List.setIfInBounds_toArray, List.set_cons_zero, List.set_cons_succ]
          refine held_take (i := 9) (v := ?rb9v) rfl (by kernel_rfl) (by kernel_rfl) (by kernel_rfl) (fun _ _ _ h => h) (by rfl) ?rb9y hHeld ?_
          case rb9y => ((intro w _hSw; (try dsimp only at _hSw); go_simp); try (with_reducible rfl))
          try simp only [Act.put, List.setIfInBounds_toArray, List.set_cons_zero, List.set_cons_succ]
          refine held_take (i := 10) (v := ?rb10v) rfl (by kernel_rfl) (by kernel_rfl) (by kernel_rfl) (fun _ _ _ h => h) (by rfl) ?rb10y hHeld ?_
          case rb10y => ((intro w _hSw; (try dsimp only at _hSw); go_simp); try (with_reducible rfl))
          try simp only [Act.put, List.setIfInBounds_toArray, List.set_cons_zero, List.set_cons_succ]
          refine held_take (i := 11) (v := ?rb11v) rfl (by kernel_rfl) (by kernel_rfl) (by kernel_rfl) (fun _ _ _ h => h) (by rfl) ?rb11y hHeld ?_
          case rb11y => ((intro w _hSw; (try dsimp only at _hSw); go_simp); try (with_reducible rfl))
          try simp only [Act.put, List.setIfInBounds_toArray, List.set_cons_zero, List.set_cons_succ]
          refine held_take (i := 12) (v := ?rb12v) rfl (by kernel_rfl) (by kernel_rfl) (by kernel_rfl) (fun _ _ _ h => h) (by rfl) ?rb12y hHeld ?_
          case rb12y => ((intro w _hSw; (try dsimp only at _hSw); go_simp); try (with_reducible rfl))
          try simp only [Act.put, List.setIfInBounds_toArray, List.set_cons_zero, List.set_cons_succ]
          refine held_take (i := 13) (v := ?rb13v) rfl (by kernel_rfl) (by kernel_rfl) (by kernel_rfl) (fun _ _ _ h => h) (by rfl) ?rb13y hHeld ?_
          case rb13y => ((intro w _hSw; (try dsimp only at _hSw); go_simp); try (with_reducible rfl))
          try simp only [Act.put, List.setIfInBounds_toArray, List.set_cons_zero, List.set_cons_succ]
          refine held_take (i := 14) (v := (.agg #[.slice (some ⟨gl, 0, none⟩) 1 1, .slice none 0 0])) rfl (by kernel_rfl) (by kernel_rfl) (by kernel_rfl) (fun _ _ _ h => h) (by rfl) ?rb14y hHeld ?_
          case rb14y => (intro w hSw; exact exec_ld (.tmp 11) rfl ⟨x11, 0, none⟩ _ rfl (LDA.out w hSw.2))
          try simp only [Act.put, List.setIfInBounds_toArray, List.set_cons_zero, List.set_cons_succ]
          refine held_step (i := 7) rfl (by kernel_rfl) (by rfl) (fun K hK => ?_)
          go_simp
          refine (root_any (some tt) (Ptr g) csr _ ⟨g, rfl, HT.out.1.below HB.out⟩ HT.out.2.1 (HT.out.2.2.1.below HB.out HT.out.2.2.1.lt)).mono ?_
          rintro e wc ⟨rfl, hb⟩
          have HB := Lib.hid (below_then HB.out HB.out.size hb)
          clear hb
          go_wp2_with fail
          have hHeld := HTU.out _ HB.out
          refine hK.out _ _ (HTU.out _ HB.out) ?_
          clear hK K
          try simp only [Act.put, List.setIfInBounds_toArray, List.set_cons_zero, List.set_cons_succ]
          refine held_step (i := 15) rfl (by kernel_rfl) (by rfl) (fun K hK => ?_)
          go_simp
          refine (vnone_yn tt.sum csr kz _ _ (madeP tt k) n k (by have := HN.out; omega) _ tt.sum_length HT.out.2.1 (HQ.out.1.below HB.out) (HQ.out.2.1.below HB.out) HQ.out.2.2 HS.out.1 HS2.out HS.out.2.1 (HT.out.2.2.1.below HB.out HT.out.2.2.1.lt)).mono ?_
          rintro e wc ⟨rfl, hb⟩
          have HB := Lib.hid (below_then HB.out HB.out.size hb)
          clear hb
          go_wp2_with fail
          have hHeld := HTU.out _ HB.out
          refine hK.out _ _ (HTU.out _ HB.out) ?_
          clear hK K
          try simp only [Act.put, List.setIfInBounds_toArray, List.set_cons_zero, List.set_cons_succ]
          refine held_take (i := 16) (v := ?rb15v) rfl (by kernel_rfl) (by kernel_rfl) (by kernel_rfl) (fun _ _ _ h => h) (by rfl) ?rb15y hHeld ?_
          case rb15y => ((intro w _hSw; (try dsimp only at _hSw); go_simp); try (with_reducible rfl))
          try simp only [Act.put, List.setIfInBounds_toArray, List.set_cons_zero, List.set_cons_succ]
          refine held_take (i := 17) (v := ?rb16v) rfl (by kernel_rfl) (by kernel_rfl) (by kernel_rfl) (fun _ _ _ h => h) (by rfl) ?rb16y hHeld ?_
          case rb16y => ((intro w _hSw; (try dsimp only at _hSw); go_simp); try (with_reducible rfl))
          try simp only [Act.put, List.setIfInBounds_toArray, List.set_cons_zero, List.set_cons_succ]
          refine held_take (i := 18) (v := ?rb17v) rfl (by kernel_rfl) (by kernel_rfl) (by kernel_rfl) (fun _ _ _ h => h) (by rfl) ?rb17y hHeld ?_
          case rb17y => ((intro w _hSw; (try dsimp only at _hSw); go_simp); try (with_reducible rfl))
          try simp only [Act.put, List.setIfInBounds_toArray, List.set_cons_zero, List.set_cons_succ]
          refine held_take (i := 19) (v := ?rb18v) rfl (by kernel_rfl) (by kernel_rfl) (by kernel_rfl) (fun _ _ _ h => h) (by rfl) ?rb18y hHeld ?_
          case rb18y => ((intro w _hSw; (try dsimp only at _hSw); go_simp); try (with_reducible rfl))
          try simp only [Act.put, List.setIfInBounds_toArray, List.set_cons_zero, List.set_cons_succ]
          refine held_take (i := 21) (v := ?rb19v) rfl (by kernel_rfl) (by kernel_rfl) (by kernel_rfl) (fun _ _ _ h => h) (by rfl) ?rb19y hHeld ?_
          case rb19y => ((intro w _hSw; (try dsimp only at _hSw); go_simp); try (with_reducible rfl))
          try simp only [Act.put, List.setIfInBounds_toArray, List.set_cons_zero, List.set_cons_succ]
          refine held_take (i := 22) (v := ?rb20v) rfl (by kernel_rfl) (by kernel_rfl) (by kernel_rfl) (fun _ _ _ h => h) (by rfl) ?rb20y hHeld ?_
          case rb20y => ((intro w _hSw; (try dsimp only at _hSw); go_simp); try (with_reducible rfl))
          try simp only [Act.put, List.setIfInBounds_toArray, List.set_cons_zero, List.set_cons_succ]
          refine held_take (i := 23) (v := ?rb21v) rfl (by kernel_rfl) (by kernel_rfl) (by kernel_rfl) (fun _ _ _ h => h) (by rfl) ?rb21y hHeld ?_
          case rb21y => ((intro w _hSw; (try dsimp only at _hSw); go_simp); try (with_reducible rfl))
          try simp only [Act.put, List.setIfInBounds_toArray, List.set_cons_zero, List.set_cons_succ]
          refine held_take (i := 24) (v := ?rb22v) rfl (by kernel_rfl) (by kernel_rfl) (by kernel_rfl) (fun _ _ _ h => h) (by rfl) ?rb22y hHeld ?_
          case rb22y => ((intro w _hSw; (try dsimp only at _hSw); go_simp); try (with_reducible rfl))
          try simp only [Act.put, List.setIfInBounds_toArray, List.set_cons_zero, List.set_cons_succ]
          refine held_take (i := 25) (v := ?rb23v) rfl (by kernel_rfl) (by kernel_rfl) (by kernel_rfl) (fun _ _ _ h => h) (by rfl) ?rb23y hHeld ?_
          case rb23y => ((intro w _hSw; (try dsimp only at _hSw); go_simp); try (with_reducible rfl))
          try simp only [Act.put, List.setIfInBounds_toArray, List.set_cons_zero, List.set_cons_succ]
          refine held_take (i := 26) (v := (.agg #[.slice (some ⟨gl, 0, none⟩) 1 1, .slice none 0 0])) rfl (by kernel_rfl) (by kernel_rfl) (by kernel_rfl) (fun _ _ _ h => h) (by rfl) ?rb24y hHeld ?_
          case rb24y => (intro w hSw; exact exec_ld (.tmp 11) rfl ⟨x11, 0, none⟩ _ rfl (LDA.out w hSw.2))
          try simp only [Act.put, List.setIfInBounds_toArray, List.set_cons_zero, List.set_cons_succ]
          refine held_step (i := 20) rfl (by kernel_rfl) (by rfl) (fun K hK => ?_)
          go_simp
          refine (root_any (some tt) (Ptr g) csr _ ⟨g, rfl, HT.out.1.below HB.out⟩ HT.out.2.1 (HT.out.2.2.1.below HB.out HT.out.2.2.1.lt)).mono ?_
          rintro e wc ⟨rfl, hb⟩
          have HB := Lib.hid (below_then HB.out HB.out.size hb)
          clear hb
          go_wp2_with fail
          have hHeld := HTU.out _ HB.out
          refine hK.out _ _ (HTU.out _ HB.out) ?_
          clear hK K
          try simp only [Act.put, List.setIfInBounds_toArray, List.set_cons_zero, List.set_cons_succ]
          refine held_step (i := 27) rfl (by kernel_rfl) (by rfl) (fun K hK => ?_)
          go_simp
          refine (vbad_yn tt.sum csr pk _ _ (madeP tt k) n k _ tt.sum_length HT.out.2.1 (HQ.out.1.below HB.out) (HQ.out.2.1.below HB.out) HQ.out.2.2 HS.out.1 HS.out.2.2 (HT.out.2.2.1.below HB.out HT.out.2.2.1.lt)).mono ?_
          rintro e wc ⟨vb, rfl, hf, hb⟩
          obtain ⟨bb, rfl⟩ := hf.shape
          have HB := Lib.hid (below_then HB.out HB.out.size hb)
          clear hb hf
          go_wp2_with fail
          have hHeld := HTU.out _ HB.out
          refine hK.out _ _ (HTU.out _ HB.out) ?_
          clear hK K
          try simp only [Act.put, List.setIfInBounds_toArray, List.set_cons_zero, List.set_cons_succ]
          refine held_take (i := 28) (v := ?rb25v) rfl (by kernel_rfl) (by kernel_rfl) (by kernel_rfl) (fun _ _ _ h => h) (by rfl) ?rb25y hHeld ?_
          case rb25y => ((intro w _hSw; (try dsimp only at _hSw); go_simp); try (with_reducible rfl))
          try simp only [Act.put, List.setIfInBounds_toArray, List.set_cons_zero, List.set_cons_succ]
          refine held_take (i := 29) (v := ?rb26v) rfl (by kernel_rfl) (by kernel_rfl) (by kernel_rfl) (fun _ _ _ h => h) (by rfl) ?rb26y hHeld ?_
          case rb26y => ((intro w _hSw; (try dsimp only at _hSw); go_simp); try (with_reducible rfl))
          try simp only [Act.put, List.setIfInBounds_toArray, List.set_cons_zero, List.set_cons_succ]
          refine held_take (i := 30) (v := ?rb27v) rfl (by kernel_rfl) (by kernel_rfl) (by kernel_rfl) (fun _ _ _ h => h) (by rfl) ?rb27y hHeld ?_
          case rb27y => ((intro w _hSw; (try dsimp only at _hSw); go_simp); try (with_reducible rfl))
          try simp only [Act.put, List.setIfInBounds_toArray, List.set_cons_zero, List.set_cons_succ]
          refine wpAnyH_done (by kernel_rfl) ?_ _
          clear hHeld
          go_wp2
          refine ⟨⟨k + 1, by simp, by omega, below_then HBW.out HBW.out.size (below_then HBR.out HBR.out.size HB.out)⟩, ?_⟩
          show nl - Int.toNat ((k : Int) + 1) < nl - Int.toNat (k : Int)
          omega
      · have HGZ := Lib.hid hgz
        clear hgz
        go_wp2_with fail
        refine (none_no (some tt) (Ptr g) kz uz _ ⟨g, rfl, HX.out⟩ HGZ.out).mono ?_
        rintro e w8 ⟨ev2, rfl, hf, hb⟩
        obtain ⟨bf2, rfl⟩ := hf.shape
        clear hf
        rw [show noAbs.toArray = #[.slice none 0 0, .slice none 0 0] from rfl]
        have HF9 := Lib.hid (HF9.out.below hb)
        have HPP := Lib.hid (HPP.out.below hb)
        have HX := Lib.hid (HX.out.below hb)
        have HX7 := Lib.hid (HX7.out.below hb)
        have HBR := Lib.hid (below_then HBR.out HBR.out.size hb)
        clear hb e1
        go_upto_region 9 with fail
        obtain ⟨w9, hw9⟩ : ∃ w9, w9 = w8.alloc (.cells #[.slice none 0 0, .slice none 0 0] 41) := ⟨_, rfl⟩
        obtain ⟨x11, hx11⟩ : ∃ n, n = w8.heap.size := ⟨_, rfl⟩
        have b9 : Below w8.heap.size w8 w9 := by rw [hw9]; exact (Below.refl _ _).alloc (Nat.le_refl _) _
        have z9 : Blk w9 x11 41 [.slice none 0 0, .slice none 0 0] := by rw [hw9, hx11]; exact Blk_new w8 [.slice none 0 0, .slice none 0 0] 41
        rw [← hw9, ← hx11]
        have HF9 := Lib.hid (HF9.out.below b9)
        have HPP := Lib.hid (HPP.out.below b9)
        have HBR := Lib.hid (below_then HBR.out HBR.out.size b9)
        have hX7 := HX7.out.below b9
        have hpl := HPP.out.len
        obtain ⟨csr, hcsr⟩ : ∃ cs, cs = tt.sum.map B := ⟨_, rfl⟩
        have HC9 := Lib.hid (And.intro (cell_below HC1.out.1 HBR.out) (cell_below HC1.out.2 HBR.out))
        have HTS : Hid (∀ w', Below w9.heap.size w9 w' → w'.rangeAt x7 0 csp ∧ w'.cell? ⟨b, o + k * 2, none⟩ = some (S8 pk) ∧ w'.cell? ⟨b, o + k * 2 + 1, none⟩ = some (S8 pv)) := Lib.hid fun w' h => ⟨blk_range (hX7.below h), cell_below HC9.out.1 h, cell_below HC9.out.2 h⟩
        have ip : (Tryd.prog.info? 32).map (·.size) = some csp.length := by rw [hpl]; kernel_rfl
        have up := Tryd.underlying32
        have hsm0 := showF_made tt k HPF.out.2.2.1 (by have := path_len_le tt k; have := HPF.out.2.2.2.2.1; omega) (by have := HPF.out.2.2.2.2.1; omega)
        have hk0 : (madeP tt k).key = pk ∧ (madeP tt k).val = pv := by unfold madeP; rw [HPF.out.2.2.2.1]; exact ⟨rfl, rfl⟩
        have HV := Lib.hid (show verF tt.sum pk pv (madeP tt k) = true by simp only [verF, hsm0, hk0]; simp)
        have HP := Lib.hid (And.intro (HPP.out.mono (Nat.zero_le _)) (And.intro (show (madeP tt k).key.length ≤ 2000000 ∧ (madeP tt k).val.length ≤ 2000000 by rw [hk0.1, hk0.2]; exact HSM.out) (madeP_steps tt k)))
        have HT := Lib.hid (And.intro (HX.out.below b9) (And.intro (show csr = (rootO (some tt)).map B from hcsr) (And.intro (HTA.out.1.below HBR.out HTA.out.1.lt) (HTA.out.2.below HBR.out HTA.out.2.lt))))
        have HB : Hid (Below w9.heap.size w9 (w9.drewN 1)) := Lib.hid (refl_drewN w9 1)
        clear hw9 hx11 b9 z9 hX7 hpl hcsr hsm0 hk0
        refine wp_region_held_drew (S := (fun w' => w'.rangeAt x7 0 csp ∧ w'.cell? ⟨b, o + k * 2, none⟩ = some (S8 pk) ∧ w'.cell? ⟨b, o + k * 2 + 1, none⟩ = some (S8 pv))) (by kernel_rfl) ?pas0 (fun hHeld => ?_)
        case pas0 => exact HTS.out _ HB.out
        refine held_take (i := 0) (v := ?pa1v) rfl (by kernel_rfl) (by kernel_rfl) (by kernel_rfl) (fun _ _ _ h => h) (by rfl) ?pa1y hHeld ?_
        case pa1y => ((intro w _hSw; (try dsimp only at _hSw); go_simp); try (with_reducible rfl))
        try simp only [Act.put, List.setIfInBounds_toArray, List.set_cons_zero, List.set_cons_succ]
        refine held_take (i := 1) (v := ?pa2v) rfl (by kernel_rfl) (by kernel_rfl) (by kernel_rfl) (fun _ _ _ h => h) (by rfl) ?pa2y hHeld ?_
        case pa2y => ((intro w _hSw; (try dsimp only at _hSw); go_simp); try (with_reducible rfl))
        try simp only [Act.put, List.setIfInBounds_toArray, List.set_cons_zero, List.set_cons_succ]
        refine held_take (i := 2) (v := ?pa3v) rfl (by kernel_rfl) (by kernel_rfl) (by kernel_rfl) (fun _ _ _ h => h) (by rfl) ?pa3y hHeld ?_
        case pa3y => ((intro w _hSw; (try dsimp only at _hSw); go_simp); try (with_reducible rfl))
        try simp only [Act.put, List.setIfInBounds_toArray, List.set_cons_zero, List.set_cons_succ]
        refine held_take (i := 3) (v := ?pa4v) rfl (by kernel_rfl) (by kernel_rfl) (by kernel_rfl) (fun _ _ _ h => h) (by rfl) ?pa4y hHeld ?_
        case pa4y => ((intro w _hSw; (try dsimp only at _hSw); go_simp); try (with_reducible rfl))
        try simp only [Act.put, List.setIfInBounds_toArray, List.set_cons_zero, List.set_cons_succ]
        refine held_take (i := 5) (v := ?pa5v) rfl (by kernel_rfl) (by kernel_rfl) (by kernel_rfl) (fun _ _ _ h => h) (by rfl) ?pa5y hHeld ?_
        case pa5y => ((intro w _hSw; (try dsimp only at _hSw); go_simp); try (with_reducible rfl))
        try simp only [Act.put, List.setIfInBounds_toArray, List.set_cons_zero, List.set_cons_succ]
        refine held_take (i := 6) (v := ?pa6v) rfl (by kernel_rfl) (by kernel_rfl) (by kernel_rfl) (fun _ _ _ h => h) (by rfl) ?pa6y hHeld ?_
        case pa6y => ((intro w _hSw; (try dsimp only at _hSw); go_simp); try (with_reducible rfl))
        try simp only [Act.put, List.setIfInBounds_toArray, List.set_cons_zero, List.set_cons_succ]
        refine held_take (i := 7) (v := ?pa7v) rfl (by kernel_rfl) (by kernel_rfl) (by kernel_rfl) (fun _ _ _ h => h) (by rfl) ?pa7y hHeld ?_
        case pa7y => ((intro w _hSw; (try dsimp only at _hSw); go_simp); try (with_reducible rfl))
        try simp only [Act.put, List.setIfInBounds_toArray, List.set_cons_zero, List.set_cons_succ]
        refine held_take (i := 8) (v := ?pa8v) rfl (by kernel_rfl) (by kernel_rfl) (by kernel_rfl) (fun _ _ _ h => h) (by rfl) ?pa8y hHeld ?_
        case pa8y => ((intro w _hSw; (try dsimp only at _hSw); go_simp); try (with_reducible rfl))
        try simp only [Act.put, List.setIfInBounds_toArray, List.set_cons_zero, List.set_cons_succ]
        refine held_take (i := 9) (v := ?pa9v) rfl (by kernel_rfl) (by kernel_rfl) (by kernel_rfl) (fun _ _ _ h => h) (by rfl) ?pa9y hHeld ?_
        case pa9y => ((intro w _hSw; (try dsimp only at _hSw); go_simp); try (with_reducible rfl))
        try simp only [Act.put, List.setIfInBounds_toArray, List.set_cons_zero, List.set_cons_succ]
        refine held_take (i := 10) (v := ?pa10v) rfl (by kernel_rfl) (by kernel_rfl) (by kernel_rfl) (fun _ _ _ h => h) (by rfl) ?pa10y hHeld ?_
        case pa10y => ((intro w _hSw; (try dsimp only at _hSw); go_simp); try (with_reducible rfl))
        try simp only [Act.put, List.setIfInBounds_toArray, List.set_cons_zero, List.set_cons_succ]
        refine held_take (i := 11) (v := ?pa11v) rfl (by kernel_rfl) (by kernel_rfl) (by kernel_rfl) (fun _ _ _ h => h) (by rfl) ?pa11y hHeld ?_
        case pa11y => ((intro w _hSw; (try dsimp only at _hSw); go_simp); try (with_reducible rfl))
        try simp only [Act.put, List.setIfInBounds_toArray, List.set_cons_zero, List.set_cons_succ]
        refine held_take (i := 12) (v := ?pa12v) rfl (by kernel_rfl) (by kernel_rfl) (by kernel_rfl) (fun _ _ _ h => h) (by rfl) ?pa12y hHeld ?_
        case pa12y => ((intro w _hSw; (try dsimp only at _hSw); go_simp); try (with_reducible rfl))
        try simp only [Act.put, List.setIfInBounds_toArray, List.set_cons_zero, List.set_cons_succ]
        refine held_take (i := 13) (v := ?pa13v) rfl (by kernel_rfl) (by kernel_rfl) (by kernel_rfl) (fun _ _ _ h => h) (by rfl) ?pa13y hHeld ?_
        case pa13y => ((intro w _hSw; (try dsimp only at _hSw); go_simp); try (with_reducible rfl))
        try simp only [Act.put, List.setIfInBounds_toArray, List.set_cons_zero, List.set_cons_succ]
        refine held_take (i := 14) (v := ?pa14v) rfl (by kernel_rfl) (by kernel_rfl) (by kernel_rfl) (fun _ _ _ h => h) (by rfl) ?pa14y hHeld ?_
        case pa14y => ((intro w _hSw; (try dsimp only at _hSw); go_simp); try (with_reducible rfl))
        try simp only [Act.put, List.setIfInBounds_toArray, List.set_cons_zero, List.set_cons_succ]
        refine held_row (i := 15) rfl (by kernel_rfl) (by kernel_rfl) (by kernel_rfl) _ _ rfl _ _ rfl ?pa15C ?pa15D (fun _ _ _ h => h) (by rfl) ?pa15a ?pa15b ?pa15c ?pa15d hHeld ?_
        case pa15a => (intro w hSw; (try dsimp only at hSw); go_split_ands; assumption)
        case pa15b => assumption
        case pa15c => rfl
        case pa15d => first | assumption | (simp only [*]; done)
        try simp only [Act.put, List.setIfInBounds_toArray, List.set_cons_zero, List.set_cons_succ]
        refine held_step (i := 4) rfl (by kernel_rfl) (by rfl) (fun K hK => ?_)
        go_simp
        refine (root_any (some tt) (Ptr g) csr _ ⟨g, rfl, HT.out.1.below HB.out⟩ HT.out.2.1 (HT.out.2.2.1.below HB.out HT.out.2.2.1.lt)).mono ?_
        rintro e wc ⟨rfl, hb⟩
        have HB := Lib.hid (below_then HB.out HB.out.size hb)
        clear hb
        go_wp2_with fail
        have hHeld := HTS.out _ HB.out
        refine hK.out _ _ (HTS.out _ HB.out) ?_
        clear hK K
        try simp only [Act.put, List.setIfInBounds_toArray, List.set_cons_zero, List.set_cons_succ]
        refine held_step (i := 16) rfl (by kernel_rfl) (by rfl) (fun K hK => ?_)
        go_simp
        refine (verify_any tt.sum csr pk pv (madeP tt k) csp _ tt.sum_length HT.out.2.1 (HP.out.1.below HB.out) HP.out.2.1 HP.out.2.2 (HT.out.2.2.1.below HB.out HT.out.2.2.1.lt)).mono ?_
        rintro e wc ⟨v, rfl, hv, hb⟩
        rw [HV.out] at hv
        obtain rfl : v = .nilIface := hv
        have HB := Lib.hid (below_then HB.out HB.out.size hb)
        clear hb
        go_wp2_with fail
        have hHeld := HTS.out _ HB.out
        refine hK.out _ _ (HTS.out _ HB.out) ?_
        clear hK K
        try simp only [Act.put, List.setIfInBounds_toArray, List.set_cons_zero, List.set_cons_succ]
        refine held_take (i := 17) (v := ?pa16v) rfl (by kernel_rfl) (by kernel_rfl) (by kernel_rfl) (fun _ _ _ h => h) (by rfl) ?pa16y hHeld ?_
        case pa16y => ((intro w _hSw; (try dsimp only at _hSw); go_simp); try (with_reducible rfl))
        try simp only [Act.put, List.setIfInBounds_toArray, List.set_cons_zero, List.set_cons_succ]
        refine held_take (i := 18) (v := ?pa17v) rfl (by kernel_rfl) (by kernel_rfl) (by kernel_rfl) (fun _ _ _ h => h) (by rfl) ?pa17y hHeld ?_
        case pa17y => ((intro w _hSw; (try dsimp only at _hSw); go_simp); try (with_reducible rfl))
        try simp only [Act.put, List.setIfInBounds_toArray, List.set_cons_zero, List.set_cons_succ]
        refine held_take (i := 19) (v := ?pa18v) rfl (by kernel_rfl) (by kernel_rfl) (by kernel_rfl) (fun _ _ _ h => h) (by rfl) ?pa18y hHeld ?_
        case pa18y => ((intro w _hSw; (try dsimp only at _hSw); go_simp); try (with_reducible rfl))
        try simp only [Act.put, List.setIfInBounds_toArray, List.set_cons_zero, List.set_cons_succ]
        refine held_take (i := 20) (v := ?pa19v) rfl (by kernel_rfl) (by kernel_rfl) (by kernel_rfl) (fun _ _ _ h => h) (by rfl) ?pa19y hHeld ?_
        case pa19y => ((intro w _hSw; (try dsimp only at _hSw); go_simp); try (with_reducible rfl))
        try simp only [Act.put, List.setIfInBounds_toArray, List.set_cons_zero, List.set_cons_succ]
        refine held_step (i := 21) rfl (by kernel_rfl) (by rfl) (fun K hK => ?_)
        go_simp
        refine (num08_any _ 9 _ (HF9.out.below HB.out) (HT.out.2.2.2.below HB.out HT.out.2.2.2.lt)).mono ?_
        rintro e wc ⟨rfl, hb⟩
        have HB := Lib.hid (below_then HB.out HB.out.size hb)
        clear hb
        go_wp2_with fail
        have hHeld := HTS.out _ HB.out
        refine hK.out _ _ (HTS.out _ HB.out) ?_
        clear hK K
        try simp only [Act.put, List.setIfInBounds_toArray, List.set_cons_zero, List.set_cons_succ]
        refine held_take (i := 22) (v := ?pa20v) rfl (by kernel_rfl) (by kernel_rfl) (by kernel_rfl) (fun _ _ _ h => h) (by rfl) ?pa20y hHeld ?_
        case pa20y => ((intro w _hSw; (try dsimp only at _hSw); go_simp); try (with_reducible rfl))
        try simp only [Act.put, List.setIfInBounds_toArray, List.set_cons_zero, List.set_cons_succ]
        refine held_take (i := 23) (v := ?pa21v) rfl (by kernel_rfl) (by kernel_rfl) (by kernel_rfl) (fun _ _ _ h => h) (by rfl) ?pa21y hHeld ?_
        case pa21y => ((intro w _hSw; (try dsimp only at _hSw); go_simp); try (with_reducible rfl))
        try simp only [Act.put, List.setIfInBounds_toArray, List.set_cons_zero, List.set_cons_succ]
        refine wpAnyH_done (by kernel_rfl) ?_ _
        clear hHeld
        have e1 := (HTS.out _ HB.out).2.1
        go_wp2_with fail
        refine (get_any (some tt) (Ptr g) kz _ ⟨g, rfl, HT.out.1.below HB.out⟩).mono ?_
        rintro e wz ⟨rfl, rfl⟩
        rw [show getO kz (some tt) = some uz from HGZ.out]
        unfold getVal
        clear e1
        go_upto_region 12 with fail
        go_quiet (fail)
        have HB := Lib.hid (below_then HB.out HB.out.size (refl_drewN _ nq))
        go_wp2
        refine ⟨⟨k + 1, by simp, by omega, below_then HBW.out HBW.out.size (below_then HBR.out HBR.out.size HB.out)⟩, ?_⟩
        show nl - Int.toNat ((k : Int) + 1) < nl - Int.toNat (k : Int)
        omega
    · have hk1 : ¬ (k : Int) < (nl : Int) := by omega
      have HBW := Lib.hid hB
      clear hB
      go_wp2_with fail
      refine (sure08_any _ (HT5.out.1.below HBW.out HT5.out.1.lt) (HT5.out.2.below HBW.out HT5.out.2.lt)).mono ?_
      rintro e wz ⟨rfl, hb⟩
      have HBW := Lib.hid (below_then HBW.out HBW.out.size hb)
      clear hb
      go_wp2
      go_ret
      exact ⟨rfl, below_then HW.out HW.out.size HBW.out⟩
end Go.Proofs.YtdekealpachhmaaDoor
