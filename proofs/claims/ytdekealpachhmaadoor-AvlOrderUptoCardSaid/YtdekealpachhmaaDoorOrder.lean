/- AvlOrder's walk. -/
import Derived.Test.YtdekealpachhmaaDoorPaths
import Derived.Test.YtdekealpachhmaaDoorRng2
import Derived.Test.YtdekealpachhmaaDoorRvG
namespace Go.Isth
open Go Go.RowKit Go.Op
theorem take_nextQ {l : List (Str × Str)} {k : Nat} {a : Str × Str} (h : l[k]? = some a) : l.take (k + 1) = l.take k ++ [a] := by
  rw [List.take_add_one, h]
  rfl
theorem between_next (frm til : Str) (l : List (Str × Str)) (k : Nat) (p : Str × Str) (h : l[k]? = some p) (hp : (!bytesLess p.1 frm && Isth.below til p) = true) : (between frm til (l.take (k + 1))).length = (between frm til (l.take k)).length + 1 := by
  rw [take_nextQ h]
  unfold between
  rw [List.filter_append, List.length_append, show [p].filter (fun x => !bytesLess x.1 frm && Isth.below til x) = [p] from (List.filter_cons ..).trans (if_pos hp)]
  rfl
theorem between_skip (frm til : Str) (l : List (Str × Str)) (k : Nat) (p : Str × Str) (h : l[k]? = some p) (hp : (!bytesLess p.1 frm && Isth.below til p) = false) : (between frm til (l.take (k + 1))).length = (between frm til (l.take k)).length := by
  rw [take_nextQ h]
  unfold between
  rw [List.filter_append, List.length_append, show [p].filter (fun x => !bytesLess x.1 frm && Isth.below til x) = [] from (List.filter_cons ..).trans (if_neg (by rw [hp]; simp))]
  rfl
theorem drop_one (key : Str) : ∀ t : Av, manyO (t.drop key) + 1 = t.many
  | .leaf k v => rfl
  | .node a b => by
    have h1 := drop_one key a
    have h2 := drop_one key b
    have p1 := a.many_pos
    have p2 := b.many_pos
    unfold Av.drop
    split
    · cases hd : a.drop key with
      | none => rw [hd] at h1; simp only [manyO, Av.many] at h1 ⊢; omega
      | some a' => rw [hd] at h1; simp only [manyO] at h1 ⊢; rw [Av.many_right]; simp only [Av.many]; omega
    · cases hd : b.drop key with
      | none => rw [hd] at h2; simp only [manyO, Av.many] at h2 ⊢; omega
      | some b' => rw [hd] at h2; simp only [manyO] at h2 ⊢; rw [Av.many_right]; simp only [Av.many]; omega
theorem dropO_yes {t : Option Av} {key v : Str} (h : getO key t = some v) : manyO (dropO key t) + 1 = manyO t := by
  cases t with
  | none => cases h
  | some t =>
    simp only [getO] at h
    simp only [dropO, h]
    exact drop_one key t
theorem dropO_no {t : Option Av} {key : Str} (h : getO key t = none) : dropO key t = t := by
  cases t with
  | none => rfl
  | some t =>
    simp only [getO] at h
    simp only [dropO, h]
theorem dropO_get {t : Option Av} (hg : Isth.Good t) (key : Str) : getO key (dropO key t) = none := by
  cases hq : getO key t with
  | none => rw [dropO_no hq]; exact hq
  | some v =>
    cases t with
    | none => cases hq
    | some t =>
      simp only [getO] at hq
      simp only [dropO, hq]
      obtain ⟨h1, h2⟩ := drop_pairs_mem t key hg.2 (by rw [hq]; simp)
      cases hd : t.drop key with
      | none => rfl
      | some u =>
        rw [hd] at h1 h2
        exact get_none h1 (fun v hv => ((h2 (key, v)).1 hv).2 rfl)
theorem sorted_pair : ∀ {l : List (Str × Str)} {k : Nat} {p q : Str × Str}, Sorted l → l[k]? = some q → l[k + 1]? = some p → bytesLess q.1 p.1 = true
  | [], k, p, q, _, h, _ => by simp at h
  | x :: l, 0, p, q, hs, h, h' => by
    simp only [List.getElem?_cons_zero, Option.some.injEq] at h
    subst h
    exact (List.pairwise_cons.1 hs).1 p (List.mem_of_getElem? (by simpa using h'))
  | x :: l, k + 1, p, q, hs, h, h' => sorted_pair (List.pairwise_cons.1 hs).2 (by simpa using h) (by simpa using h')
theorem findO_at {t : Option Av} (hg : Isth.Good t) {k : Nat} {p : Str × Str} (h : (pairsO t)[k]? = some p) : findO p.1 t = k := by
  cases t with
  | none => simp [pairsO] at h
  | some t =>
    have hk : k < t.many := by rw [← t.pairs_length]; exact (List.getElem?_eq_some_iff.1 h).1
    have h1 := t.at_pairs k hk
    have h2 : t.at_ k = p := Option.some.inj (h1.symm.trans h)
    rw [← h2]
    exact find_at t k hk hg.2
end Go.Isth
namespace Go.Proofs.YtdekealpachhmaaDoor
open Go Go.RowKit Go.Isth

def OrderInv (w5 : World) (frm til : Str) (rl : List (Str × Str)) (v10 v11 : Value) (wr : World) : Prop :=
  ∃ k : Nat, v10 = .int .i64 (((between frm til (rl.take k)).length : Nat) : Int) ∧ v11 = .int .i64 (k : Nat) ∧ k ≤ rl.length ∧ Below w5.heap.size w5 wr
set_option maxRecDepth 100000 in
set_option maxHeartbeats 8000000 in
theorem order_any (A : Option Addr) (c : Nat) (l : List ActV) (frm til : Str) (w : World) (hc : l.length ≤ c) (hr : Rd w A (l.flatMap actC)) (hl : ∀ a ∈ l, a.key.length ≤ 2000000 ∧ a.val.length ≤ 2000000) (hn : l.length ≤ 4611686018427387904) (ht : TabLaid w) :
    Calls Tryd.prog 4 #[.slice A l.length c, S8 frm, S8 til] w fun e w' => e = .returned (.bool true) ∧ Below w.heap.size w w' := by
  obtain ⟨hgood, hmany, hsmall⟩ := grown_facts l hl
  have HA := Lib.hid (And.intro hc (And.intro hr (And.intro hl (And.intro hn ht))))
  clear hc hr hl hn ht hsmall
  go_enter Tryd.func4, Tryd.ntmps4
  go_wp2_with fail
  refine (grown07_any A c l w HA.out.1 HA.out.2.1 HA.out.2.2.1 HA.out.2.2.2.1 HA.out.2.2.2.2).mono ?_
  rintro e w1 ⟨v, cs, rfl, htr, hro, hb⟩
  have HLC := Lib.hid (And.intro hro.len hro.one)
  have HW := Lib.hid hb
  have HTR := Lib.hid htr
  clear hro hb htr
  obtain ⟨t, htt⟩ : ∃ t, t = grownA l := ⟨_, rfl⟩
  rw [← htt] at hgood hmany HTR
  obtain ⟨rl, hrl⟩ : ∃ rl, pairsO t = rl := ⟨_, rfl⟩
  obtain ⟨nl, hnl⟩ : ∃ nl, rl.length = nl := ⟨_, rfl⟩
  have HMN := Lib.hid (show manyO t = nl by rw [← hnl, ← hrl]; exact (pairsO_length t).symm)
  have HRN := Lib.hid (And.intro hrl (And.intro hnl (show nl ≤ 60 by rw [← HMN.out]; exact hmany)))
  have HGT := Lib.hid (And.intro hgood hmany)
  obtain ⟨q, hq⟩ : ∃ q, (rangeO frm til t).length = q := ⟨_, rfl⟩
  have HQ := Lib.hid hq
  have HQ2 := Lib.hid (show (between frm til rl).length = q ∧ q ≤ 60 by refine ⟨?_, ?_⟩; rw [← hq, ← hrl]; rfl; rw [← hq]; exact Nat.le_trans (rangeO_le _ _ _) hmany)
  clear hgood hmany hrl hnl htt hq
  go_wp2_with (refine wpList_store_blk rfl 26 (.tmp 8) (.tmp 24) rfl w1.heap.size cs rfl rfl 26 emptyC (heap_alloc_new w1 _) (by rw [HLC.out.1]; kernel_rfl) (by rw [HLC.out.1]; rfl) HLC.out.2 ?_; intro w2 hz hg
               have hb2 : Below w1.heap.size w1 w2 := ((Below.refl w1.heap.size w1).alloc (Nat.le_refl _) _).grown hg (by simp) (fun q e => by injection e with e; omega)
               have HW := Lib.hid (below_then HW.out HW.out.size hb2)
               have HTR := Lib.hid (HTR.out.below hb2)
               clear hz hg hb2)
  refine (range_any t v [] [] _ HTR.out HGT.out.1 (by have := HGT.out.2; omega)).mono ?_
  rintro e w5 ⟨vr, rfl, ho, hb⟩
  rw [show rangeO [] [] t = rl by rw [← HRN.out.1]; exact between_all _] at ho
  obtain ⟨A', c', rfl, _, hrd, _⟩ := own_slice ho
  rw [HRN.out.2.1]
  have HTR := Lib.hid (HTR.out.below hb)
  have HW := Lib.hid (below_then HW.out HW.out.size hb)
  have HRD := Lib.hid hrd
  have HT5 := Lib.hid (HA.out.2.2.2.2.below HW.out HA.out.2.2.2.2.lt)
  clear hb ho hrd
  go_wp2_with fail
  go_loopw [10, 11] (fun v10 v11 wr => OrderInv w5 frm til rl v10 v11 wr) (fun _ v11 _ => nl - (intOf v11).toNat)
  case atStart => exact ⟨0, rfl, rfl, Nat.zero_le _, Below.refl _ _⟩
  case round =>
    obtain ⟨k, rfl, rfl, hk, hB⟩ := hrel
    rw [HRN.out.2.1] at hk
    have hcl9 : (between frm til (rl.take k)).length ≤ 60 := by
      have h1 : (between frm til (rl.take k)).length ≤ (rl.take k).length := List.length_filter_le _ _
      have h2 := List.length_take_le k rl
      have h3 := HRN.out.2.2
      omega
    by_cases hkn : k < nl
    · obtain ⟨p, hp⟩ : ∃ p, rl[k]? = some p := ⟨_, List.getElem?_eq_getElem (by rw [HRN.out.2.1]; exact hkn)⟩
      have HPK := Lib.hid hp
      have HPF := Lib.hid (show getO p.1 t = some p.2 ∧ findO p.1 t = k from ⟨(getO_pairs HGT.out.1 p.1 p.2).2 (by rw [HRN.out.1]; exact List.mem_of_getElem? hp), findO_at HGT.out.1 (by rw [HRN.out.1]; exact hp)⟩)
      obtain ⟨b, o, rfl, hcl⟩ := HRD.out (by rw [pairsC_len, HRN.out.2.1]; omega)
      have e1 := cell_below (hcl _ _ (pairsC_cells _ _ _ hp).1) hB
      have e2 := cell_below (hcl _ _ (pairsC_cells _ _ _ hp).2) hB
      rw [← Nat.add_assoc] at e2
      have hk1 : (k : Int) < (nl : Int) := by omega
      have hm6 := HRN.out.2.2
      have HBW := Lib.hid hB
      obtain ⟨cn, hcn⟩ : ∃ cn, (between frm til (rl.take k)).length = cn := ⟨_, rfl⟩
      rw [hcn] at hcl9 ⊢
      have HCN := Lib.hid hcn
      clear hcn
      cases k with
      | zero =>
        simp only [Nat.zero_mul, Nat.add_zero] at e1 e2
        clear hp hcl hB
        go_upto_region 7 with fail
        go_quiet (fail)
        have HW2 := Lib.hid (below_drewN HBW.out nq)
        go_wp2_with fail
        refine (get_any t v p.1 _ (HTR.out.below HW2.out)).mono ?_
        rintro e wz ⟨rfl, rfl⟩
        rw [HPF.out.1]
        unfold getVal
        go_wp2_with fail
        refine (find_any t v p.1 _ (HTR.out.below HW2.out) (by have := HGT.out.2; omega)).mono ?_
        rintro e wz ⟨rfl, rfl⟩
        rw [HPF.out.2]
        rcases hb1 : Op.bytesLess p.1 frm with _ | _
        · rcases hemp : List.isEmpty til with _ | _
          · rcases hb2 : Op.bytesLess p.1 til with _ | _
            · have HC := Lib.hid (between_skip frm til rl 0 p HPK.out (by unfold Isth.below; rw [hemp, hb1, hb2]; rfl))
              go_wp2
              refine ⟨⟨0 + 1, by rw [HC.out, HCN.out], by simp, by rw [HRN.out.2.1]; omega, HW2.out⟩, ?_⟩
              show nl - Int.toNat (((0 : Nat) : Int) + 1) < nl - Int.toNat ((0 : Nat) : Int)
              omega
            · have HC := Lib.hid (between_next frm til rl 0 p HPK.out (by unfold Isth.below; rw [hemp, hb1, hb2]; rfl))
              go_wp2
              refine ⟨⟨0 + 1, by rw [HC.out, HCN.out]; exact congrArg (Value.int .i64) (by simp), by simp, by rw [HRN.out.2.1]; omega, HW2.out⟩, ?_⟩
              show nl - Int.toNat (((0 : Nat) : Int) + 1) < nl - Int.toNat ((0 : Nat) : Int)
              omega
          · have HC := Lib.hid (between_next frm til rl 0 p HPK.out (by unfold Isth.below; rw [hemp, hb1]; rfl))
            go_wp2
            refine ⟨⟨0 + 1, by rw [HC.out, HCN.out]; exact congrArg (Value.int .i64) (by simp), by simp, by rw [HRN.out.2.1]; omega, HW2.out⟩, ?_⟩
            show nl - Int.toNat (((0 : Nat) : Int) + 1) < nl - Int.toNat ((0 : Nat) : Int)
            omega
        · have HC := Lib.hid (between_skip frm til rl 0 p HPK.out (by rw [hb1]; rfl))
          go_wp2
          refine ⟨⟨0 + 1, by rw [HC.out, HCN.out], by simp, by rw [HRN.out.2.1]; omega, HW2.out⟩, ?_⟩
          show nl - Int.toNat (((0 : Nat) : Int) + 1) < nl - Int.toNat ((0 : Nat) : Int)
          omega
      | succ k =>
        obtain ⟨q', hq'⟩ : ∃ p, rl[k]? = some p := ⟨_, List.getElem?_eq_getElem (by rw [HRN.out.2.1]; omega)⟩
        have e3 := cell_below (hcl _ _ (pairsC_cells _ _ _ hq').1) hB
        have hql : Op.bytesLess q'.1 p.1 = true := sorted_pair (by rw [← HRN.out.1]; exact sorted_good HGT.out.1) hq' hp
        clear hp hcl hB hq'
        go_upto_region 7 with fail
        go_quiet (fail)
        have HW2 := Lib.hid (below_drewN HBW.out nq)
        clear e3
        go_wp2_with fail
        refine (get_any t v p.1 _ (HTR.out.below HW2.out)).mono ?_
        rintro e wz ⟨rfl, rfl⟩
        rw [HPF.out.1]
        unfold getVal
        go_wp2_with fail
        refine (find_any t v p.1 _ (HTR.out.below HW2.out) (by have := HGT.out.2; omega)).mono ?_
        rintro e wz ⟨rfl, rfl⟩
        rw [HPF.out.2]
        rcases hb1 : Op.bytesLess p.1 frm with _ | _
        · rcases hemp : List.isEmpty til with _ | _
          · rcases hb2 : Op.bytesLess p.1 til with _ | _
            · have HC := Lib.hid (between_skip frm til rl (k + 1) p HPK.out (by unfold Isth.below; rw [hemp, hb1, hb2]; rfl))
              go_wp2
              refine ⟨⟨(k + 1) + 1, by rw [HC.out, HCN.out], by simp, by rw [HRN.out.2.1]; omega, HW2.out⟩, ?_⟩
              show nl - Int.toNat ((((k + 1) : Nat) : Int) + 1) < nl - Int.toNat (((k + 1) : Nat) : Int)
              omega
            · have HC := Lib.hid (between_next frm til rl (k + 1) p HPK.out (by unfold Isth.below; rw [hemp, hb1, hb2]; rfl))
              go_wp2
              refine ⟨⟨(k + 1) + 1, by rw [HC.out, HCN.out]; exact congrArg (Value.int .i64) (by simp), by simp, by rw [HRN.out.2.1]; omega, HW2.out⟩, ?_⟩
              show nl - Int.toNat ((((k + 1) : Nat) : Int) + 1) < nl - Int.toNat (((k + 1) : Nat) : Int)
              omega
          · have HC := Lib.hid (between_next frm til rl (k + 1) p HPK.out (by unfold Isth.below; rw [hemp, hb1]; rfl))
            go_wp2
            refine ⟨⟨(k + 1) + 1, by rw [HC.out, HCN.out]; exact congrArg (Value.int .i64) (by simp), by simp, by rw [HRN.out.2.1]; omega, HW2.out⟩, ?_⟩
            show nl - Int.toNat ((((k + 1) : Nat) : Int) + 1) < nl - Int.toNat (((k + 1) : Nat) : Int)
            omega
        · have HC := Lib.hid (between_skip frm til rl (k + 1) p HPK.out (by rw [hb1]; rfl))
          go_wp2
          refine ⟨⟨(k + 1) + 1, by rw [HC.out, HCN.out], by simp, by rw [HRN.out.2.1]; omega, HW2.out⟩, ?_⟩
          show nl - Int.toNat ((((k + 1) : Nat) : Int) + 1) < nl - Int.toNat (((k + 1) : Nat) : Int)
          omega
    · have hkq : (between frm til (rl.take k)).length = q := by rw [List.take_of_length_le (by rw [HRN.out.2.1]; omega)]; exact HQ2.out.1
      rw [hkq]
      have HBW := Lib.hid hB
      have hq6 := HQ2.out.2
      have hm6 := HRN.out.2.2
      have hk1 : ¬ (k : Int) < (nl : Int) := by omega
      clear hB hkq hcl9
      go_wp2_with fail
      refine (drop_any t v frm _ (HTR.out.below HBW.out) (by have := HGT.out.2; omega) (HT5.out.below HBW.out HT5.out.lt)).mono ?_
      rintro e wd ⟨vu, rfl, hu, hb⟩
      have HU := Lib.hid hu
      have HW3 := Lib.hid (below_then HBW.out HBW.out.size hb)
      clear hu hb
      go_wp2_with fail
      refine (get_any (dropO frm t) vu frm _ HU.out).mono ?_
      rintro e wg ⟨rfl, rfl⟩
      rw [dropO_get HGT.out.1 frm]
      unfold getVal
      go_wp2_with fail
      refine (get_any t v frm _ (HTR.out.below HW3.out)).mono ?_
      rintro e wg2 ⟨rfl, rfl⟩
      cases hq : getO frm t with
      | none =>
        have HDD := Lib.hid (show manyO (dropO frm t) = nl by rw [dropO_no hq]; exact HMN.out)
        unfold getVal
        clear hq
        go_wp2_with fail
        refine (range_any t v frm til _ (HTR.out.below HW3.out) HGT.out.1 (by have := HGT.out.2; omega)).mono ?_
        rintro e wz ⟨vr, rfl, ho, hb⟩
        rw [HQ.out] at ho
        obtain ⟨A2, c2, rfl, _⟩ := own_slice ho
        have HU := Lib.hid (HU.out.below hb)
        have HW3 := Lib.hid (below_then HW3.out HW3.out.size hb)
        clear hb ho
        go_wp2_with fail
        refine (len_any (dropO frm t) vu _ HU.out).mono ?_
        rintro e wz2 ⟨rfl, rfl⟩
        rw [HDD.out]
        go_wp2_with fail
        refine (len_any t v _ (HTR.out.below HW3.out)).mono ?_
        rintro e wz3 ⟨rfl, rfl⟩
        rw [HMN.out]
        go_wp2_with fail
        refine (len_any t v _ (HTR.out.below HW3.out)).mono ?_
        rintro e wz4 ⟨rfl, rfl⟩
        rw [HMN.out]
        go_wp2_with fail
        refine (sure07_any _ (HT5.out.below HW3.out HT5.out.lt)).mono ?_
        rintro e wz5 ⟨rfl, hb⟩
        have HW3 := Lib.hid (below_then HW3.out HW3.out.size hb)
        clear hb
        go_wp2
        go_ret
        exact ⟨rfl, below_then HW.out HW.out.size HW3.out⟩
      | some vv =>
        have HDD := Lib.hid (show ((manyO (dropO frm t) : Nat) : Int) = (nl : Int) - 1 by have := dropO_yes hq; have := HMN.out; omega)
        unfold getVal
        clear hq
        go_wp2_with fail
        refine (range_any t v frm til _ (HTR.out.below HW3.out) HGT.out.1 (by have := HGT.out.2; omega)).mono ?_
        rintro e wz ⟨vr, rfl, ho, hb⟩
        rw [HQ.out] at ho
        obtain ⟨A2, c2, rfl, _⟩ := own_slice ho
        have HU := Lib.hid (HU.out.below hb)
        have HW3 := Lib.hid (below_then HW3.out HW3.out.size hb)
        clear hb ho
        go_wp2_with fail
        refine (len_any (dropO frm t) vu _ HU.out).mono ?_
        rintro e wz2 ⟨rfl, rfl⟩
        rw [HDD.out]
        go_wp2_with fail
        refine (len_any t v _ (HTR.out.below HW3.out)).mono ?_
        rintro e wz3 ⟨rfl, rfl⟩
        rw [HMN.out]
        go_wp2_with fail
        refine (len_any t v _ (HTR.out.below HW3.out)).mono ?_
        rintro e wz4 ⟨rfl, rfl⟩
        rw [HMN.out]
        go_wp2_with fail
        refine (sure07_any _ (HT5.out.below HW3.out HT5.out.lt)).mono ?_
        rintro e wz5 ⟨rfl, hb⟩
        have HW3 := Lib.hid (below_then HW3.out HW3.out.size hb)
        clear hb
        go_wp2
        go_ret
        exact ⟨rfl, below_then HW.out HW.out.size HW3.out⟩
end Go.Proofs.YtdekealpachhmaaDoor
