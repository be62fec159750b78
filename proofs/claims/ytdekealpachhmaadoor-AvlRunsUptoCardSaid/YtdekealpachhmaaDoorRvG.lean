/- Layer 7's reference: Pairs of any tree, Get by their contracts. -/
import Derived.Test.YtdekealpachhmaaDoorRvS
namespace Go.Proofs.YtdekealpachhmaaDoor
open Go Go.RowKit Go.Isth

theorem rpairs_any (t : Option Av) (cs : List Value) (w : World) (h : RO w t cs) (hm : manyO t ≤ 900000) :
    Calls Tryd.prog 34 #[.agg cs.toArray] w fun e w' => ∃ A c, e = .returned (.slice A (manyO t) c) ∧ manyO t ≤ c ∧ Rd w' A (pairsC (pairsO t)) ∧ Below w.heap.size w w' := by
  cases t with
  | some t =>
    refine (rpairs_tree t cs w h hm).mono ?_
    rintro e w' ⟨v, rfl, ho, hb⟩
    obtain ⟨A, c, rfl, hc, hr, _⟩ := own_slice ho
    exact ⟨A, c, rfl, hc, hr, hb⟩
  | none =>
    obtain rfl := h
    unfold emptyC
    go_enter Tryd.func34, Tryd.ntmps34
    go_wp2
    go_ret
    exact ⟨_, _, rfl, Nat.le_refl _, Rd.nil _ _, (Below.refl _ _).alloc (Nat.le_refl _) _⟩
theorem getO_pairs {t : Option Av} (hg : Isth.Good t) (key v : Str) : getO key t = some v ↔ (key, v) ∈ pairsO t := by
  cases t with
  | none => simp [getO, pairsO]
  | some t => exact get_pairs t key hg.2 v
theorem pairsO_length (t : Option Av) : (pairsO t).length = manyO t := by
  cases t with
  | none => rfl
  | some t => exact t.pairs_length
theorem pairsC_cells : ∀ (l : List (Str × Str)) (k : Nat) (p : Str × Str), l[k]? = some p → (pairsC l)[k * 2]? = some (S8 p.1) ∧ (pairsC l)[k * 2 + 1]? = some (S8 p.2)
  | [], k, p, h => by simp at h
  | x :: l, 0, p, h => by
    simp only [List.getElem?_cons_zero, Option.some.injEq] at h
    subst h
    exact ⟨rfl, rfl⟩
  | x :: l, k + 1, p, h => by
    simp only [List.getElem?_cons_succ] at h
    have := pairsC_cells l k p h
    have e : pairsC (x :: l) = S8 x.1 :: S8 x.2 :: pairsC l := rfl
    have e1 : (k + 1) * 2 = k * 2 + 1 + 1 := by omega
    rw [e, e1, List.getElem?_cons_succ, List.getElem?_cons_succ, List.getElem?_cons_succ, List.getElem?_cons_succ]
    exact this
def RGetInv (w : World) (l : List (Str × Str)) (key : Str) (i : Value) (wr : World) : Prop := ∃ k : Nat, i = .int .i64 (k : Nat) ∧ k ≤ l.length ∧ (∀ (j : Nat) p, j < k → l[j]? = some p → p.1 ≠ key) ∧ wr = w
set_option maxRecDepth 100000 in
set_option maxHeartbeats 1000000 in
theorem rget_any (t : Option Av) (key : Str) (cs : List Value) (w : World) (h : RO w t cs) (hg : Isth.Good t) (hm : manyO t ≤ 900000) :
    Calls Tryd.prog 33 #[.agg cs.toArray, S8 key] w fun e w' => e = .returned (getVal (getO key t)) ∧ Below w.heap.size w w' := by
  have hl := h.len
  have hz := Blk_new w cs 26
  have hb0 : Below w.heap.size w (w.alloc (.cells cs.toArray 26)) := (Below.refl _ _).alloc (Nat.le_refl _) _
  have HLD := Lib.hid (run_load_agg (P := Tryd.prog) Tryd.underlying26 rfl (by kernel_rfl) (w.alloc (.cells cs.toArray 26)) ⟨w.heap.size, 0, none⟩ cs hl (fun j u hj => by rw [add_plain, Nat.zero_add]; exact hz.cellD j u hj))
  have HT := Lib.hid (And.intro (h.below hb0) (And.intro hg (And.intro hm hb0)))
  go_enter Tryd.func33, Tryd.ntmps33
  go_upto_region 1 with fail
  change Code.wp _ _ _ _ (w.alloc (.cells cs.toArray 26))
  generalize w.alloc (.cells cs.toArray 26) = w0 at *
  clear h hg hm hl hz hb0
  go_wp2_with (refine wpList_load rfl (.tmp 2) rfl ⟨w.heap.size, 0, none⟩ (.agg cs.toArray) rfl HLD.out ?_)
  refine (rpairs_any t cs w0 HT.out.1 HT.out.2.2.1).mono ?_
  rintro e wc ⟨A, c, rfl, hc, hr, hb⟩
  have H1 := Lib.hid (And.intro hr (And.intro hc (below_then HT.out.2.2.2 HT.out.2.2.2.size hb)))
  obtain ⟨n, hn⟩ : ∃ n, manyO t = n := ⟨_, rfl⟩
  have HN := Lib.hid (show (pairsO t).length = n by rw [← hn]; exact pairsO_length t)
  rw [hn]
  clear hr hc hb hn
  go_wp2_with fail
  go_loopw [7] (fun i wr => RGetInv wc (pairsO t) key i wr) (fun i _ => n - (intOf i).toNat)
  case atStart => exact ⟨0, rfl, Nat.zero_le _, fun j p h => by omega, rfl⟩
  case round =>
    obtain ⟨k, rfl, hk, hno, hw⟩ := hrel
    obtain rfl : wc = wr := hw.symm
    rw [HN.out] at hk
    have HNO := Lib.hid hno
    clear hno hw
    rcases Nat.lt_or_ge k n with hkn | hkn
    · obtain ⟨p, hp⟩ : ∃ p, (pairsO t)[k]? = some p := ⟨_, List.getElem?_eq_getElem (by rw [HN.out]; exact hkn)⟩
      obtain ⟨b, o, rfl, hcl⟩ := H1.out.1 (by rw [pairsC_len, HN.out]; omega)
      have e1 := hcl _ _ (pairsC_cells _ _ _ hp).1
      have e2 := hcl _ _ (pairsC_cells _ _ _ hp).2
      rw [← Nat.add_assoc] at e2
      have hk1 : (k : Int) < (n : Int) := by omega
      have HP := Lib.hid hp
      have hm9 : n ≤ 900000 := by have := HT.out.2.2.1; have := HN.out; have := pairsO_length t; omega
      clear hp hcl
      by_cases hpk : p.1 = key
      · have hb : (p.1 == key) = true := by simp [hpk]
        go_wp2
        go_ret2
        refine ⟨?_, H1.out.2.2⟩
        have hg := (getO_pairs HT.out.2.1 key p.2).2 (by have := List.mem_of_getElem? HP.out; rw [← hpk]; exact this)
        rw [hg]
        rfl
      · have hb : (p.1 == key) = false := by simp [hpk]
        have HPK := Lib.hid hpk
        clear hpk
        go_wp2
        refine ⟨⟨k + 1, by simp, by rw [HN.out]; omega, fun j q hj hq => ?_, rfl⟩, ?_⟩
        · rcases Nat.lt_or_ge j k with hjk | hjk
          · exact HNO.out j q hjk hq
          · obtain rfl : j = k := by omega
            rw [HP.out] at hq
            obtain rfl := Option.some.inj hq
            exact HPK.out
        · show n - (Int.toNat ((k : Int) + 1)) < n - Int.toNat (k : Int)
          omega
    · have hk1 : ¬ (k : Int) < (n : Int) := by omega
      go_wp2
      go_ret2
      refine ⟨?_, H1.out.2.2⟩
      have hg : getO key t = none := by
        cases he : getO key t with
        | none => rfl
        | some v =>
          have hmem := (getO_pairs HT.out.2.1 key v).1 he
          obtain ⟨j, hj, hje⟩ := List.getElem_of_mem hmem
          exact absurd rfl (HNO.out j _ (by have := HN.out; omega) (by rw [List.getElem?_eq_getElem hj, hje]))
      rw [hg]
      rfl
end Go.Proofs.YtdekealpachhmaaDoor
