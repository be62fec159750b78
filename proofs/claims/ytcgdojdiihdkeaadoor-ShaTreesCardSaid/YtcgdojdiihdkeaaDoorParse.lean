/- Layer 1: Parse of both sides by their contracts. -/
import Derived.Test.YtcgdojdiihdkeaaDoorRefT
import Derived.Test.YtcgdojdiihdkeaaDoorFault
import Derived.Test.YtcgdojdiihdkeaaDoorHs
namespace Go.Isth
open Go Go.RowKit
/-- A result that lies in a block, and one in a slot. -/
theorem results_pair {P : Program} {fn : Func} {p u : Tmp} {ty : TypeId} (h : fn.results = #[.cell p ty, .tmp u]) (tmps : Array Value) (w : World) (g : Nat) (t : TypeId) (cs : List Value) (d : TypeDesc)
    (hp : tmps.getD p undef = .pointer (some ⟨g, 0, none⟩)) (hg : Blk w g t cs)
    (hu : P.underlying ty = some d) (hd : (match d with | .struct _ => true | .array _ _ => true | _ => false) = true) (hi : (P.info? ty).map (·.size) = some cs.length) :
    (results fn tmps).run P w = .ok (.tuple #[.agg cs.toArray, tmps.getD u undef]) w := by
  rw [results_cell_tmp h, hp]
  have hl := run_load_agg (P := P) hu hd hi w ⟨g, 0, none⟩ cs rfl (fun j u hj => by rw [add_plain, Nat.zero_add]; exact hg.cellD j u hj)
  simp [asAddr, hl, Result.andThen]
end Go.Isth
namespace Go.Proofs.YtcgdojdiihdkeaaDoor
open Go Go.RowKit Go.Isth

theorem FaultIs.grown1 {w w' : World} {v : Value} {k : Int} {g : Nat} {t : TypeId} {cs : List Value} (h : FaultIs w v k) (hB : Blk w g t cs) (ht : t ≠ 97) (hg : w.grownBy w' (some g)) : FaultIs w' v k := by
  obtain ⟨b, s, e, hc⟩ := h
  refine ⟨b, s, e, ?_⟩
  rw [hg.block b (Array.getElem?_eq_some_iff.1 hc).1 (fun e => ?_)]
  · exact hc
  · injection e with e
    subst e
    have h2 := hB
    unfold Blk at h2
    rw [hc] at h2
    injection h2 with h2
    injection h2 with _ h3 _
    exact ht h3.symm
/-- A digit's value; what is none counts 0. -/
def digF (c : UInt8) : UInt8 := if 48 ≤ c.toNat ∧ c.toNat ≤ 57 then c - 48 else if 97 ≤ c.toNat ∧ c.toNat ≤ 102 then c - 97 + 10 else 0
theorem digF_idx (c : UInt8) : max 0 (Lib.indexByte hexL c) = ((digF c).toNat : Int) := by
  have h : ∀ i : Fin 256, max 0 (Lib.indexByte hexL ⟨⟨i⟩⟩) = ((digF ⟨⟨i⟩⟩).toNat : Int) := by decide +kernel
  exact h c.toBitVec.toFin
theorem digF_lt (c : UInt8) : (digF c).toNat < 16 := by
  have h : ∀ i : Fin 256, (digF ⟨⟨i⟩⟩).toNat < 16 := by decide +kernel
  exact h c.toBitVec.toFin
theorem shl_or (a d : UInt8) (h : d.toNat < 16) : (a <<< 4 ||| d) = a * 16 + d := by
  have h1 : ∀ d : Fin 16, ∀ a : Fin 256, (((⟨⟨a⟩⟩ : UInt8) <<< 4) ||| UInt8.ofNat d.1) = (⟨⟨a⟩⟩ : UInt8) * 16 + UInt8.ofNat d.1 := by decide +kernel
  have h2 := h1 ⟨d.toNat, h⟩ a.toBitVec.toFin
  simpa using h2
/-- The sum of the first k digits. -/
def pN (s : List UInt8) : Nat → List UInt8
  | 0 => Y32
  | k + 1 => (pN s k).set (k / 2) ((pN s k).getD (k / 2) 0 * 16 + digF (s.getD k 0))
theorem pN_length (s : List UInt8) : ∀ k, (pN s k).length = 32
  | 0 => rfl
  | k + 1 => by rw [pN, List.length_set, pN_length s k]
/-- What Parse answers. -/
def ParseIs (s o : List UInt8) (k : Nat) : Prop :=
  ∃ m : Nat, m = 64 ∧ (((s.length = m ∧ textF (pN s m) = s) ∧ o = pN s m ∧ k = 0) ∨ (¬ (s.length = m ∧ textF (pN s m) = s) ∧ o = Y32 ∧ k = 3))
theorem ParseIs.any (s : List UInt8) : ∃ o k, ParseIs s o k := by
  obtain ⟨m, hm⟩ : ∃ m : Nat, m = 64 := ⟨_, rfl⟩
  by_cases h : s.length = m ∧ textF (pN s m) = s
  · exact ⟨_, _, m, hm, .inl ⟨h, rfl, rfl⟩⟩
  · exact ⟨_, _, m, hm, .inr ⟨h, rfl, rfl⟩⟩
theorem ParseIs.length {s o : List UInt8} {k : Nat} (h : ParseIs s o k) : o.length = 32 := by
  obtain ⟨m, _, h⟩ := h
  rcases h with ⟨_, e, _⟩ | ⟨_, e, _⟩
  · rw [e]; exact pN_length _ _
  · rw [e]; rfl
/-- Either way in one: the digits' sum, and whether its text is the text. -/
theorem ParseIs.parts {s o : List UInt8} {k M : Nat} (h : ParseIs s o k) (hM : s.length = 64 → M = 64) :
    (textF (pN s M) = s ∧ o = pN s M ∧ k = 0) ∨ (textF (pN s M) ≠ s ∧ o = Y32 ∧ k = 3) := by
  obtain ⟨m, hm, h⟩ := h
  have hl := textF_length (pN s M)
  rw [pN_length] at hl
  rcases h with ⟨⟨h1, h2⟩, e1, e2⟩ | ⟨h1, e1, e2⟩
  · have : M = m := by omega
    rw [this]; exact .inl ⟨h2, e1, e2⟩
  · refine .inr ⟨fun e => h1 ?_, e1, e2⟩
    have h64 : s.length = 64 := by rw [← e, hl]
    have : M = m := by omega
    rw [← this]
    exact ⟨by omega, e⟩
theorem idx_str (sv : ByteArray) (k : Nat) (c : UInt8) (sl : List UInt8) (hs : sv = ⟨sl.toArray⟩) (hk : sl[k]? = some c) (w : World) : (Instr.index 9 (.string sv) (.int .i64 (k : Int))).run Tryd.prog w = .ok (B c) w := by
  subst hs
  have hl := (List.getElem?_eq_some_iff.1 hk).1
  have hn : (0 : Int) ≤ (k : Int) ∧ (k : Int) < sl.length := by omega
  have hz : (⟨sl.toArray⟩ : ByteArray).size = sl.length := rfl
  have hg : (⟨sl.toArray⟩ : ByteArray)[k]? = some c := by
    rw [getElem?_pos _ k (by rw [hz]; exact hl)]
    have := (List.getElem?_eq_some_iff.1 hk).2
    exact congrArg some this
  simp [Instr.index, run_underlying Tryd.underlying9, asIntOf, hn, go_sem, hg]
def RParInv (w0 : World) (p4 : Nat) (s : List UInt8) (M : Nat) (v5 : Value) (wr : World) : Prop :=
  ∃ k : Nat, k ≤ M ∧ v5 = .int .i64 (k : Nat) ∧ Blk wr p4 28 ((pN s k).map B) ∧ w0.grownBy wr (some p4)
set_option maxRecDepth 100000 in
set_option maxHeartbeats 2000000 in
theorem rparse_any (cso : List Value) (s o : List UInt8) (sv : ByteArray) (kf : Nat) (w : World) (hP : ParseIs s o kf) (hcs : cso = o.map B) (hsv : sv = ⟨s.toArray⟩) :
    Calls Tryd.prog 33 #[.string sv] w fun e w' => e = .returned (.tuple #[.agg cso.toArray, .int .i64 (kf : Nat)]) ∧ Below w.heap.size w w' := by
  have hsz : sv.size = s.length := by rw [hsv]; rfl
  obtain ⟨n, hn⟩ : ∃ n, s.length = n := ⟨_, rfl⟩
  rw [hn] at hsz
  obtain ⟨M, hM⟩ : ∃ M, (if n = 64 then 64 else 0) = M := ⟨_, rfl⟩
  have HP := Lib.hid (And.intro (hP.parts (M := M) (fun h => by rw [← hM, if_pos (by omega)])) (And.intro hcs (And.intro hsv (And.intro hn hM))))
  clear hP hcs hsv hn
  go_enter Tryd.func33, Tryd.ntmps33
  have hz1 := (Blk_new w (List.replicate 32 (B 0)) 28).alloc (.cells (List.replicate 32 (B 0)).toArray 28)
  have hz2 := Blk_new (w.alloc (.cells (List.replicate 32 (B 0)).toArray 28)) (List.replicate 32 (B 0)) 28
  have hb0 := ((Below.refl w.heap.size w).alloc (Nat.le_refl _) (.cells (List.replicate 32 (B 0)).toArray 28)).alloc (by simp) (.cells (List.replicate 32 (B 0)).toArray 28)
  simp only [World.size_alloc] at hz2
  go_upto_region 2 with fail
  change Code.wp _ _ _ _ ((w.alloc (.cells (List.replicate 32 (B 0)).toArray 28)).alloc (.cells (List.replicate 32 (B 0)).toArray 28))
  generalize ((w.alloc (.cells (List.replicate 32 (B 0)).toArray 28)).alloc (.cells (List.replicate 32 (B 0)).toArray 28)) = w0 at *
  have H0 := Lib.hid (And.intro hz1 (And.intro hz2 hb0))
  clear hz1 hz2 hb0
  go_wp2_with fail
  go_loopw [5, 6, 7] (fun v5 _ _ wr => RParInv w0 (w.heap.size + 1) s M v5 wr) (fun v5 _ _ _ => 64 - (intOf v5).toNat)
  case atStart => exact ⟨0, Nat.zero_le _, rfl, H0.out.2.1, World.grownBy.refl _ _⟩
  case round =>
    obtain ⟨k, hk, rfl, hz, hg⟩ := hrel
    have HS := Lib.hid (And.intro hz hg)
    clear hz hg
    by_cases hlt : k < M
    · obtain rfl : n = 64 := by split at hM <;> omega
      obtain rfl : M = 64 := by simpa using hM.symm
      clear hM
      obtain ⟨c, hc⟩ : ∃ c, s[k]? = some c := ⟨_, List.getElem?_eq_getElem (by have := HP.out.2.2.2.1; omega)⟩
      have hix := idx_str sv k c s HP.out.2.2.1 hc
      obtain ⟨a, ha⟩ : ∃ a, (pN s k)[k / 2]? = some a := ⟨_, List.getElem?_eq_getElem (by rw [pN_length]; omega)⟩
      have hnext : (pN s k).set (k / 2) (a * 16 + digF c) = pN s (k + 1) := by
        rw [pN, List.getD_eq_getElem?_getD, List.getD_eq_getElem?_getD, ha, hc]; rfl
      have hcell := HS.out.1.cellD (k / 2) (B a) (by rw [List.getElem?_map, ha]; rfl)
      have hfr := HS.out.1.frozen (k / 2)
      have hset := HS.out.1.set (k / 2) (B (a * 16 + digF c))
      rw [← List.map_set, hnext] at hset
      have hgs := grown_setC wr (w.heap.size + 1) (k / 2) (B (a * 16 + digF c))
      have hq : (k : Int).tdiv 2 = ((k / 2 : Nat) : Int) := by rw [Int.tdiv_eq_ediv_of_nonneg (by omega)]; rfl
      have hq32 : k / 2 < 32 := by omega
      have hdl := digF_lt c
      have hm1 : IntKind.u8.wrap ((a.toNat : Int) * 16) = ((a * 16).toNat : Int) := by
        simp only [IntKind.wrap, IntKind.bits, IntKind.signed, Bool.false_and, Bool.false_eq_true, if_false]; rw [UInt8.toNat_mul]; simp
      have hm2 : IntKind.u8.wrap (((a * 16).toNat : Int) + ((digF c).toNat : Int)) = ((a * 16 + digF c).toNat : Int) := by
        simp only [IntKind.wrap, IntKind.bits, IntKind.signed, Bool.false_and, Bool.false_eq_true, if_false]; rw [UInt8.toNat_add]; simp
      have hcl := c.toNat_lt
      have hcases : (48 ≤ c.toNat ∧ c.toNat ≤ 57 ∧ (digF c).toNat = c.toNat - 48) ∨ (97 ≤ c.toNat ∧ c.toNat ≤ 102 ∧ (digF c).toNat = c.toNat - 87) ∨ ((c.toNat < 48 ∨ (57 < c.toNat ∧ c.toNat < 97) ∨ 102 < c.toNat) ∧ (digF c).toNat = 0) := by
        have h : ∀ i : Fin 256, (48 ≤ i.1 ∧ i.1 ≤ 57 ∧ (digF ⟨⟨i⟩⟩).toNat = i.1 - 48) ∨ (97 ≤ i.1 ∧ i.1 ≤ 102 ∧ (digF ⟨⟨i⟩⟩).toNat = i.1 - 87) ∨ ((i.1 < 48 ∨ (57 < i.1 ∧ i.1 < 97) ∨ 102 < i.1) ∧ (digF ⟨⟨i⟩⟩).toNat = 0) := by decide +kernel
        exact h c.toBitVec.toFin
      have HN := Lib.hid (And.intro hset hgs)
      have hBv : B (a * 16 + digF c) = .int .u8 ((a * 16 + digF c).toNat : Nat) := rfl
      rw [hBv] at HN
      rw [show B a = .int .u8 (a.toNat : Nat) from rfl] at hcell
      rw [show B c = .int .u8 (c.toNat : Nat) from rfl] at hix
      generalize (a * 16 + digF c).toNat = m2 at *
      generalize (a * 16).toNat = m1 at *
      generalize (digF c).toNat = e at *
      generalize c.toNat = cn at *
      generalize k / 2 = q at *
      clear hset hgs hBv ha hnext hc
      have HK := Lib.hid hlt
      have hk64 : (k : Int) < 64 := by omega
      rcases hcases with ⟨h1, h2, h3⟩ | ⟨h1, h2, h3⟩ | ⟨h1, h3⟩
      · have f1 : (48 : Int) ≤ cn := by omega
        have f2 : (cn : Int) ≤ 57 := by omega
        have f3 : ¬ (97 : Int) ≤ cn := by omega
        have f4 : IntKind.u8.wrap ((cn : Int) - 48) = (e : Int) := by rw [h3, show (cn : Int) - 48 = ((cn - 48 : Nat) : Int) by omega]; exact u8_small _ (by omega)
        clear h1 h2 h3 hcl hdl hlt hk
        go_wp2_with fail
        go_roundw
        case rel => exact ⟨k + 1, HK.out, by go_num, HN.out.1, grown_trans HS.out.2 HN.out.2 (.inl rfl)⟩
        case measure => have := HK.out; simp [intOf]; omega
      · obtain ⟨j, hj⟩ : ∃ j, cn - 97 = j := ⟨_, rfl⟩
        have f1 : (48 : Int) ≤ cn := by omega
        have f2 : ¬ (cn : Int) ≤ 57 := by omega
        have f3 : (97 : Int) ≤ cn := by omega
        have f4 : (cn : Int) ≤ 102 := by omega
        have f5 : IntKind.u8.wrap ((cn : Int) - 97) = (j : Int) := by rw [show (cn : Int) - 97 = ((j : Nat) : Int) by omega]; exact u8_small _ (by omega)
        have f6 : IntKind.u8.wrap ((j : Int) + 10) = (e : Int) := by rw [h3, show (j : Int) + 10 = ((cn - 87 : Nat) : Int) by omega]; exact u8_small _ (by omega)
        clear h1 h2 h3 hcl hdl hlt hk hj
        go_wp2_with fail
        go_roundw
        case rel => exact ⟨k + 1, HK.out, by go_num, HN.out.1, grown_trans HS.out.2 HN.out.2 (.inl rfl)⟩
        case measure => have := HK.out; simp [intOf]; omega
      · subst h3
        rw [Int.natCast_zero, Int.add_zero] at hm2
        rcases h1 with h1 | ⟨h1, h2⟩ | h1
        · have f1 : ¬ (48 : Int) ≤ cn := by omega
          have f3 : ¬ (97 : Int) ≤ cn := by omega
          clear h1 hcl hdl hlt hk
          go_wp2_with fail
          go_roundw
          case rel => exact ⟨k + 1, HK.out, by go_num, HN.out.1, grown_trans HS.out.2 HN.out.2 (.inl rfl)⟩
          case measure => have := HK.out; simp [intOf]; omega
        · have f1 : (48 : Int) ≤ cn := by omega
          have f2 : ¬ (cn : Int) ≤ 57 := by omega
          have f3 : ¬ (97 : Int) ≤ cn := by omega
          clear h1 h2 hcl hdl hlt hk
          go_wp2_with fail
          go_roundw
          case rel => exact ⟨k + 1, HK.out, by go_num, HN.out.1, grown_trans HS.out.2 HN.out.2 (.inl rfl)⟩
          case measure => have := HK.out; simp [intOf]; omega
        · have f1 : (48 : Int) ≤ cn := by omega
          have f2 : ¬ (cn : Int) ≤ 57 := by omega
          have f3 : (97 : Int) ≤ cn := by omega
          have f4 : ¬ (cn : Int) ≤ 102 := by omega
          clear h1 hcl hdl hlt hk
          go_wp2_with fail
          go_roundw
          case rel => exact ⟨k + 1, HK.out, by go_num, HN.out.1, grown_trans HS.out.2 HN.out.2 (.inl rfl)⟩
          case measure => have := HK.out; simp [intOf]; omega
    · obtain rfl : k = M := by omega
      have hend : ¬ ((k : Int) < (n : Int)) ∨ ((k : Int) < (n : Int) ∧ ((n : Int) == 64) = false) := by
        by_cases h64 : n = 64
        · left; rw [if_pos h64] at hM; omega
        · by_cases h0 : n = 0
          · left; omega
          · right; rw [if_neg h64] at hM; subst hM; exact ⟨by omega, by rw [beq_eq_false_iff_ne]; omega⟩
      obtain ⟨H, hH⟩ : ∃ H, pN s k = H := ⟨_, rfl⟩
      have hHl := pN_length s k
      rw [hH] at hHl
      obtain ⟨csh, hcsh⟩ : ∃ cs, cs = H.map B := ⟨_, rfl⟩
      have hz := HS.out.1
      rw [hH, ← hcsh] at hz
      have hparts := HP.out.1
      rw [hH] at hparts
      have HCH := Lib.hid (And.intro hcsh (show (some 32 : Option Nat) = some csh.length by rw [hcsh, List.length_map, hHl]))
      have hb4 : Below w.heap.size w wr := H0.out.2.2.grown HS.out.2 H0.out.2.2.size (fun r e => by injection e with e; omega)
      have hz2 := H0.out.1.grown HS.out.2 (by simp)
      have H4 := Lib.hid (And.intro hb4 (And.intro hz2 (And.intro hHl (And.intro hz hparts))))
      clear hb4 hz2 hparts hcsh hHl hH hlt hk hM
      rcases hend with hend | ⟨hend, hend2⟩
      all_goals
        go_wp2_with (refine wpList_load_blk rfl 28 (.tmp 4) rfl (w.heap.size + 1) rfl 28 csh _ hz Tryd.underlying28 rfl (Eq.trans (by kernel_rfl) HCH.out.2) ?_)
        refine (rtext01_any csh H wr HCH.out.1 H4.out.2.2.1).mono ?_
        rintro e w5 ⟨rfl, hb5⟩
        obtain ⟨st, hst⟩ : ∃ st : ByteArray, st = ⟨(textF H).toArray⟩ := ⟨_, rfl⟩
        rw [← hst]
        have H5 := Lib.hid (And.intro (below_then H4.out.1 H4.out.1.size hb5) (And.intro (H4.out.2.1.below hb5) (And.intro (H4.out.2.2.2.1.below hb5) hst)))
        clear hb5 hst hz
        have hz5 := H5.out.2.2.1
        have hz6 := H5.out.2.1
        rcases H4.out.2.2.2.2 with ⟨h1, h2, rfl⟩ | ⟨h1, h2, rfl⟩
        · have hss : st = sv := by rw [H5.out.2.2.2, h1, HP.out.2.2.1]
          subst hss
          go_wp2_with (first
            | (refine wpList_load_blk rfl 28 (.tmp 4) rfl (w.heap.size + 1) rfl 28 csh _ hz5 Tryd.underlying28 rfl (Eq.trans (by kernel_rfl) HCH.out.2) ?_)
            | (refine wpList_store_blk rfl 28 (.tmp 2) (.tmp 54) rfl w.heap.size csh rfl rfl 28 _ hz6 (Eq.trans (by kernel_rfl) HCH.out.2) (by rw [List.length_replicate]; have := HCH.out.2; injection this) (by rw [HCH.out.1]; exact one_bytes) ?_; intro w6 hw6 hg6))
          refine bodyPost_ret (results_pair rfl _ _ w.heap.size 28 csh _ rfl hw6 Tryd.underlying28 rfl (Eq.trans (by kernel_rfl) HCH.out.2)) rfl ⟨?_, ?_⟩
          · rw [HP.out.2.1, h2, HCH.out.1]; rfl
          · exact H5.out.1.grown hg6 H5.out.1.size (fun r e => by injection e with e; omega)
        · have hss : (st.toList == sv.toList) = false := by
            rw [H5.out.2.2.2, HP.out.2.2.1, beq_eq_false_iff_ne]
            simpa using h1
          go_wp2_with (refine wpList_store_blk rfl 28 (.tmp 2) (.tmp 53) rfl w.heap.size (List.replicate 32 (B 0)) rfl rfl 28 _ hz6 (by kernel_rfl) rfl (by decide) ?_; intro w6 hw6 hg6)
          refine bodyPost_ret (results_pair rfl _ _ w.heap.size 28 (Y32.map B) _ rfl hw6 Tryd.underlying28 rfl (by kernel_rfl)) rfl ⟨?_, ?_⟩
          · rw [HP.out.2.1, h2]; rfl
          · exact H5.out.1.grown hg6 H5.out.1.size (fun r e => by injection e with e; omega)
theorem idxb_to (c : UInt8) (n : Nat) (ix : Int) (w : World) (hn : c.toNat = n) (hx : Lib.indexByte hexL c = ix) :
    Calls Tryd.prog 66 #[.string { data := #[48, 49, 50, 51, 52, 53, 54, 55, 56, 57, 97, 98, 99, 100, 101, 102] }, .int .u8 (n : Int)] w fun e w' => e = .returned (.int .i64 ix) ∧ w' = w := by
  subst hn
  subst hx
  have h := Tryd.strings_IndexByte hexA (c.toNat : Int) w
  rw [show ((c.toNat : Int)).toNat.toUInt8 = c by rw [Int.toNat_natCast]; exact UInt8.ofNat_toNat] at h
  exact h
theorem grown_drew1 {w w' : World} {r : Option Nat} (h : w.grownBy w' r) : w.grownBy w'.drew r := ⟨h.os, h.tape, h.output, h.size, h.block⟩
theorem text_to (cs : List Value) (h : List UInt8) (w : World) (hcs : cs = h.map B) (hl : h.length = 32) :
    Calls Tryd.prog 34 #[.agg cs.toArray] w fun e w' => e = .returned (.string ⟨(textF h).toArray⟩) ∧ Below w.heap.size w w' := by
  subst hcs
  exact text_any h hl w
def WParInv (w0 : World) (p4 : Nat) (s : List UInt8) (M : Nat) (v9 : Value) (wr : World) : Prop :=
  ∃ k : Nat, k ≤ M ∧ v9 = .int .i64 (k : Nat) ∧ Blk wr p4 28 ((pN s k).map B) ∧ w0.grownBy wr (some p4)
set_option maxRecDepth 100000 in
set_option maxHeartbeats 2000000 in
theorem wparse_any (cso : List Value) (s o : List UInt8) (sv : ByteArray) (kf : Nat) (w : World) (hP : ParseIs s o kf) (hcs : cso = o.map B) (hsv : sv = ⟨s.toArray⟩) :
    Calls Tryd.prog 32 #[.string sv] w fun e w' => ∃ v, e = .returned (.tuple #[.agg cso.toArray, v]) ∧ ((kf = 0 ∧ v = .nilIface) ∨ FaultIs w' v (kf : Int)) ∧ Below w.heap.size w w' := by
  have hsz : sv.size = s.length := by rw [hsv]; rfl
  obtain ⟨n, hn⟩ : ∃ n, s.length = n := ⟨_, rfl⟩
  rw [hn] at hsz
  obtain ⟨M, hM⟩ : ∃ M : Nat, min n 64 = M := ⟨_, rfl⟩
  have HP := Lib.hid (And.intro (hP.parts (M := M) (fun h => by omega)) (And.intro hcs (And.intro hsv (And.intro hn hM))))
  have hmin : min (n : Int) 64 = (M : Int) := by omega
  clear hP hcs hsv hn
  go_enter Tryd.func32, Tryd.ntmps32
  have hz1 := (Blk_new w (List.replicate 32 (B 0)) 28).alloc (.cells (List.replicate 32 (B 0)).toArray 28)
  have hz2 := Blk_new (w.alloc (.cells (List.replicate 32 (B 0)).toArray 28)) (List.replicate 32 (B 0)) 28
  have hb0 := ((Below.refl w.heap.size w).alloc (Nat.le_refl _) (.cells (List.replicate 32 (B 0)).toArray 28)).alloc (by simp) (.cells (List.replicate 32 (B 0)).toArray 28)
  simp only [World.size_alloc] at hz2
  go_upto_region 2 with fail
  change Code.wp _ _ _ _ ((w.alloc (.cells (List.replicate 32 (B 0)).toArray 28)).alloc (.cells (List.replicate 32 (B 0)).toArray 28))
  generalize ((w.alloc (.cells (List.replicate 32 (B 0)).toArray 28)).alloc (.cells (List.replicate 32 (B 0)).toArray 28)) = w0 at *
  have H0 := Lib.hid (And.intro hz1 (And.intro hz2 hb0))
  clear hz1 hz2 hb0
  go_wp2_with fail
  go_loopw [5, 9] (fun _ v9 wr => WParInv w0 (w.heap.size + 1) s M v9 wr) (fun _ v9 _ => 64 - (intOf v9).toNat)
  case atStart => exact ⟨0, Nat.zero_le _, rfl, H0.out.2.1, World.grownBy.refl _ _⟩
  case round =>
    obtain ⟨k, hk, rfl, hz, hg⟩ := hrel
    have HS := Lib.hid (And.intro hz hg)
    clear hz hg
    by_cases hlt : k < M
    · obtain ⟨c, hc⟩ : ∃ c, s[k]? = some c := ⟨_, List.getElem?_eq_getElem (by have := HP.out.2.2.2.1; omega)⟩
      have hix := idx_str sv k c s HP.out.2.2.1 hc
      obtain ⟨a, ha⟩ : ∃ a, (pN s k)[k / 2]? = some a := ⟨_, List.getElem?_eq_getElem (by rw [pN_length]; omega)⟩
      have hnext : (pN s k).set (k / 2) (a * 16 + digF c) = pN s (k + 1) := by
        rw [pN, List.getD_eq_getElem?_getD, List.getD_eq_getElem?_getD, ha, hc]; rfl
      have hset : ∀ w', Blk w' (w.heap.size + 1) 28 ((pN s k).map B) → Blk (w'.setCell ⟨w.heap.size + 1, k / 2, none⟩ (B (a * 16 + digF c))) (w.heap.size + 1) 28 ((pN s (k + 1)).map B) := fun w' h => by
        have := h.set (k / 2) (B (a * 16 + digF c))
        rwa [← List.map_set, hnext] at this
      have hq : (k : Int).tdiv 2 = ((k / 2 : Nat) : Int) := by rw [Int.tdiv_eq_ediv_of_nonneg (by omega)]; rfl
      have hq32 : k / 2 < 32 := by omega
      have hdl := digF_lt c
      have hmx := digF_idx c
      obtain ⟨ix, hxe⟩ : ∃ ix, Lib.indexByte hexL c = ix := ⟨_, rfl⟩
      rw [hxe] at hmx
      have hcell := HS.out.1.cellD (k / 2) (B a) (by rw [List.getElem?_map, ha]; rfl)
      have hfr := HS.out.1.frozen (k / 2)
      have hm1 : IntKind.u8.wrap ((a.toNat : Int) * 16) = ((a <<< 4).toNat : Int) := by
        simp only [IntKind.wrap, IntKind.bits, IntKind.signed, Bool.false_and, Bool.false_eq_true, if_false]; rw [UInt8.toNat_shiftLeft]; simp [Nat.shiftLeft_eq]
      have hm2 : bits .or .u8 ((a <<< 4).toNat : Int) ((digF c).toNat : Int) = ((a * 16 + digF c).toNat : Int) := by
        rw [or8, shl_or a _ hdl]
      have hw8 := u8_small (digF c).toNat (by omega)
      have HC := Lib.hid (And.intro hset hxe)
      have hcn : c.toNat = c.toNat := rfl
      rw [show B (a * 16 + digF c) = .int .u8 ((a * 16 + digF c).toNat : Nat) from rfl] at HC
      rw [show B a = .int .u8 (a.toNat : Nat) from rfl] at hcell
      rw [show B c = .int .u8 (c.toNat : Nat) from rfl] at hix
      generalize (a * 16 + digF c).toNat = m2 at *
      generalize (a <<< 4).toNat = m1 at *
      generalize (digF c).toNat = e at *
      generalize hcc : c.toNat = cn at *
      generalize k / 2 = q at *
      have HCN := Lib.hid hcc
      clear hset ha hnext hc hxe hcn hcc
      have HK := Lib.hid hlt
      have hk64 : (k : Int) < 64 := by omega
      clear hlt hk hdl
      go_wp2_with fail
      have hq32' : (q : Int) < 32 := by omega
      have hq00 : (0 : Int) ≤ (q : Int) := by omega
      have hwq := IntWalk.i64_in (q : Int) (by omega)
      have hwq' := IntWalk.wrap64_in (q : Int) (by omega)
      go_region_with (first | (go_at_call 66; refine (idxb_to c cn ix _ HCN.out HC.out.2).mono ?_; rintro e5 w5 ⟨rfl, rfl⟩))
      all_goals
        go_wp2_with fail
        go_roundw
        case rel => exact ⟨k + 1, HK.out, by go_num, (HC.out.1 wr HS.out.1).drew, grown_trans HS.out.2 (grown_drew1 (grown_setC wr (w.heap.size + 1) q (.int .u8 (m2 : Nat)))) (.inl rfl)⟩
        case measure => have := HK.out; simp [intOf]; omega
    · obtain rfl : k = M := by omega
      obtain ⟨H, hH⟩ : ∃ H, pN s k = H := ⟨_, rfl⟩
      have hHl := pN_length s k
      rw [hH] at hHl
      obtain ⟨csh, hcsh⟩ : ∃ cs, cs = H.map B := ⟨_, rfl⟩
      have hz := HS.out.1
      rw [hH, ← hcsh] at hz
      have hparts := HP.out.1
      rw [hH] at hparts
      have HCH := Lib.hid (And.intro hcsh (And.intro (show (some 32 : Option Nat) = some csh.length by rw [hcsh, List.length_map, hHl]) hHl))
      have hb4 : Below w.heap.size w wr := H0.out.2.2.grown HS.out.2 H0.out.2.2.size (fun r e => by injection e with e; omega)
      have hz2 := H0.out.1.grown HS.out.2 (by simp)
      have H4 := Lib.hid (And.intro hb4 (And.intro hz2 (And.intro hz hparts)))
      clear hb4 hz2 hparts hcsh hHl hH hlt hk hM
      go_wp2_with (refine wpList_load_blk rfl 28 (.tmp 4) rfl (w.heap.size + 1) rfl 28 csh _ hz Tryd.underlying28 rfl (Eq.trans (by kernel_rfl) HCH.out.2.1) ?_)
      refine (text_to csh H wr HCH.out.1 HCH.out.2.2).mono ?_
      rintro e w5 ⟨rfl, hb5⟩
      obtain ⟨st, hst⟩ : ∃ st : ByteArray, st = ⟨(textF H).toArray⟩ := ⟨_, rfl⟩
      rw [← hst]
      have H5 := Lib.hid (And.intro (below_then H4.out.1 H4.out.1.size hb5) (And.intro (H4.out.2.1.below hb5) (And.intro (H4.out.2.2.1.below hb5) hst)))
      clear hb5 hst hz
      have hz5 := H5.out.2.2.1
      have hz6 := H5.out.2.1
      rcases H4.out.2.2.2 with ⟨h1, h2, rfl⟩ | ⟨h1, h2, rfl⟩
      · have hss : st = sv := by rw [H5.out.2.2.2, h1, HP.out.2.2.1]
        subst hss
        go_wp2_with (first
          | (refine wpList_load_blk rfl 28 (.tmp 4) rfl (w.heap.size + 1) rfl 28 csh _ hz5 Tryd.underlying28 rfl (Eq.trans (by kernel_rfl) HCH.out.2.1) ?_)
          | (refine wpList_store_blk rfl 28 (.tmp 2) (.tmp 37) rfl w.heap.size csh rfl rfl 28 _ hz6 (Eq.trans (by kernel_rfl) HCH.out.2.1) (by rw [List.length_replicate]; have := HCH.out.2.1; injection this) (by rw [HCH.out.1]; exact one_bytes) ?_; intro w6 hw6 hg6))
        refine bodyPost_ret (results_pair rfl _ _ w.heap.size 28 csh _ rfl hw6 Tryd.underlying28 rfl (Eq.trans (by kernel_rfl) HCH.out.2.1)) rfl ⟨_, ?_, by first | exact .inl ⟨rfl, rfl⟩ | exact .inl rfl, ?_⟩
        · rw [HP.out.2.1, h2, HCH.out.1]; rfl
        · exact H5.out.1.grown hg6 H5.out.1.size (fun r e => by injection e with e; omega)
      · have hss : (st.toList == sv.toList) = false := by
          rw [H5.out.2.2.2, HP.out.2.2.1, beq_eq_false_iff_ne]
          simpa using h1
        obtain ⟨ts, hts⟩ : ∃ ts : ByteArray, ts = { data := #[115, 117, 109] } := ⟨_, rfl⟩
        have hf := FaultIs.new w5 { data := #[115, 117, 109] } 3
        have hz7 := hz6.alloc (.cells #[.string { data := #[115, 117, 109] }, .iface 91 (.int .i64 3)] 97)
        have hb7 : Below w5.heap.size w5 (w5.alloc (.cells #[.string { data := #[115, 117, 109] }, .iface 91 (.int .i64 3)] 97)) := (Below.refl _ _).alloc (Nat.le_refl _) _
        have H7 := Lib.hid (And.intro hf (And.intro hz7 (below_then H5.out.1 H5.out.1.size hb7)))
        clear hf hz7 hb7 hts
        go_wp2_with (refine wpList_store_blk rfl 28 (.tmp 2) (.tmp 32) rfl w.heap.size (List.replicate 32 (B 0)) rfl rfl 28 _ H7.out.2.1 (by kernel_rfl) rfl (by decide) ?_; intro w6 hw6 hg6)
        refine bodyPost_ret (results_pair rfl _ _ w.heap.size 28 (Y32.map B) _ rfl hw6 Tryd.underlying28 rfl (by kernel_rfl)) rfl ⟨_, ?_, by first | exact .inr (H7.out.1.grown1 H7.out.2.1 (by decide) hg6) | exact H7.out.1.grown1 H7.out.2.1 (by decide) hg6, ?_⟩
        · rw [HP.out.2.1, h2]; rfl
        · exact H7.out.2.2.grown hg6 H7.out.2.2.size (fun r e => by injection e with e; omega)
end Go.Proofs.YtcgdojdiihdkeaaDoor
