/- The walk of PackBack. -/
import Derived.Test.YtdmopnmifdjcnaaPackI
import Derived.Test.YtdmopnmifdjcnaaPackT2
import Derived.Test.YtdmopnmifdjcnaaEqH
import Derived.Deep.RegionHeld3
import Derived.Test.YtdmopnmifdjcnaaReg
namespace Go.Proofs.Ytdmopnmifdjcnaa
open Go Go.RowKit Go.Isth

theorem arrH : ArrB Try.prog 48 5 32 := ⟨Try.underlying48, Try.underlying5, by kernel_rfl, by kernel_rfl, by kernel_rfl⟩
theorem convB (A : Option Addr) (c : Nat) (bs : List UInt8) (w : World) (hr : Rd w A (bs.map B)) : (convert 23 9 (.slice A bs.length c)).run Try.prog w = .ok (.string ⟨bs.toArray⟩) w :=
  run_str Try.underlying23 Try.underlying5 Try.underlying9 A _ c bs w rfl hr

def u64N (n : Int) : Nat := (IntKind.u64.wrap n).toNat
theorem u64N_eq (n : Int) : IntKind.u64.wrap n = ((u64N n : Nat) : Int) ∧ u64N n < 18446744073709551616 := by
  unfold u64N
  simp only [IntKind.wrap, IntKind.bits, IntKind.signed, Bool.false_and, Bool.false_eq_true, if_false]
  omega

/-- One that came in. -/
def ThingOK (w : World) (ad : Addr) (t : ThingV) : Prop := ∃ (A : Option Addr) (c : Nat), (∀ j u, (thingCells t.k t.n (.slice A t.xs.length c) t.hs)[j]? = some u → w.cell? (ad.add j) = some u) ∧ Rd w A (t.xs.map B) ∧ (∀ ad, A = some ad → 0 < t.xs.length → ad.block < w.heap.size) ∧
  t.xs.length ≤ c ∧ t.xs.length ≤ 1048576 ∧ t.hs.length = 32 ∧ -9223372036854775808 ≤ t.n ∧ t.n < 9223372036854775808 ∧ ad.block < w.heap.size
def ThingsOK (w : World) (A0 : Option Addr) (ts : List ThingV) : Prop := ∀ i (hi : i < ts.length), ∃ b0 o0, A0 = some ⟨b0, o0, none⟩ ∧ ThingOK w ⟨b0, o0 + i * 35, none⟩ ts[i]

def encT (t : ThingV) : List UInt8 := varint (u64N t.n) ++ varint (zig t.n) ++ [if decide (0 < t.k) then 1 else 0] ++ (varint t.xs.length ++ t.xs) ++ t.hs ++ (varint t.xs.length ++ t.xs)
theorem encT_len (t : ThingV) (h1 : t.xs.length ≤ 1048576) (h2 : t.hs.length = 32) (h3 : -9223372036854775808 ≤ t.n) (h4 : t.n < 9223372036854775808) : (encT t).length ≤ 2097300 := by
  have a := varint_len10 _ (u64N_eq t.n).2
  have b := varint_len10 _ (zig_lt h3 h4)
  have c := varint_len10 t.xs.length (by omega)
  simp only [encT, List.length_append, List.length_cons, List.length_nil]
  omega

theorem wext_below {w wr w' : World} {b : Nat} {v v' : Value} {bs : List UInt8} (hW : WIs wr w.heap.size b v bs) (hx : WExt wr w' b v v') (hB : Below w.heap.size w wr) : Below w.heap.size w w' :=
  hB.trans (hx.below hW.at_ hW.small (fun k e => (hW.own.lt k e).1))

theorem uint_enc (n : Nat) (rest : List UInt8) (h : n < 18446744073709551616) : RS.uint ⟨varint n ++ rest, none⟩ 18446744073709551615 = (n, ⟨rest, none⟩) := by
  unfold RS.uint
  rw [if_neg (by simp), numF_varint n 10 0 0 rest (by omega) (by omega) (.inl rfl)]
  have e : 0 + n * 128 ^ 0 = n := by simp
  rw [e]
  have h2 : ¬ 18446744073709551615 < n := by omega
  simp [h2]
theorem take_enc (xs rest : List UInt8) : RS.take ⟨xs ++ rest, none⟩ xs.length = (xs, ⟨rest, none⟩) := by
  unfold RS.take
  rw [if_neg (by simp), if_neg (by simp)]
  simp
theorem bool_enc (b : Bool) (rest : List UInt8) : RS.bool ⟨(if b = true then (1 : UInt8) else 0) :: rest, none⟩ = (b, ⟨rest, none⟩) := by
  have e : RS.boolS ⟨(if b = true then (1 : UInt8) else 0) :: rest, none⟩ = ⟨(if b = true then (1 : UInt8) else 0) :: rest, none⟩ := by
    unfold RS.boolS
    rw [if_neg]
    rintro ⟨_, _, h⟩
    cases b <;> simp at h
  unfold RS.bool
  rw [e, show RS.take ⟨(if b = true then (1 : UInt8) else 0) :: rest, none⟩ 1 = ([if b = true then (1 : UInt8) else 0], ⟨rest, none⟩) from take_enc [if b = true then (1 : UInt8) else 0] rest]
  cases b <;> rfl
theorem bytes_enc (xs rest : List UInt8) (h : xs.length ≤ 1048576) : bytesS ⟨varint xs.length ++ (xs ++ rest), none⟩ (xs.length : Int) = (xs, ⟨rest, none⟩) := by
  unfold bytesS
  simp only [if_neg (show ¬ ((xs.length : Nat) : Int) < 0 by omega), uint_enc xs.length (xs ++ rest) (by omega), ne_eq, not_true_eq_false, if_false, List.length_append, take_enc]
  rw [if_neg (by omega), if_neg (by omega)]
theorem hash_enc (hs rest : List UInt8) (h : hs.length = 32) : hashS ⟨hs ++ rest, none⟩ = hs ∧ (RS.take ⟨hs ++ rest, none⟩ 32).2 = ⟨rest, none⟩ := by
  have e := take_enc hs rest
  rw [h] at e
  unfold hashS
  rw [e]
  exact ⟨if_pos h, rfl⟩

theorem encT_app (t : ThingV) (R : List UInt8) : encT t ++ R = varint (u64N t.n) ++ (varint (zig t.n) ++ ((if decide (0 < t.k) = true then (1 : UInt8) else 0) :: (varint t.xs.length ++ (t.xs ++ (t.hs ++ (varint t.xs.length ++ (t.xs ++ R))))))) := by
  simp [encT]
theorem flat_cons (ts : List ThingV) (k j : Nat) (h : j < k) (hk : k ≤ ts.length) : ((ts.take k).drop j).flatMap encT = encT ts[j] ++ ((ts.take k).drop (j + 1)).flatMap encT := by
  rw [List.drop_eq_getElem_cons (by simp; omega)]
  simp
def PRInv (w : World) (ts : List ThingV) (k r : Nat) (i : Value) (wr : World) : Prop :=
  ∃ j : Nat, i = .int .i64 j ∧ j ≤ k ∧ RIs wr r ⟨((ts.take k).drop j).flatMap encT, none⟩ ∧ Below w.heap.size w wr
def PBInv (w : World) (ts : List ThingV) (n : Nat) (i : Value) (wr : World) : Prop :=
  ∃ (k : Nat) (v : Value), i = .int .i64 k ∧ k ≤ n ∧ ((ts.take k).flatMap encT).length ≤ k * 2097300 ∧ WIs wr w.heap.size w.heap.size v ((ts.take k).flatMap encT) ∧ Below w.heap.size w wr

theorem flat_snoc (ts : List ThingV) (k : Nat) (h : k < ts.length) : (ts.take (k + 1)).flatMap encT = (ts.take k).flatMap encT ++ encT ts[k] := by
  rw [List.take_succ_eq_append_getElem h, List.flatMap_append]; simp

set_option linter.unusedSimpArgs false in
set_option maxRecDepth 100000 in
set_option maxHeartbeats 4000000 in
theorem packBack_any (A0 : Option Addr) (ts : List ThingV) (cap : Nat) (w : World) (hn : ts.length ≤ 1048576) (hl : ThingsOK w A0 ts) :
    Calls Try.prog 7 #[.slice A0 ts.length cap] w fun e w' => e = .returned (.bool true) ∧ Below w.heap.size w w' := by
  have HN := Lib.hid hn
  have HL := Lib.hid hl
  clear hn hl
  go_enter Try.func7, Try.ntmps7
  go_wp2_with fail
  refine (new_any w).mono ?_
  rintro e w1 ⟨rfl, hw1, hb1⟩
  have HW1 := Lib.hid hw1
  have HB1 := Lib.hid hb1
  clear hw1 hb1
  obtain ⟨N, hif, hNl, hN6⟩ : ∃ N : Nat, (if (60 : Int) < (ts.length : Int) then (60 : Int) else (ts.length : Int)) = (N : Int) ∧ N ≤ ts.length ∧ N ≤ 60 := by
    by_cases h : (60 : Int) < (ts.length : Int)
    · exact ⟨60, by rw [if_pos h]; rfl, by omega, Nat.le_refl _⟩
    · exact ⟨ts.length, by rw [if_neg h], Nat.le_refl _, by omega⟩
  have HNN := Lib.hid (And.intro hNl hN6)
  clear hNl hN6
  go_wp2_with fail
  clear hif
  go_loopw [5] (fun i wr => PBInv w ts N i wr) (fun i _ => N - (intOf i).toNat)
  case atStart => exact ⟨0, _, rfl, Nat.zero_le _, by simp, by simpa using HW1.out, HB1.out⟩
  case round =>
    obtain ⟨k, v, rfl, hk, hbl, hW, hB⟩ := hrel
    by_cases hlt : k < N
    · have hkl : k < ts.length := Nat.lt_of_lt_of_le hlt HNN.out.1
      obtain ⟨b0, o0, rfl, A, c, hcells, hr, hA, hc, hx, hh, h0, h1, hblk⟩ := HL.out k hkl
      have hsnoc := flat_snoc ts k hkl
      generalize (ts.take k).flatMap encT = bs at *
      generalize ts[k] = t at *
      obtain ⟨cs, hcs⟩ : ∃ cs, cs = t.hs.map B := ⟨_, rfl⟩
      have hcl : cs.length = 32 := by rw [hcs]; simpa using hh
      have hc1 : ∀ u ∈ cs, u.oneCell' = true := by rw [hcs]; exact one_bytes
      have hi48 : (Try.prog.info? 48).map (·.size) = some cs.length := by rw [hcl]; kernel_rfl
      have hu48 := Try.underlying48
      obtain ⟨hwn, hwl⟩ := u64N_eq t.n
      have hkni : (k : Int) < (ts.length : Int) := by omega
      have hkNi : (k : Int) < (N : Int) := by omega
      have hkb : (k : Int) ≤ 60 := by have := HNN.out.2; omega
      have hTS : ∀ w', Below w.heap.size w w' → (w'.cell? ⟨b0, o0 + k * 35, none⟩ = some (.int .i64 t.k) ∧ w'.cell? ⟨b0, o0 + k * 35 + 1, none⟩ = some (.int .i64 t.n) ∧ w'.cell? ⟨b0, o0 + k * 35 + 2, none⟩ = some (.slice A t.xs.length c) ∧ w'.rangeAt b0 (o0 + k * 35 + 3) cs ∧ (convert 23 9 (.slice A t.xs.length c)).run Try.prog w' = .ok (.string ⟨t.xs.toArray⟩) w') := by
        intro w' hb
        have hce : ∀ j u, (thingCells t.k t.n (.slice A t.xs.length c) t.hs)[j]? = some u → w'.cell? ⟨b0, o0 + k * 35 + j, none⟩ = some u := fun j u hu => by
          rw [← add_plain]
          exact (hb.cell (by rw [Addr.add_block]; exact hblk)).trans (hcells j u hu)
        refine ⟨hce 0 _ rfl, hce 1 _ rfl, hce 2 _ rfl, fun j u hu => ?_, convB A c t.xs w' (hr.below hb)⟩
        rw [Nat.add_assoc]
        refine hce (3 + j) u ?_
        rw [Nat.add_comm 3 j]
        simpa [thingCells, hcs] using hu
      have hLB : bs.length ≤ 35184372088832 ∧ (bs ++ varint (u64N t.n)).length ≤ 35184372088832 ∧ (bs ++ varint (u64N t.n) ++ varint (zig t.n)).length ≤ 35184372088832 ∧ (bs ++ varint (u64N t.n) ++ varint (zig t.n) ++ [if decide (0 < t.k) = true then 1 else 0]).length + t.xs.length ≤ 17592186044416 ∧ (bs ++ varint (u64N t.n) ++ varint (zig t.n) ++ [if decide (0 < t.k) = true then 1 else 0] ++ (varint t.xs.length ++ t.xs)).length ≤ 35184372088832 ∧ (bs ++ varint (u64N t.n) ++ varint (zig t.n) ++ [if decide (0 < t.k) = true then 1 else 0] ++ (varint t.xs.length ++ t.xs) ++ t.hs).length + (ByteArray.mk t.xs.toArray).data.toList.length ≤ 17592186044416 := by
        have a := varint_len10 _ hwl
        have b := varint_len10 _ (zig_lt h0 h1)
        have d := varint_len10 t.xs.length (by omega)
        have e60 : k ≤ 60 := Nat.le_trans hk HNN.out.2
        simp only [List.length_append, List.length_cons, List.length_nil]
        omega
      have HLB := Lib.hid hLB
      clear hLB
      have HTS := Lib.hid hTS
      have HCS := Lib.hid hcs
      have HS := Lib.hid (And.intro hW (And.intro hB (And.intro hbl hsnoc)))
      have HT := Lib.hid (And.intro hr (And.intro hA (And.intro hx (And.intro hh (And.intro h0 h1)))))
      have HK := Lib.hid (And.intro hlt (And.intro hwl hkl))
      clear hTS hcs hW hB hbl hr hA hx hh h0 h1 hcells hsnoc hlt hwl hkl hblk hc hk
      go_wp2_with fail
      go_region_held3 (fun w' => w'.cell? ⟨b0, o0 + k * 35, none⟩ = some (.int .i64 t.k) ∧ w'.cell? ⟨b0, o0 + k * 35 + 1, none⟩ = some (.int .i64 t.n) ∧ w'.cell? ⟨b0, o0 + k * 35 + 2, none⟩ = some (.slice A t.xs.length c) ∧ w'.rangeAt b0 (o0 + k * 35 + 3) cs ∧ (convert 23 9 (.slice A t.xs.length c)).run Try.prog w' = .ok (.string ⟨t.xs.toArray⟩) w')
        (first | exact HTS.out _ (below_drewN HS.out.2.1 1) | exact HTS.out _ H7.out.2 | exact HTS.out _ H6.out.2 | exact HTS.out _ H5.out.2 | exact HTS.out _ H4.out.2 | exact HTS.out _ H3.out.2 | exact HTS.out _ H2.out.2)
        (first
          | (go_at_call 16; refine (uint_any (u64N t.n) w.heap.size v bs w.heap.size _ HK.out.2.1 ?_ ?_).mono ?_; exact HS.out.1.drewN 1; exact HLB.out.1; rintro e w2 ⟨rfl, v2, hW2, hx2⟩; have H2 := Lib.hid (And.intro hW2 (wext_below (HS.out.1.drewN 1) hx2 (below_drewN HS.out.2.1 1))); clear hW2 hx2)
          | (go_at_call 22; refine (int_any t.n w.heap.size v2 _ w.heap.size _ HT.out.2.2.2.2.1 HT.out.2.2.2.2.2 H2.out.1 HLB.out.2.1).mono ?_; rintro e w3 ⟨rfl, v3, hW3, hx3⟩; have H3 := Lib.hid (And.intro hW3 (wext_below H2.out.1 hx3 H2.out.2)); clear hW3 hx3)
          | (go_at_call 18; refine (bool_any (decide (0 < t.k)) w.heap.size v3 _ w.heap.size _ H3.out.1 HLB.out.2.2.1).mono ?_; rintro e w4 ⟨rfl, v4, hW4, hx4⟩; have H4 := Lib.hid (And.intro hW4 (wext_below H3.out.1 hx4 H3.out.2)); clear hW4 hx4)
          | (go_at_call 24; refine (bytes_any A c w.heap.size v4 _ t.xs w.heap.size _ H4.out.1 HLB.out.2.2.2.1 (HT.out.1.below H4.out.2) ?_).mono ?_; exact fun ad e h0 => ⟨Nat.ne_of_lt (HT.out.2.1 ad e h0), fun e' => Nat.not_le_of_lt (HT.out.2.1 ad e h0) (H4.out.1.own.lt _ e').1⟩; rintro e w5 ⟨rfl, v5, hW5, hx5⟩; have H5 := Lib.hid (And.intro hW5 (wext_below H4.out.1 hx5 H4.out.2)); clear hW5 hx5)
          | (go_at_call 19; rw [HCS.out]; refine (hash_any t.hs w.heap.size v5 _ w.heap.size _ HT.out.2.2.2.1 H5.out.1 HLB.out.2.2.2.2.1).mono ?_; rintro e w6 ⟨rfl, v6, hW6, hx6⟩; have H6 := Lib.hid (And.intro hW6 (wext_below H5.out.1 hx6 H5.out.2)); clear hW6 hx6)
          | (go_at_call 23; refine (text_any ⟨t.xs.toArray⟩ w.heap.size v6 _ w.heap.size _ H6.out.1 HLB.out.2.2.2.2.2).mono ?_; rintro e w7 ⟨rfl, v7, hW7, hx7⟩; have H7 := Lib.hid (And.intro hW7 (wext_below H6.out.1 hx7 H6.out.2)); clear hW7 hx7))
      go_wp2
      go_roundw
      case rel =>
        refine ⟨k + 1, v7, by simp, HK.out.1, ?_, ?_, H7.out.2⟩
        · rw [HS.out.2.2.2, List.length_append]
          have := encT_len t HT.out.2.2.1 HT.out.2.2.2.1 HT.out.2.2.2.2.1 HT.out.2.2.2.2.2
          have := HS.out.2.2.1
          omega
        · rw [HS.out.2.2.2]
          have h := H7.out.1
          simp only [List.append_assoc] at h
          simpa [encT, List.append_assoc] using h
      case measure => have := HK.out.1; simp [intOf]; omega
    · obtain rfl : k = N := by omega
      have HS := Lib.hid (And.intro hW (And.intro hB hbl))
      have HN6 := Lib.hid (And.intro HNN.out.1 HNN.out.2)
      clear hW hB hbl hlt hk
      generalize hbs : (ts.take k).flatMap encT = bs at *
      have HBS := Lib.hid hbs
      clear hbs
      go_wp2_with fail
      refine (done_any _ v bs w.heap.size wr HS.out.1 (by have := HS.out.2.2; have := HN6.out.2; omega)).mono ?_
      rintro e w5 ⟨v5, rfl, ho5, hb5⟩
      obtain ⟨A5, c5, rfl, hc5, hr5, _⟩ := own_slice ho5
      have HB5 := Lib.hid (below_then HS.out.2.1 HS.out.2.1.size hb5)
      have HR5 := Lib.hid (And.intro hr5 hc5)
      clear hr5 hc5 ho5 hb5
      go_wp2_with fail
      refine (read_any A5 c5 bs w5 HR5.out.1 HR5.out.2 (by have := HS.out.2.2; have := HN6.out.2; omega)).mono ?_
      rintro e w6 ⟨rfl, hr6, hb6⟩
      rw [← HBS.out] at hr6
      have H6 := Lib.hid (And.intro hr6 (And.intro (below_then HB5.out HB5.out.size hb6) HB5.out.size))
      clear hr6 hb6
      generalize w5.heap.size = r at *
      go_wp2_with fail
      go_loopw [7, 8] (fun i _ wr => PRInv w ts k r i wr) (fun i _ _ => k - (intOf i).toNat)
      case atStart => exact ⟨0, rfl, Nat.zero_le _, H6.out.1, H6.out.2.1⟩
      case round =>
        obtain ⟨j, rfl, hj, hR, hB⟩ := hrel
        by_cases hlt : j < k
        · have hjl : j < ts.length := Nat.lt_of_lt_of_le hlt HN6.out.1
          obtain ⟨b0, o0, rfl, A, c, hcells, hr, hA, hc, hx, hh, h0, h1, hblk⟩ := HL.out j hjl
          rw [flat_cons ts k j hlt HN6.out.1] at hR
          generalize hRR : ((ts.take k).drop (j + 1)).flatMap encT = R at *
          have HRR := Lib.hid hRR
          clear hRR
          generalize ts[j] = t at *
          have hld : (loadVar 53 ⟨b0, o0 + j * 35, none⟩).run Try.prog wr = .ok (.agg (thingCells t.k t.n (.slice A t.xs.length c) t.hs).toArray) wr := run_load_agg (n := 35) Try.underlying53 rfl (by kernel_rfl) wr _ (thingCells t.k t.n (.slice A t.xs.length c) t.hs) (by simp [thingCells, hh]) (fun i u hu => (hB.cell (by rw [Addr.add_block]; exact hblk)).trans (hcells i u hu))
          have hjl' : (j : Int) < (ts.length : Int) := by omega
          have hjk : (j : Int) < (k : Int) := by omega
          have hjb : (j : Int) ≤ 60 := by have := HN6.out.2; omega
          have HSZ := Lib.hid (show (some 35 : Option Nat) = some (thingCells t.k t.n (.slice A t.xs.length c) t.hs).length by simp [thingCells, hh])
          have HOL := Lib.hid (show ((35 : Nat) = (thingCells t.k t.n (.slice A t.xs.length c) t.hs).length) by simp [thingCells, hh])
          have HOC := Lib.hid (show ∀ u ∈ thingCells t.k t.n (.slice A t.xs.length c) t.hs, u.oneCell' = true by
            intro u hu
            simp only [thingCells, List.mem_cons] at hu
            rcases hu with rfl | rfl | rfl | hu
            · rfl
            · rfl
            · rfl
            · exact one_bytes u hu)
          have HS2 := Lib.hid (And.intro hR hB)
          have HT := Lib.hid (And.intro hr (And.intro hA (And.intro hx (And.intro hh (And.intro h0 h1)))))
          have HK := Lib.hid (And.intro hlt hjl)
          clear hR hB hr hA hx hh h0 h1 hcells hlt hjl hblk hc hj
          go_upto_region 16 with (first
            | refine wpList_load rfl (.tmp 72) rfl _ _ rfl hld ?_
            | (refine wpList_store_blk rfl 53 (.tmp 8) (.tmp 73) rfl wr.heap.size (thingCells t.k t.n (.slice A t.xs.length c) t.hs) rfl rfl 53 _ (heap_alloc_new wr _) (Eq.trans (by kernel_rfl) HSZ.out) (Eq.trans rfl HOL.out) HOC.out ?_; intro w3 hw3 hg3))
          have hb3 : Below wr.heap.size wr w3 := ((Below.refl wr.heap.size wr).alloc (Nat.le_refl _) _).grown hg3 (by rw [World.size_alloc]; omega) (fun k' e => by injection e with e; omega)
          have hR3 := HS2.out.1.below hb3
          rw [encT_app] at hR3
          have hrp := HS2.out.1.lt
          have hwp := HS2.out.2.size
          have hB3 := below_trans HS2.out.2 hb3
          clear hg3 hld hb3
          generalize wr.heap.size = p at *
          obtain ⟨cs, hcs⟩ : ∃ cs, cs = t.hs.map B := ⟨_, rfl⟩
          have hcl : cs.length = 32 := by rw [hcs]; simpa using HT.out.2.2.2.1
          have hc1 : ∀ u ∈ cs, u.oneCell' = true := by rw [hcs]; exact one_bytes
          have hi48 : (Try.prog.info? 48).map (·.size) = some cs.length := by rw [hcl]; kernel_rfl
          have hu48 := Try.underlying48
          obtain ⟨hwn, hwl⟩ := u64N_eq t.n
          have hq48 : ∀ w : World, (binOp .neq 48 (.agg cs.toArray) (.agg cs.toArray)).run Try.prog w = .ok (.bool false) w := fun w => by
            rw [hcs, run_neq_bytes arrH w t.hs t.hs HT.out.2.2.2.1 HT.out.2.2.2.1]; simp
          have hTS : ∀ w', Below w.heap.size w w' → Blk w' p 53 (thingCells t.k t.n (.slice A t.xs.length c) t.hs) → (w'.cell? ⟨p, 0, none⟩ = some (.int .i64 t.k) ∧ w'.cell? ⟨p, 1, none⟩ = some (.int .i64 t.n) ∧ w'.cell? ⟨p, 2, none⟩ = some (.slice A t.xs.length c) ∧ w'.rangeAt p 3 cs ∧ (convert 23 9 (.slice A t.xs.length c)).run Try.prog w' = .ok (.string ⟨t.xs.toArray⟩) w') := by
            intro w' hb hk
            refine ⟨hk.cellD 0 _ rfl, hk.cellD 1 _ rfl, hk.cellD 2 _ rfl, fun j u hu => ?_, convB A c t.xs w' (HT.out.1.below hb)⟩
            refine hk.cellD (3 + j) u ?_
            rw [Nat.add_comm 3 j]
            simpa [thingCells, hcs] using hu
          have HTS := Lib.hid hTS
          have HCS := Lib.hid hcs
          have HU := Lib.hid (uint_enc (u64N t.n) (varint (zig t.n) ++ ((if decide (0 < t.k) = true then (1 : UInt8) else 0) :: (varint t.xs.length ++ (t.xs ++ (t.hs ++ (varint t.xs.length ++ (t.xs ++ R))))))) hwl)
          have HI := Lib.hid (uint_enc (zig t.n) ((if decide (0 < t.k) = true then (1 : UInt8) else 0) :: (varint t.xs.length ++ (t.xs ++ (t.hs ++ (varint t.xs.length ++ (t.xs ++ R)))))) (zig_lt HT.out.2.2.2.2.1 HT.out.2.2.2.2.2))
          have HBo := Lib.hid (bool_enc (decide (0 < t.k)) (varint t.xs.length ++ (t.xs ++ (t.hs ++ (varint t.xs.length ++ (t.xs ++ R))))))
          have HBy := Lib.hid (bytes_enc t.xs (t.hs ++ (varint t.xs.length ++ (t.xs ++ R))) HT.out.2.2.1)
          have HHa := Lib.hid (hash_enc t.hs (varint t.xs.length ++ (t.xs ++ R)) HT.out.2.2.2.1)
          have HTx := Lib.hid (bytes_enc t.xs R HT.out.2.2.1)
          have HRB : Hid (w.heap.size ≤ r ∧ (some r : Option Nat) ≠ some p ∧ (t.xs.length : Int) < 9223372036854775808) := Lib.hid ⟨H6.out.2.2, by simp; omega, by have := HT.out.2.2.1; omega⟩
          have KB : Hid (∀ wa wb : World, Below w.heap.size w wa → wa.grownBy wb (some r) → Below w.heap.size w wb) := Lib.hid (fun wa wb hb hg => hb.grown hg hb.size (fun k' e => by injection e with e; rw [← e]; exact HRB.out.1))
          have HW3 := Lib.hid (And.intro hR3 (And.intro hB3 hw3))
          clear hTS hcs hwl hR3 hrp hwp hB3 hw3
          refine wp_region_noPanic ?_
          refine wp_region_held_drew (S := (fun w' => w'.cell? ⟨p, 0, none⟩ = some (.int .i64 t.k) ∧ w'.cell? ⟨p, 1, none⟩ = some (.int .i64 t.n) ∧ w'.cell? ⟨p, 2, none⟩ = some (.slice A t.xs.length c) ∧ w'.rangeAt p 3 cs ∧ (convert 23 9 (.slice A t.xs.length c)).run Try.prog w' = .ok (.string ⟨t.xs.toArray⟩) w')) (by kernel_rfl) ?qs0 (fun hHeld => ?_)
          case qs0 => exact HTS.out _ (below_drewN HW3.out.2.1 1) HW3.out.2.2.drew
          refine held_take (i := 0) (v := ?qv0) rfl (by kernel_rfl) (by kernel_rfl) (by kernel_rfl) (fun _ _ _ h => h) (by rfl) ?qy0 hHeld ?_
          case qy0 => ((intro w _hSw; (try dsimp only at _hSw); go_simp); try (with_reducible rfl))
          try simp only [Act.put, List.setIfInBounds_toArray, List.set_cons_zero, List.set_cons_succ]
          refine held_take (i := 2) (v := ?qv2) rfl (by kernel_rfl) (by kernel_rfl) (by kernel_rfl) (fun _ _ _ h => h) (by rfl) ?qy2 hHeld ?_
          case qy2 => ((intro w _hSw; (try dsimp only at _hSw); go_simp); try (with_reducible rfl))
          try simp only [Act.put, List.setIfInBounds_toArray, List.set_cons_zero, List.set_cons_succ]
          refine held_take (i := 3) (v := ?qv3) rfl (by kernel_rfl) (by kernel_rfl) (by kernel_rfl) (fun _ _ _ h => h) (by rfl) ?qy3 hHeld ?_
          case qy3 => ((intro w _hSw; (try dsimp only at _hSw); go_simp); try (with_reducible rfl))
          try simp only [Act.put, List.setIfInBounds_toArray, List.set_cons_zero, List.set_cons_succ]
          refine held_take (i := 4) (v := ?qv4) rfl (by kernel_rfl) (by kernel_rfl) (by kernel_rfl) (fun _ _ _ h => h) (by rfl) ?qy4 hHeld ?_
          case qy4 => ((intro w _hSw; (try dsimp only at _hSw); go_simp); try (with_reducible rfl))
          try simp only [Act.put, List.setIfInBounds_toArray, List.set_cons_zero, List.set_cons_succ]
          refine held_step (i := 1) rfl (by kernel_rfl) (by rfl) (fun K hK => ?_)
          go_simp
          refine (ruint_any r _ 18446744073709551615 _ (HW3.out.1.below (refl_drewN _ 1))).mono ?_
          rintro e w4 ⟨rfl, h4, g4⟩
          rw [HU.out] at h4
          rw [HU.out]
          have G4 := Lib.hid (And.intro h4 (And.intro (KB.out _ _ (below_drewN HW3.out.2.1 1) g4) (HW3.out.2.2.drew.grown g4 HRB.out.2.1)))
          clear h4 g4
          go_wp2_with fail
          have hHeld := HTS.out _ G4.out.2.1 G4.out.2.2
          refine hK.out _ _ (HTS.out _ G4.out.2.1 G4.out.2.2) ?_
          clear hK K
          try simp only [Act.put, List.setIfInBounds_toArray, List.set_cons_zero, List.set_cons_succ]
          refine held_take (i := 5) (v := ?qv5) rfl (by kernel_rfl) (by kernel_rfl) (by kernel_rfl) (fun _ _ _ h => h) (by rfl) ?qy5 hHeld ?_
          case qy5 => ((intro w _hSw; (try dsimp only at _hSw); go_simp); try (with_reducible rfl))
          try simp only [Act.put, List.setIfInBounds_toArray, List.set_cons_zero, List.set_cons_succ]
          refine held_take (i := 6) (v := ?qv6) rfl (by kernel_rfl) (by kernel_rfl) (by kernel_rfl) (fun _ _ _ h => h) (by rfl) ?qy6 hHeld ?_
          case qy6 => ((intro w _hSw; (try dsimp only at _hSw); go_simp); try (with_reducible rfl))
          try simp only [Act.put, List.setIfInBounds_toArray, List.set_cons_zero, List.set_cons_succ]
          refine held_take (i := 7) (v := ?qv7) rfl (by kernel_rfl) (by kernel_rfl) (by kernel_rfl) (fun _ _ _ h => h) (by rfl) ?qy7 hHeld ?_
          case qy7 => ((intro w _hSw; (try dsimp only at _hSw); go_simp); try (with_reducible rfl))
          try simp only [Act.put, List.setIfInBounds_toArray, List.set_cons_zero, List.set_cons_succ]
          refine held_take (i := 9) (v := ?qv9) rfl (by kernel_rfl) (by kernel_rfl) (by kernel_rfl) (fun _ _ _ h => h) (by rfl) ?qy9 hHeld ?_
          case qy9 => ((intro w _hSw; (try dsimp only at _hSw); go_simp); try (with_reducible rfl))
          try simp only [Act.put, List.setIfInBounds_toArray, List.set_cons_zero, List.set_cons_succ]
          refine held_take (i := 10) (v := ?qv10) rfl (by kernel_rfl) (by kernel_rfl) (by kernel_rfl) (fun _ _ _ h => h) (by rfl) ?qy10 hHeld ?_
          case qy10 => ((intro w _hSw; (try dsimp only at _hSw); go_simp); try (with_reducible rfl))
          try simp only [Act.put, List.setIfInBounds_toArray, List.set_cons_zero, List.set_cons_succ]
          refine held_step (i := 8) rfl (by kernel_rfl) (by rfl) (fun K hK => ?_)
          go_simp
          refine (rint_any r _ _ G4.out.1).mono ?_
          rintro e w5 ⟨rfl, h5, g5⟩
          rw [HI.out] at h5
          rw [HI.out, unzig_zig]
          have G5 := Lib.hid (And.intro h5 (And.intro (KB.out _ _ G4.out.2.1 g5) (G4.out.2.2.grown g5 HRB.out.2.1)))
          clear h5 g5
          go_wp2_with fail
          have hHeld := HTS.out _ G5.out.2.1 G5.out.2.2
          refine hK.out _ _ (HTS.out _ G5.out.2.1 G5.out.2.2) ?_
          clear hK K
          try simp only [Act.put, List.setIfInBounds_toArray, List.set_cons_zero, List.set_cons_succ]
          refine held_take (i := 11) (v := ?qv11) rfl (by kernel_rfl) (by kernel_rfl) (by kernel_rfl) (fun _ _ _ h => h) (by rfl) ?qy11 hHeld ?_
          case qy11 => ((intro w _hSw; (try dsimp only at _hSw); go_simp); try (with_reducible rfl))
          try simp only [Act.put, List.setIfInBounds_toArray, List.set_cons_zero, List.set_cons_succ]
          refine held_take (i := 12) (v := ?qv12) rfl (by kernel_rfl) (by kernel_rfl) (by kernel_rfl) (fun _ _ _ h => h) (by rfl) ?qy12 hHeld ?_
          case qy12 => ((intro w _hSw; (try dsimp only at _hSw); go_simp); try (with_reducible rfl))
          try simp only [Act.put, List.setIfInBounds_toArray, List.set_cons_zero, List.set_cons_succ]
          refine held_take (i := 13) (v := ?qv13) rfl (by kernel_rfl) (by kernel_rfl) (by kernel_rfl) (fun _ _ _ h => h) (by rfl) ?qy13 hHeld ?_
          case qy13 => ((intro w _hSw; (try dsimp only at _hSw); go_simp); try (with_reducible rfl))
          try simp only [Act.put, List.setIfInBounds_toArray, List.set_cons_zero, List.set_cons_succ]
          refine held_take (i := 14) (v := ?qv14) rfl (by kernel_rfl) (by kernel_rfl) (by kernel_rfl) (fun _ _ _ h => h) (by rfl) ?qy14 hHeld ?_
          case qy14 => ((intro w _hSw; (try dsimp only at _hSw); go_simp); try (with_reducible rfl))
          try simp only [Act.put, List.setIfInBounds_toArray, List.set_cons_zero, List.set_cons_succ]
          refine held_take (i := 16) (v := ?qv16) rfl (by kernel_rfl) (by kernel_rfl) (by kernel_rfl) (fun _ _ _ h => h) (by rfl) ?qy16 hHeld ?_
          case qy16 => ((intro w _hSw; (try dsimp only at _hSw); go_simp); try (with_reducible rfl))
          try simp only [Act.put, List.setIfInBounds_toArray, List.set_cons_zero, List.set_cons_succ]
          refine held_take (i := 17) (v := ?qv17) rfl (by kernel_rfl) (by kernel_rfl) (by kernel_rfl) (fun _ _ _ h => h) (by rfl) ?qy17 hHeld ?_
          case qy17 => ((intro w _hSw; (try dsimp only at _hSw); go_simp); try (with_reducible rfl))
          try simp only [Act.put, List.setIfInBounds_toArray, List.set_cons_zero, List.set_cons_succ]
          refine held_take (i := 18) (v := ?qv18) rfl (by kernel_rfl) (by kernel_rfl) (by kernel_rfl) (fun _ _ _ h => h) (by rfl) ?qy18 hHeld ?_
          case qy18 => ((intro w _hSw; (try dsimp only at _hSw); go_simp); try (with_reducible rfl))
          try simp only [Act.put, List.setIfInBounds_toArray, List.set_cons_zero, List.set_cons_succ]
          refine held_step (i := 15) rfl (by kernel_rfl) (by rfl) (fun K hK => ?_)
          go_simp
          refine (rbool_any r _ _ G5.out.1).mono ?_
          rintro e w6 ⟨rfl, h6, g6⟩
          rw [HBo.out] at h6
          rw [HBo.out]
          have G6 := Lib.hid (And.intro h6 (And.intro (KB.out _ _ G5.out.2.1 g6) (G5.out.2.2.grown g6 HRB.out.2.1)))
          clear h6 g6
          go_wp2_with fail
          have hHeld := HTS.out _ G6.out.2.1 G6.out.2.2
          refine hK.out _ _ (HTS.out _ G6.out.2.1 G6.out.2.2) ?_
          clear hK K
          try simp only [Act.put, List.setIfInBounds_toArray, List.set_cons_zero, List.set_cons_succ]
          refine held_take (i := 19) (v := ?qv19) rfl (by kernel_rfl) (by kernel_rfl) (by kernel_rfl) (fun _ _ _ h => h) (by rfl) ?qy19 hHeld ?_
          case qy19 => ((intro w _hSw; (try dsimp only at _hSw); go_simp); try (with_reducible rfl))
          try simp only [Act.put, List.setIfInBounds_toArray, List.set_cons_zero, List.set_cons_succ]
          refine held_take (i := 20) (v := ?qv20) rfl (by kernel_rfl) (by kernel_rfl) (by kernel_rfl) (fun _ _ _ h => h) (by rfl) ?qy20 hHeld ?_
          case qy20 => ((intro w _hSw; (try dsimp only at _hSw); go_simp); try (with_reducible rfl))
          try simp only [Act.put, List.setIfInBounds_toArray, List.set_cons_zero, List.set_cons_succ]
          refine held_take (i := 21) (v := ?qv21) rfl (by kernel_rfl) (by kernel_rfl) (by kernel_rfl) (fun _ _ _ h => h) (by rfl) ?qy21 hHeld ?_
          case qy21 => ((intro w _hSw; (try dsimp only at _hSw); go_simp); try (with_reducible rfl))
          try simp only [Act.put, List.setIfInBounds_toArray, List.set_cons_zero, List.set_cons_succ]
          refine held_take (i := 22) (v := ?qv22) rfl (by kernel_rfl) (by kernel_rfl) (by kernel_rfl) (fun _ _ _ h => h) (by rfl) ?qy22 hHeld ?_
          case qy22 => ((intro w _hSw; (try dsimp only at _hSw); go_simp); try (with_reducible rfl))
          try simp only [Act.put, List.setIfInBounds_toArray, List.set_cons_zero, List.set_cons_succ]
          refine held_take (i := 23) (v := ?qv23) rfl (by kernel_rfl) (by kernel_rfl) (by kernel_rfl) (fun _ _ _ h => h) (by rfl) ?qy23 hHeld ?_
          case qy23 => ((intro w _hSw; (try dsimp only at _hSw); go_simp); try (with_reducible rfl))
          try simp only [Act.put, List.setIfInBounds_toArray, List.set_cons_zero, List.set_cons_succ]
          refine held_take (i := 24) (v := ?qv24) rfl (by kernel_rfl) (by kernel_rfl) (by kernel_rfl) (fun _ _ _ h => h) (by rfl) ?qy24 hHeld ?_
          case qy24 => ((intro w _hSw; (try dsimp only at _hSw); go_simp); try (with_reducible rfl))
          try simp only [Act.put, List.setIfInBounds_toArray, List.set_cons_zero, List.set_cons_succ]
          refine held_take (i := 25) (v := ?qv25) rfl (by kernel_rfl) (by kernel_rfl) (by kernel_rfl) (fun _ _ _ h => h) (by rfl) ?qy25 hHeld ?_
          case qy25 => ((intro w _hSw; (try dsimp only at _hSw); go_simp); try (with_reducible rfl))
          try simp only [Act.put, List.setIfInBounds_toArray, List.set_cons_zero, List.set_cons_succ]
          refine held_take (i := 28) (v := ?qv28) rfl (by kernel_rfl) (by kernel_rfl) (by kernel_rfl) (fun _ _ _ h => h) (by rfl) ?qy28 hHeld ?_
          case qy28 => ((intro w _hSw; (try dsimp only at _hSw); go_simp); try (with_reducible rfl))
          try simp only [Act.put, List.setIfInBounds_toArray, List.set_cons_zero, List.set_cons_succ]
          refine held_take (i := 29) (v := ?qv29) rfl (by kernel_rfl) (by kernel_rfl) (by kernel_rfl) (fun _ _ _ h => h) (by rfl) ?qy29 hHeld ?_
          case qy29 => ((intro w _hSw; (try dsimp only at _hSw); go_simp); try (with_reducible rfl))
          try simp only [Act.put, List.setIfInBounds_toArray, List.set_cons_zero, List.set_cons_succ]
          refine held_take (i := 30) (v := ?qv30) rfl (by kernel_rfl) (by kernel_rfl) (by kernel_rfl) (fun _ _ _ h => h) (by rfl) ?qy30 hHeld ?_
          case qy30 => ((intro w _hSw; (try dsimp only at _hSw); go_simp); try (with_reducible rfl))
          try simp only [Act.put, List.setIfInBounds_toArray, List.set_cons_zero, List.set_cons_succ]
          refine held_step (i := 26) rfl (by kernel_rfl) (by rfl) (fun K hK => ?_)
          go_simp
          refine (rbytes_any r _ (t.xs.length : Int) _ G6.out.1 HRB.out.2.2).mono ?_
          rintro e w7 ⟨v7, rfl, ho7, h7, g7⟩
          rw [HBy.out] at h7 ho7
          obtain ⟨A7, c7, rfl, _, hr7, _⟩ := own_slice ho7
          have q7 := convB A7 c7 t.xs _ hr7
          have G7 := Lib.hid (And.intro h7 (And.intro (KB.out _ _ G6.out.2.1 g7) (G6.out.2.2.grown g7 HRB.out.2.1)))
          clear h7 g7 ho7 hr7
          go_wp2_with fail
          have hHeld := HTS.out _ G7.out.2.1 G7.out.2.2
          refine hK.out _ _ (HTS.out _ G7.out.2.1 G7.out.2.2) ?_
          clear hK K
          try simp only [Act.put, List.setIfInBounds_toArray, List.set_cons_zero, List.set_cons_succ]
          refine held_step (i := 27) rfl (by kernel_rfl) (by rfl) (fun K hK => ?_)
          go_simp
          have hHeld := HTS.out _ G7.out.2.1 G7.out.2.2
          refine hK.out _ _ (HTS.out _ G7.out.2.1 G7.out.2.2) ?_
          clear hK K
          try simp only [Act.put, List.setIfInBounds_toArray, List.set_cons_zero, List.set_cons_succ]
          refine held_take (i := 31) (v := ?qv31) rfl (by kernel_rfl) (by kernel_rfl) (by kernel_rfl) (fun _ _ _ h => h) (by rfl) ?qy31 hHeld ?_
          case qy31 => ((intro w _hSw; (try dsimp only at _hSw); go_simp); try (with_reducible rfl))
          try simp only [Act.put, List.setIfInBounds_toArray, List.set_cons_zero, List.set_cons_succ]
          refine held_take (i := 32) (v := ?qv32) rfl (by kernel_rfl) (by kernel_rfl) (by kernel_rfl) (fun _ _ _ h => h) (by rfl) ?qy32 hHeld ?_
          case qy32 => ((intro w _hSw; (try dsimp only at _hSw); go_simp); try (with_reducible rfl))
          try simp only [Act.put, List.setIfInBounds_toArray, List.set_cons_zero, List.set_cons_succ]
          refine held_take (i := 33) (v := ?qv33) rfl (by kernel_rfl) (by kernel_rfl) (by kernel_rfl) (fun _ _ _ h => h) (by rfl) ?qy33 hHeld ?_
          case qy33 => ((intro w _hSw; (try dsimp only at _hSw); go_simp); try (with_reducible rfl))
          try simp only [Act.put, List.setIfInBounds_toArray, List.set_cons_zero, List.set_cons_succ]
          refine held_take (i := 34) (v := ?qv34) rfl (by kernel_rfl) (by kernel_rfl) (by kernel_rfl) (fun _ _ _ h => h) (by rfl) ?qy34 hHeld ?_
          case qy34 => ((intro w _hSw; (try dsimp only at _hSw); go_simp); try (with_reducible rfl))
          try simp only [Act.put, List.setIfInBounds_toArray, List.set_cons_zero, List.set_cons_succ]
          refine held_take (i := 36) (v := ?qv36) rfl (by kernel_rfl) (by kernel_rfl) (by kernel_rfl) (fun _ _ _ h => h) (by rfl) ?qy36 hHeld ?_
          case qy36 => ((intro w _hSw; (try dsimp only at _hSw); go_simp); try (with_reducible rfl))
          try simp only [Act.put, List.setIfInBounds_toArray, List.set_cons_zero, List.set_cons_succ]
          refine held_row (i := 37) rfl (by kernel_rfl) (by kernel_rfl) (by kernel_rfl) _ _ rfl _ _ rfl ?qC37 ?qD37 (fun _ _ _ h => h) (by rfl) ?qa37 ?qb37 ?qc37 ?qd37 hHeld ?_
          case qa37 => (intro w hSw; (try dsimp only at hSw); go_split_ands; assumption)
          case qb37 => assumption
          case qc37 => rfl
          case qd37 => first | assumption | (simp only [*]; done)
          try simp only [Act.put, List.setIfInBounds_toArray, List.set_cons_zero, List.set_cons_succ]
          refine held_step (i := 35) rfl (by kernel_rfl) (by rfl) (fun K hK => ?_)
          go_simp
          refine (rhash_any r _ _ G7.out.1).mono ?_
          rintro e w8 ⟨rfl, h8, g8⟩
          rw [HHa.out.2] at h8
          rw [HHa.out.1, ← HCS.out]
          have G8 := Lib.hid (And.intro h8 (And.intro (KB.out _ _ G7.out.2.1 g8) (G7.out.2.2.grown g8 HRB.out.2.1)))
          clear h8 g8
          go_wp2_with fail
          have hHeld := HTS.out _ G8.out.2.1 G8.out.2.2
          refine hK.out _ _ (HTS.out _ G8.out.2.1 G8.out.2.2) ?_
          clear hK K
          try simp only [Act.put, List.setIfInBounds_toArray, List.set_cons_zero, List.set_cons_succ]
          refine held_take (i := 38) (v := ?qv38) rfl (by kernel_rfl) (by kernel_rfl) (by kernel_rfl) (fun _ _ _ h => h) (by rfl) ?qy38 hHeld ?_
          case qy38 => ((intro w _hSw; (try dsimp only at _hSw); go_simp); try (with_reducible rfl))
          try simp only [Act.put, List.setIfInBounds_toArray, List.set_cons_zero, List.set_cons_succ]
          refine held_take (i := 39) (v := ?qv39) rfl (by kernel_rfl) (by kernel_rfl) (by kernel_rfl) (fun _ _ _ h => h) (by rfl) ?qy39 hHeld ?_
          case qy39 => ((intro w _hSw; (try dsimp only at _hSw); go_simp); try (with_reducible rfl))
          try simp only [Act.put, List.setIfInBounds_toArray, List.set_cons_zero, List.set_cons_succ]
          refine held_take (i := 40) (v := ?qv40) rfl (by kernel_rfl) (by kernel_rfl) (by kernel_rfl) (fun _ _ _ h => h) (by rfl) ?qy40 hHeld ?_
          case qy40 => ((intro w _hSw; (try dsimp only at _hSw); go_simp); try (with_reducible rfl))
          try simp only [Act.put, List.setIfInBounds_toArray, List.set_cons_zero, List.set_cons_succ]
          refine held_take (i := 41) (v := ?qv41) rfl (by kernel_rfl) (by kernel_rfl) (by kernel_rfl) (fun _ _ _ h => h) (by rfl) ?qy41 hHeld ?_
          case qy41 => ((intro w _hSw; (try dsimp only at _hSw); go_simp); try (with_reducible rfl))
          try simp only [Act.put, List.setIfInBounds_toArray, List.set_cons_zero, List.set_cons_succ]
          refine held_take (i := 42) (v := ?qv42) rfl (by kernel_rfl) (by kernel_rfl) (by kernel_rfl) (fun _ _ _ h => h) (by rfl) ?qy42 hHeld ?_
          case qy42 => ((intro w _hSw; (try dsimp only at _hSw); go_simp); try (with_reducible rfl))
          try simp only [Act.put, List.setIfInBounds_toArray, List.set_cons_zero, List.set_cons_succ]
          refine held_take (i := 43) (v := ?qv43) rfl (by kernel_rfl) (by kernel_rfl) (by kernel_rfl) (fun _ _ _ h => h) (by rfl) ?qy43 hHeld ?_
          case qy43 => ((intro w _hSw; (try dsimp only at _hSw); go_simp); try (with_reducible rfl))
          try simp only [Act.put, List.setIfInBounds_toArray, List.set_cons_zero, List.set_cons_succ]
          refine held_take (i := 44) (v := ?qv44) rfl (by kernel_rfl) (by kernel_rfl) (by kernel_rfl) (fun _ _ _ h => h) (by rfl) ?qy44 hHeld ?_
          case qy44 => ((intro w _hSw; (try dsimp only at _hSw); go_simp); try (with_reducible rfl))
          try simp only [Act.put, List.setIfInBounds_toArray, List.set_cons_zero, List.set_cons_succ]
          refine held_take (i := 46) (v := ?qv46) rfl (by kernel_rfl) (by kernel_rfl) (by kernel_rfl) (fun _ _ _ h => h) (by rfl) ?qy46 hHeld ?_
          case qy46 => ((intro w _hSw; (try dsimp only at _hSw); go_simp); try (with_reducible rfl))
          try simp only [Act.put, List.setIfInBounds_toArray, List.set_cons_zero, List.set_cons_succ]
          refine held_take (i := 47) (v := ?qv47) rfl (by kernel_rfl) (by kernel_rfl) (by kernel_rfl) (fun _ _ _ h => h) (by rfl) ?qy47 hHeld ?_
          case qy47 => ((intro w _hSw; (try dsimp only at _hSw); go_simp); try (with_reducible rfl))
          try simp only [Act.put, List.setIfInBounds_toArray, List.set_cons_zero, List.set_cons_succ]
          refine held_take (i := 48) (v := ?qv48) rfl (by kernel_rfl) (by kernel_rfl) (by kernel_rfl) (fun _ _ _ h => h) (by rfl) ?qy48 hHeld ?_
          case qy48 => ((intro w _hSw; (try dsimp only at _hSw); go_simp); try (with_reducible rfl))
          try simp only [Act.put, List.setIfInBounds_toArray, List.set_cons_zero, List.set_cons_succ]
          refine held_step (i := 45) rfl (by kernel_rfl) (by rfl) (fun K hK => ?_)
          go_simp
          refine (rtext_any r _ (t.xs.length : Int) _ G8.out.1 HRB.out.2.2).mono ?_
          rintro e w9 ⟨rfl, h9, g9⟩
          rw [HTx.out] at h9
          rw [HTx.out]
          have G9 := Lib.hid (And.intro h9 (And.intro (KB.out _ _ G8.out.2.1 g9) (G8.out.2.2.grown g9 HRB.out.2.1)))
          clear h9 g9
          go_wp2_with fail
          have hHeld := HTS.out _ G9.out.2.1 G9.out.2.2
          refine hK.out _ _ (HTS.out _ G9.out.2.1 G9.out.2.2) ?_
          clear hK K
          try simp only [Act.put, List.setIfInBounds_toArray, List.set_cons_zero, List.set_cons_succ]
          refine held_take (i := 49) (v := ?qv49) rfl (by kernel_rfl) (by kernel_rfl) (by kernel_rfl) (fun _ _ _ h => h) (by rfl) ?qy49 hHeld ?_
          case qy49 => ((intro w _hSw; (try dsimp only at _hSw); go_simp); try (with_reducible rfl))
          try simp only [Act.put, List.setIfInBounds_toArray, List.set_cons_zero, List.set_cons_succ]
          refine held_take (i := 50) (v := ?qv50) rfl (by kernel_rfl) (by kernel_rfl) (by kernel_rfl) (fun _ _ _ h => h) (by rfl) ?qy50 hHeld ?_
          case qy50 => ((intro w _hSw; (try dsimp only at _hSw); go_simp); try (with_reducible rfl))
          try simp only [Act.put, List.setIfInBounds_toArray, List.set_cons_zero, List.set_cons_succ]
          refine wpAnyH_done (by kernel_rfl) ?_ _
          refine NoPanic.normal ?_
          go_wp2
          go_roundw
          case rel => exact ⟨j + 1, by go_num, HK.out.1, by rw [HRR.out]; exact G9.out.1, G9.out.2.1⟩
          case measure => have := HK.out.1; simp [intOf]; omega
        · obtain rfl : j = k := by omega
          have e0 : ((ts.take j).drop j).flatMap encT = [] := by rw [List.drop_of_length_le (by simp; omega)]; rfl
          rw [e0] at hR
          have HR := Lib.hid (And.intro hR hB)
          clear hR hB e0 hlt hj
          go_wp2_with fail
          refine (rdone_any r _ wr HR.out.1).mono ?_
          rintro e w8 ⟨v8, rfl, hb8, hv8, _⟩
          obtain rfl := hv8 rfl
          have H8 := Lib.hid (And.intro (HR.out.1.below hb8) (below_trans HR.out.2 hb8))
          clear hb8 hv8
          go_wp2_with fail
          refine (left_any r _ w8 H8.out.1).mono ?_
          rintro e w9 ⟨rfl, rfl⟩
          go_wp2_with fail
          refine (packSure_any _).mono ?_
          rintro e w10 ⟨rfl, hb10⟩
          go_wp2
          go_ret
          exact ⟨rfl, below_trans H8.out.2 hb10⟩
#print axioms packBack_any
end Go.Proofs.Ytdmopnmifdjcnaa
