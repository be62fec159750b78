/- Layer 3's functions by their contracts: Sum, put, sealed, get, open, fault, Frame, One. -/
import Derived.Test.YtdmopnmifdjcnaaDoorProg
import Derived.Test.YtdmopnmifdjcnaaDoorMem
import Derived.Test.YtdmopnmifdjcnaaDoorCrc
import Derived.Test.YtdmopnmifdjcnaaDoorErr
import Derived.Outline
import Derived.Lib.Hide
import Derived.BigQuiet
import Derived.Deep.QuietTactic
namespace Go.Proofs.YtdmopnmifdjcnaaDoor
open Go Go.RowKit Go.Isth

theorem tB : SlT Tryd.prog 22 5 (.int .u8 0) 1 1 := ⟨Tryd.underlying22, by kernel_rfl, rfl, by decide⟩

theorem sum_any (A : Option Addr) (c : Nat) (bs : List UInt8) (w : World) (hn : bs.length ≤ 140737488351232) (hr : Rd w A (bs.map B)) :
    Calls Tryd.prog 17 #[.slice A bs.length c] w fun e w' => e = .returned (U (crc bs)) ∧ w = w' := by
  by_cases h0 : bs = []
  · subst h0
    go_enter Tryd.func17, Tryd.ntmps17
    go_wp2
    refine wp_loop_rounds 1 ?_
    rw [rounds_succ]
    go_wp2
    go_ret
    exact ⟨rfl, rfl⟩
  obtain ⟨b0, o0, rfl, _, hc⟩ := hr.at_ (by simpa [List.length_pos_iff] using h0)
  simp only [List.length_map] at hc
  clear hr h0
  go_enter Tryd.func17, Tryd.ntmps17
  go_wp2
  go_loop [3, 8] (fun x i => ∃ k : Nat, k ≤ bs.length ∧ i = .int .i64 k ∧ x = U (crcFrom 0xffffffff#32 (bs.take k)))
                 (fun _ i => bs.length - (intOf i).toNat)
  case atStart => exact ⟨0, Nat.zero_le _, rfl, rfl⟩
  case round =>
    obtain ⟨k, hk, rfl, rfl⟩ := hrel
    by_cases hlt : k < bs.length
    · have hck := hc k hlt
      simp only [List.getElem_map] at hck
      have hs := crcFrom_snoc 0xffffffff#32 bs k hlt
      generalize crcFrom 0xffffffff#32 (bs.take k) = x at *
      generalize bs[k] = b at *
      have hb := b.toNat_lt
      have HS := Lib.hid hs
      clear hs hc
      go_wp2
      go_loop [3, 16] (fun x' i => ∃ m : Nat, m ≤ 8 ∧ i = .int .i64 m ∧ x' = U (crcBits m (crcIn x b)))
                 (fun _ i => 8 - (intOf i).toNat)
      case atStart => exact ⟨0, Nat.zero_le _, rfl, congrArg (Value.int .u32) (crc_in x b)⟩
      case round =>
        obtain ⟨m, hm, rfl, rfl⟩ := hrel
        by_cases hlt : m < 8
        · have hy := crc_round (crcBits m (crcIn x b))
          generalize hY : crcBits m (crcIn x b) = y at *
          have HY := Lib.hid hY
          have Hy := Lib.hid hy
          clear hY hy
          go_wp2
          go_round
          case rel => exact ⟨m + 1, by omega, by go_num, congrArg (Value.int .u32) (Hy.out.trans (by rw [crcBits, HY.out]))⟩
          case measure => simp [intOf]; omega
        · obtain rfl : m = 8 := by omega
          go_wp2
          go_round
          case rel => exact ⟨k + 1, by omega, by go_num, congrArg U HS.out.symm⟩
          case measure => simp [intOf]; omega
    · obtain rfl : k = bs.length := by omega
      go_wp2
      go_ret
      exact ⟨congrArg (fun z => Ending.returned (.int .u32 z)) (crc_out _), rfl⟩

theorem fault_any (s : ByteArray) (k : Int) (w : World) :
    Calls Tryd.prog 35 #[.string s, .int .i64 k] w fun e w' => e = .returned (.iface 90 (.pointer (some ⟨w.heap.size, 0, none⟩))) ∧ w' = w.alloc (.cells #[.string s, .iface 71 (.int .i64 k)] 92) := by
  go_enter Tryd.func35, Tryd.ntmps35
  go_wp2
  go_ret
  exact ⟨rfl, rfl⟩

theorem put_any (v : Value) (n : Nat) (xs : List Value) (x : BitVec 32) (base : Nat) (w : World) (hown : w.ownsRow base 5 1 v n xs) (hb : base ≤ w.heap.size) (hn : n ≤ 2199023256000) :
    Calls Tryd.prog 37 #[v, U x] w fun e w' => ∃ v', e = .returned v' ∧ w'.ownsRow base 5 1 v' (n + 4) (xs ++ (be32 x).map B) ∧ Ext w w' v v' := by
  go_enter Tryd.func37, Tryd.ntmps37
  go_wp2_with (at_builtin; refine wpList_app tB rfl _ _ rfl base _ n xs rfl (hown.alloc _) _ 4 4 _ rfl (Rd_alloc _ _ _) rfl ?c1 ?c2 ?c3 ?c4 ?_)
  case c1 => exact ⟨rfl, rfl, rfl, rfl⟩
  case c2 => unfold maxLen; omega
  case c3 => omega
  case c4 => simp; omega
  intro v' w' ho hg
  go_wp2
  go_ret
  refine ⟨v', rfl, ?_, ?_⟩
  · rw [← be32_vals]; exact ho
  · exact (Ext.alloc w _ v).trans hg

theorem sealed_any (v : Value) (n : Nat) (xs : List Value) (A : Option Addr) (c : Nat) (bs : List UInt8) (base : Nat) (w : World) (hown : w.ownsRow base 5 1 v n xs) (hb : base ≤ w.heap.size) (hn : n ≤ 1099511627776)
    (hr : Rd w A (bs.map B)) (hbs : bs.length ≤ 1099511627776) (hne : ∀ ad, A = some ad → v.ownBlock ≠ some ad.block) :
    Calls Tryd.prog 36 #[v, .slice A bs.length c] w fun e w' => ∃ v', e = .returned v' ∧ w'.ownsRow base 5 1 v' (n + bs.length + 4) (xs ++ bs.map B ++ (be32 (crc bs)).map B) ∧ Ext w w' v v' := by
  go_enter Tryd.func36, Tryd.ntmps36
  go_wp2_with (at_builtin; refine wpList_app tB rfl _ _ rfl base _ n xs rfl hown _ bs.length _ _ rfl hr (by simp) one_bytes ?c2 ?c3 hb ?_)
  case c2 => unfold maxLen; omega
  case c3 => omega
  intro v1 w1 ho1 hg1
  have hr1 := hr.ext hg1 hne
  have hb1 := hg1.size
  go_wp2_with fail
  refine (sum_any A c bs w1 (by omega) hr1).mono ?_
  rintro e w' ⟨rfl, rfl⟩
  go_wp2_with fail
  refine (put_any v1 _ _ (crc bs) base w1 ho1 (by omega) (by omega)).mono ?_
  rintro e w2 ⟨v2, rfl, ho2, hg2⟩
  go_wp2
  go_ret
  exact ⟨v2, rfl, ho2, hg1.trans hg2⟩

set_option maxHeartbeats 400000 in
theorem get_any (k o n c : Nat) (b0 b1 b2 b3 : UInt8) (w : World) (hn : 4 ≤ n) (h0 : w.cell? ⟨k, o, none⟩ = some (B b0)) (h1 : w.cell? ⟨k, o + 1, none⟩ = some (B b1)) (h2 : w.cell? ⟨k, o + 2, none⟩ = some (B b2)) (h3 : w.cell? ⟨k, o + 3, none⟩ = some (B b3)) :
    Calls Tryd.prog 39 #[.slice (some ⟨k, o, none⟩) n c] w fun e w' => e = .returned (U (un32 b0 b1 b2 b3)) ∧ ∃ m, w' = w.drewN m := by
  have q0 := b0.toNat_lt
  have q1 := b1.toNat_lt
  have q2 := b2.toNat_lt
  have q3 := b3.toNat_lt
  have i0 : 0 < n := by omega
  have i1 : (1 : Int) < (n : Int) := by omega
  have i2 : (2 : Int) < (n : Int) := by omega
  have i3 : (3 : Int) < (n : Int) := by omega
  go_enter Tryd.func39, Tryd.ntmps39
  go_wp2_with fail
  go_quiet (fail)
  go_wp2
  go_ret
  exact ⟨congrArg (fun z => Ending.returned (.int .u32 z)) (un32_val b0 b1 b2 b3), _, rfl⟩

theorem get_rd (A : Option Addr) (n c : Nat) (bs : List UInt8) (w : World) (hn : n = bs.length) (h4 : 4 ≤ bs.length) (hr : Rd w A (bs.map B)) :
    Calls Tryd.prog 39 #[.slice A n c] w fun e w' => e = .returned (U (un32l bs)) ∧ ∃ m, w' = w.drewN m := by
  subst hn
  obtain ⟨k, o, rfl, _, hc⟩ := hr.at_ (by simp; omega)
  have q : ∀ j, (hj : j < bs.length) → w.cell? ⟨k, o + j, none⟩ = some (B (bs.getD j 0)) := by
    intro j hj
    rw [hc j (by simpa using hj)]
    simp [List.getD, hj]
  exact get_any k o bs.length c _ _ _ _ w h4 (q 0 (by omega)) (q 1 (by omega)) (q 2 (by omega)) (q 3 (by omega))

theorem sum_rd (A : Option Addr) (n c : Nat) (bs : List UInt8) (w : World) (hn : n = bs.length) (hm : bs.length ≤ 140737488351232) (hr : Rd w A (bs.map B)) :
    Calls Tryd.prog 17 #[.slice A n c] w fun e w' => e = .returned (U (crc bs)) ∧ w' = w := by
  subst hn
  exact (sum_any A c bs w hm hr).mono fun e w' ⟨h1, h2⟩ => ⟨h1, h2.symm⟩

theorem map_drop_take (bs : List UInt8) (l m : Nat) : ((bs.map B).drop (l * 1)).take m = ((bs.drop l).take m).map B := by
  rw [Nat.mul_one, List.map_take, List.map_drop]

set_option maxHeartbeats 400000 in
theorem open_any (A : Option Addr) (n c m : Nat) (bs : List UInt8) (w : World) (hn : n = bs.length) (hm : m + 4 ≤ bs.length) (hc : n ≤ c) (hbig : bs.length ≤ 140737488351232) (hr : Rd w A (bs.map B)) :
    Calls Tryd.prog 40 #[.slice A n c, .int .i64 m] w fun e w' => e = .returned (.bool (((un32l (bs.drop m)).toNat : Int) == ((crc (bs.take m)).toNat : Int))) ∧ ∃ m, w' = w.drewN m := by
  have c1 := run_cut_from tB A n c m (by omega) (by omega)
  have c2 := run_cut_to tB A n c m (by omega) (by omega)
  rw [Int.toNat_natCast] at c1 c2
  have r1 : Rd w (cutA A c m 1) ((bs.drop m).map B) := by
    have := hr.cut c m 1 (bs.length - m) (by simp; omega) (by simp; omega)
    rwa [map_drop_take, List.take_of_length_le (by simp)] at this
  have r2 : Rd w A ((bs.take m).map B) := by rw [List.map_take]; exact hr.front m
  have e1 : n - m = (bs.drop m).length := by simp [hn]
  have e2 : m = (bs.take m).length := by simp; omega
  have E1 := Lib.hid e1
  have E2 := Lib.hid e2
  clear e1 e2 hn
  go_enter Tryd.func40, Tryd.ntmps40
  go_wp2_with fail
  go_quiet (first | (go_at_call 39; refine Calls.quiet_of (get_rd _ _ _ (bs.drop m) _ E1.out (by simp; omega) (r1.drewN _))) | (go_at_call 17; refine Calls.quiet_of_same (sum_rd _ _ _ (bs.take m) _ E2.out (by simp; omega) (r2.drewN _))))
  go_wp2
  go_ret
  exact ⟨rfl, _, rfl⟩

theorem fault_err (s : ByteArray) (k : Int) (w : World) :
    Calls Tryd.prog 35 #[.string s, .int .i64 k] w fun e w' => ∃ v, e = .returned v ∧ ErrIs w' v k ∧ Below w.heap.size w w' :=
  (fault_any s k w).mono fun e w' ⟨h1, h2⟩ => ⟨_, h1, by rw [h2]; exact ErrIs.new w s k, by rw [h2]; exact (Below.refl _ _).alloc (Nat.le_refl _) _⟩

theorem put_int (k : Int) (v : Value) (n : Nat) (xs : List Value) (x : BitVec 32) (hk : k = (x.toNat : Int)) (base : Nat) (w : World) (hown : w.ownsRow base 5 1 v n xs) (hb : base ≤ w.heap.size) (hn : n ≤ 2199023256000) :
    Calls Tryd.prog 37 #[v, .int .u32 k] w fun e w' => ∃ v', e = .returned v' ∧ w'.ownsRow base 5 1 v' (n + 4) (xs ++ (be32 x).map B) ∧ Ext w w' v v' := by
  subst hk
  exact put_any v n xs x base w hown hb hn

theorem sealed_rd (v : Value) (n : Nat) (xs : List Value) (A : Option Addr) (m c : Nat) (bs : List UInt8) (hm : m = bs.length) (base : Nat) (w : World) (hown : w.ownsRow base 5 1 v n xs) (hb : base ≤ w.heap.size) (hn : n ≤ 1099511627776)
    (hr : Rd w A (bs.map B)) (hbs : bs.length ≤ 1099511627776) (hne : ∀ ad, A = some ad → v.ownBlock ≠ some ad.block) :
    Calls Tryd.prog 36 #[v, .slice A m c] w fun e w' => ∃ v', e = .returned v' ∧ w'.ownsRow base 5 1 v' (n + m + 4) (xs ++ bs.map B ++ (be32 (crc bs)).map B) ∧ Ext w w' v v' := by
  subst hm
  exact sealed_any v n xs A c bs base w hown hb hn hr hbs hne

set_option maxHeartbeats 400000 in
theorem frame_ok (A : Option Addr) (n c : Nat) (p : List UInt8) (w : World) (hn : n = p.length) (h0 : 0 < p.length) (h1 : p.length ≤ 1048576) (hr : Rd w A (p.map B)) :
    Calls Tryd.prog 8 #[.slice A n c] w fun e w' => ∃ v, e = .returned (.tuple #[v, .nilIface]) ∧ w'.ownsRow w.heap.size 5 1 v (record p).length ((record p).map B) ∧ Below w.heap.size w w' := by
  have hz : ((n : Int) == 0) = false := by simp; omega
  have hnb : n ≤ 1048576 := by omega
  have hx : (n : Int) = ((BitVec.ofNat 32 n).toNat : Int) := by simp; omega
  have E := Lib.hid hn
  have X := Lib.hid hx
  clear hn hx
  go_enter Tryd.func8, Tryd.ntmps8
  go_wp2_with fail
  refine (put_int _ _ 0 [] (BitVec.ofNat 32 n) X.out w.heap.size _ (World.ownsRow_nil _ _ _ _) (Nat.le_refl _) (by omega)).mono ?_
  rintro e w1 ⟨v1, rfl, ho1, hx1⟩
  have hb1 := hx1.below (Nat.le_refl _) (fun k hk => by simp [Value.ownBlock] at hk)
  obtain ⟨A1, c1, rfl, hc1, hr1, hk1, hlt1⟩ := own_slice ho1
  have hs1 := hb1.size
  go_wp2_with fail
  refine (sealed_rd _ 0 [] A1 _ c1 (be32 (BitVec.ofNat 32 n)) rfl w.heap.size w1 (World.ownsRow_nil _ _ _ _) hs1 (by omega) (by simpa using hr1) (by simp [be32_length]) (fun ad h => by simp [Value.ownBlock])).mono ?_
  rintro e w2 ⟨v2, rfl, ho2, hx2⟩
  simp only [be32_length] at ho2
  have hb2 := hb1.trans (hx2.below hs1 (fun k hk => by simp [Value.ownBlock] at hk))
  have hs2 := hb2.size
  clear hb1 hx1 hx2
  go_wp2_with fail
  refine (sealed_rd _ _ _ A _ c p E.out w.heap.size w2 ho2 hs2 (by omega) (hr.below hb2) (by omega) ?_).mono ?_
  · intro ad had hk
    have h3 := (ho2.lt _ hk).1
    obtain ⟨b, o, e, hlt, _⟩ := hr.at_ (by simpa using h0)
    rw [had] at e
    cases e
    simp at h3
    omega
  rintro e w3 ⟨v3, rfl, ho3, hx3⟩
  have hb3 := hb2.trans (hx3.below_own ho2 hs2)
  go_wp2
  go_ret2
  refine ⟨v3, rfl, ?_, hb3⟩
  have e1 : 0 + 4 + 4 + n + 4 = (record p).length := by rw [record_length, E.out]; omega
  have e2 : [] ++ (be32 (BitVec.ofNat 32 n)).map B ++ (be32 (crc (be32 (BitVec.ofNat 32 n)))).map B ++ p.map B ++ (be32 (crc p)).map B = (record p).map B := by
    rw [E.out]; simp [record]
  rw [← e1, ← e2]
  exact ho3

def badNo (n : Nat) : Int := if n = 0 then 1 else 2
theorem frame_bad (A : Option Addr) (n c : Nat) (w : World) (hn : n = 0 ∨ 1048576 < n) (hm : n ≤ 140737488351232) :
    Calls Tryd.prog 8 #[.slice A n c] w fun e w' => ∃ v, e = .returned (.tuple #[.slice none 0 0, v]) ∧ ErrIs w' v (badNo n) ∧ Below w.heap.size w w' := by
  rcases hn with h | h
  · subst h
    go_enter Tryd.func8, Tryd.ntmps8
    go_wp2_with fail
    refine (fault_err _ _ _).mono ?_
    rintro e w1 ⟨v, rfl, he, hb⟩
    go_wp2
    go_ret2
    exact ⟨v, rfl, he, hb⟩
  · have hz : ((n : Int) == 0) = false := by simp; omega
    have hg : (1048576 : Int) < (n : Int) := by omega
    have hk : 2 = badNo n := by unfold badNo; rw [if_neg (by omega)]
    have HK := Lib.hid hk
    clear hk
    go_enter Tryd.func8, Tryd.ntmps8
    go_wp2_with fail
    refine (fault_err _ _ _).mono ?_
    rintro e w1 ⟨v, rfl, he, hb⟩
    go_wp2
    go_ret2
    exact ⟨v, rfl, HK.out ▸ he, hb⟩

set_option maxHeartbeats 1000000 in
theorem one_any (A : Option Addr) (n c : Nat) (b : List UInt8) (w : World) (hn : n = b.length) (hc : n ≤ c) (hbig : b.length ≤ 140737488351232) (hr : Rd w A (b.map B)) :
    Calls Tryd.prog 10 #[.slice A n c] w fun e w' => Below w.heap.size w w' ∧
      ((∃ p k v, oneF b = .inl (p, k) ∧ e = .returned (.tuple #[v, .int .i64 k, .nilIface]) ∧ w'.ownsRow w.heap.size 5 1 v p.length (p.map B)) ∨
       (∃ k v, oneF b = .inr k ∧ e = .returned (.tuple #[.slice none 0 0, .int .i64 0, v]) ∧ ErrIs w' v k)) := by
  have E := Lib.hid hn
  by_cases h0 : n = 0
  · have ho : oneF b = .inr 8 := by unfold oneF; rw [if_pos (by omega)]
    have HO := Lib.hid ho
    subst h0
    clear ho hn
    go_enter Tryd.func10, Tryd.ntmps10
    go_wp2_with fail
    refine (fault_err _ _ _).mono ?_
    rintro e w1 ⟨v, rfl, he, hb⟩
    go_wp2
    go_ret3
    exact ⟨hb, .inr ⟨_, v, HO.out, rfl, he⟩⟩
  have hz : ((n : Int) == 0) = false := by simp; omega
  by_cases h8 : n < 8
  · have ho : oneF b = .inr 12 := by unfold oneF; rw [if_neg (by omega), if_pos (by omega)]
    have HO := Lib.hid ho
    clear ho hn
    go_enter Tryd.func10, Tryd.ntmps10
    go_wp2_with fail
    refine (fault_err _ _ _).mono ?_
    rintro e w1 ⟨v, rfl, he, hb⟩
    go_wp2
    go_ret3
    exact ⟨hb, .inr ⟨_, v, HO.out, rfl, he⟩⟩
  have r4 : b.length ≥ 8 := by omega
  clear hn
  go_enter Tryd.func10, Tryd.ntmps10
  go_wp2_with fail
  refine (get_rd _ _ _ b _ E.out (by omega) hr).mono ?_
  rintro e w1 ⟨rfl, m1, rfl⟩
  generalize hN : un32l b = N
  have HN := Lib.hid hN
  have hNl := N.isLt
  clear hN
  go_wp2_with fail
  refine (open_any _ _ _ 4 b _ E.out (by omega) hc hbig (hr.drewN _)).mono ?_
  rintro e w2 ⟨rfl, m2, rfl⟩
  generalize hO : (((un32l (b.drop 4)).toNat : Int) == ((crc (b.take 4)).toNat : Int)) = O1
  have key : un32l (b.drop 4) ≠ crc (b.take 4) ∨ N.toNat = 0 ∨ 1048576 < N.toNat → oneF b = .inr 11 := by
    intro h
    unfold oneF
    simp only [HN.out]
    rw [if_neg (by omega), if_neg (by omega), if_pos h]
  have key2 : un32l (b.drop 4) = crc (b.take 4) → N.toNat ≠ 0 → N.toNat ≤ 1048576 → oneF b = if b.length < N.toNat + 12 then .inr 12 else if un32l ((b.drop 8).drop N.toNat) ≠ crc ((b.drop 8).take N.toNat) then .inr 11 else .inl ((b.drop 8).take N.toNat, N.toNat + 12) := by
    intro e1 e2 e3
    unfold oneF
    simp only [HN.out]
    rw [if_neg (by omega), if_neg (by omega), if_neg (by simp [e1, e2]; omega)]
  have ne : ∀ x y : BitVec 32, (((x.toNat : Int) == (y.toNat : Int)) = true ↔ x = y) := by
    intro x y
    rw [beq_iff_eq]
    exact ⟨fun h => BitVec.eq_of_toNat_eq (by omega), fun h => by rw [h]⟩
  have KEY := Lib.hid key
  have KEY2 := Lib.hid key2
  have HO1 := Lib.hid hO
  have NE := Lib.hid ne
  clear hO key key2 ne
  cases O1 with
  | false =>
    have HOe := Lib.hid (KEY.out (.inl fun h => by have h2 := HO1.out; rw [(NE.out _ _).2 h] at h2; cases h2))
    go_wp2_with fail
    refine (fault_err _ _ _).mono ?_
    rintro e w1 ⟨v, rfl, he, hb⟩
    go_wp2
    go_ret3
    exact ⟨of_drewN hb, .inr ⟨_, v, HOe.out, rfl, he⟩⟩
  | true =>
    have hcrc := (NE.out _ _).1 HO1.out
    by_cases hN0 : N.toNat = 0
    · have hz0 : ((N.toNat : Int) == 0) = true := by simp; omega
      have HOe := Lib.hid (KEY.out (.inr (.inl hN0)))
      clear hN0 hcrc
      go_wp2_with fail
      refine (fault_err _ _ _).mono ?_
      rintro e w1 ⟨v, rfl, he, hb⟩
      go_wp2
      go_ret3
      exact ⟨of_drewN hb, .inr ⟨_, v, HOe.out, rfl, he⟩⟩
    have hz0 : ((N.toNat : Int) == 0) = false := by simp; omega
    by_cases hNb : 1048576 < N.toNat
    · have hz1 : (1048576 : Int) < (N.toNat : Int) := by omega
      have HOe := Lib.hid (KEY.out (.inr (.inr hNb)))
      clear hN0 hcrc
      go_wp2_with fail
      refine (fault_err _ _ _).mono ?_
      rintro e w1 ⟨v, rfl, he, hb⟩
      go_wp2
      go_ret3
      exact ⟨of_drewN hb, .inr ⟨_, v, HOe.out, rfl, he⟩⟩
    have k2 := KEY2.out hcrc hN0 (by omega)
    have hz1 : ¬ (1048576 : Int) < (N.toNat : Int) := by omega
    have cut := run_cut_from tB A n c 8 (by omega) (by omega)
    simp only [show (8 : Int).toNat = 8 from rfl] at cut
    by_cases hs : b.length < N.toNat + 12
    · rw [if_pos hs] at k2
      have hs' : ((n - 8 : Nat) : Int) < (N.toNat : Int) + 4 := by have := E.out; omega
      have HOe := Lib.hid k2
      clear k2 hcrc hN0
      go_wp2_with fail
      refine (fault_err _ _ _).mono ?_
      rintro e w1 ⟨v, rfl, he, hb⟩
      go_wp2
      go_ret3
      exact ⟨of_drewN hb, .inr ⟨_, v, HOe.out, rfl, he⟩⟩
    rw [if_neg hs] at k2
    have hs' : ¬ ((n - 8 : Nat) : Int) < (N.toNat : Int) + 4 := by have := E.out; omega
    have r8 : Rd w (cutA A c 8 1) ((b.drop 8).map B) := by
      have := hr.cut c 8 1 (b.length - 8) (by have := E.out; simp; omega) (by simp; omega)
      rwa [map_drop_take, List.take_of_length_le (by simp)] at this
    have e8 : n - 8 = (b.drop 8).length := by have := E.out; simp; omega
    have E8 := Lib.hid e8
    have K2 := Lib.hid k2
    clear k2 hcrc hN0 e8
    go_wp2_with fail
    refine (open_any (cutA A c 8 1) (n - 8) (c - 8) N.toNat (b.drop 8) _ E8.out (by have := E.out; simp; omega) (by omega) (by simp; omega) (r8.drewN _)).mono ?_
    rintro e w2 ⟨rfl, m3, rfl⟩
    generalize hO2 : (((un32l ((b.drop 8).drop N.toNat)).toNat : Int) == ((crc ((b.drop 8).take N.toNat)).toNat : Int)) = O2
    have HO2 := Lib.hid hO2
    clear hO2
    cases O2 with
    | false =>
      have k3 := K2.out
      rw [if_pos (fun h => by have h2 := HO2.out; rw [(NE.out _ _).2 h] at h2; cases h2)] at k3
      have HOe := Lib.hid k3
      clear k3
      go_wp2_with fail
      refine (fault_err _ _ _).mono ?_
      rintro e w1 ⟨v, rfl, he, hb⟩
      go_wp2
      go_ret3
      exact ⟨of_drewN hb, .inr ⟨_, v, HOe.out, rfl, he⟩⟩
    | true =>
      have k3 := K2.out
      rw [if_neg (fun h => h ((NE.out _ _).1 HO2.out))] at k3
      have HOe := Lib.hid k3
      have rp : Rd w (cutA A c 8 1) (((b.drop 8).take N.toNat).map B) := by rw [List.map_take]; exact r8.front _
      have lp : ((b.drop 8).take N.toNat).length = N.toNat := by have := E.out; simp; omega
      have LP := Lib.hid lp
      have cut2 := run_cut_to tB (cutA A c 8 1) (n - 8) (c - 8) N.toNat (by omega) (by omega)
      rw [Int.toNat_natCast] at cut2
      clear k3 lp
      go_wp2_with (at_builtin; refine wpList_app tB rfl _ _ rfl w.heap.size _ 0 [] rfl (World.ownsRow_nil _ _ _ _) _ N.toNat _ _ rfl (rp.drewN _) ?c1 one_bytes ?c2 ?c3 ?c4 ?_)
      case c1 => rw [List.length_map, LP.out, Nat.mul_one]
      case c2 => unfold maxLen; omega
      case c3 => omega
      case c4 => exact Nat.le_refl _
      intro v1 w1 ho1 hx1
      go_wp2
      go_ret3
      have hb1 := hx1.below (B := w.heap.size) (Nat.le_refl _) (fun k hk => by simp [Value.ownBlock] at hk)
      refine ⟨⟨hb1.os, hb1.tape, hb1.output, hb1.size, hb1.block⟩, .inl ⟨_, _, v1, HOe.out, ?_, ?_⟩⟩
      · refine congrArg (fun z => Ending.returned (.tuple #[v1, .int .i64 z, .nilIface])) ?_
        simp; omega
      · rw [LP.out]; simpa using ho1

end Go.Proofs.YtdmopnmifdjcnaaDoor
