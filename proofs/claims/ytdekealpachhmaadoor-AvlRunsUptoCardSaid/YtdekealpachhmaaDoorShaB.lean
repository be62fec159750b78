/- Layer 1: a sum's end by its contract. -/
import Derived.Test.YtdekealpachhmaaDoorShaA
import Derived.Deep.Cut
namespace Go.Proofs.YtdekealpachhmaaDoor
open Go Go.RowKit Go.Isth

/-- The last bytes while the length is being laid: the last k of eight are. -/
def tailK (rest : List UInt8) (m size k : Nat) : List UInt8 := rest ++ (128 :: (List.replicate (size - 9 - rest.length) 0 ++ ((List.replicate (8 - k) 0 ++ (be64 m).drop (8 - k)) ++ List.replicate (128 - size) 0)))
theorem tailK_length (rest : List UInt8) (m size k : Nat) (h : rest.length + 9 ≤ size) (hs : size ≤ 128) (hk : k ≤ 8) : (tailK rest m size k).length = 128 := by
  simp only [tailK, List.length_append, List.length_cons, List.length_replicate, List.length_drop, be64_length]
  omega
theorem tailK_zero (rest : List UInt8) (m size : Nat) (h : rest.length + 9 ≤ size) (hs : size ≤ 128) : (splice (List.replicate 128 (B 0)) 0 (rest.map B)).set rest.length (B 128) = (tailK rest m size 0).map B := by
  have e : List.replicate (128 - rest.length) (0 : UInt8) = 0 :: (List.replicate (size - 9 - rest.length) 0 ++ ((List.replicate 8 0 ++ []) ++ List.replicate (128 - size) 0)) := by
    rw [List.append_nil, List.replicate_append_replicate, List.replicate_append_replicate, show 128 - rest.length = (size - 9 - rest.length + (8 + (128 - size))) + 1 from by omega, List.replicate_succ]
  have e2 : splice (List.replicate 128 (B 0)) 0 (rest.map B) = (rest ++ List.replicate (128 - rest.length) 0).map B := by
    simp only [splice, List.take_zero, List.nil_append, Nat.zero_add, List.length_map, List.drop_replicate, List.map_append, List.map_replicate]
  rw [e2, e, ← List.map_set, List.set_append_right _ _ (Nat.le_refl _), Nat.sub_self, List.set_cons_zero]
  simp [tailK, be64_length]
theorem tailK_step (rest : List UInt8) (m size k : Nat) (h : rest.length + 9 ≤ size) (hs : size ≤ 128) (hk : k < 8) : ((tailK rest m size k).map B).set (size - 1 - k) (B ((be64 m)[7 - k]'(by rw [be64_length]; omega))) = (tailK rest m size (k + 1)).map B := by
  rw [← List.map_set]
  congr 1
  unfold tailK
  have e1 : List.replicate (8 - k) (0 : UInt8) = List.replicate (8 - (k + 1)) 0 ++ [0] := by rw [show 8 - k = 8 - (k + 1) + 1 from by omega, List.replicate_succ']
  have e2 : (be64 m).drop (8 - (k + 1)) = (be64 m)[7 - k]'(by rw [be64_length]; omega) :: (be64 m).drop (8 - k) := by
    rw [List.drop_eq_getElem_cons (by rw [be64_length]; omega), show 8 - (k + 1) + 1 = 8 - k from by omega]
    congr 1
    congr 1
    omega
  rw [e1, e2, List.set_append_right _ _ (by omega), show size - 1 - k - rest.length = (size - 2 - k - rest.length) + 1 from by omega, List.set_cons_succ, List.set_append_right _ _ (by rw [List.length_replicate]; omega), List.length_replicate,
    show size - 2 - k - rest.length - (size - 9 - rest.length) = 8 - (k + 1) from by omega, List.append_assoc, List.append_assoc, List.set_append_right _ _ (by rw [List.length_replicate]; exact Nat.le_refl _), List.length_replicate, Nat.sub_self]
  simp
theorem tailK_end (rest : List UInt8) (many size : Nat) (hs : tailSize rest.length = size) : (tailK rest (many * 8 % 18446744073709551616) size 8) = tailF rest many ++ List.replicate (128 - size) 0 := by
  unfold tailK tailF
  rw [hs]
  simp
theorem be64_val (many k : Nat) (hk : k < 8) : IntKind.u8.wrap (IntKind.u64.wrap ((many : Int) * 8) / 2 ^ (8 * k)) = ((((be64 (many * 8 % 18446744073709551616))[7 - k]'(by rw [be64_length]; omega)).toNat : Nat) : Int) := by
  have e : IntKind.u64.wrap ((many : Int) * 8) = ((many * 8 % 18446744073709551616 : Nat) : Int) := by
    simp only [IntKind.wrap, IntKind.bits, IntKind.signed, Bool.false_and, Bool.false_eq_true, if_false]
    omega
  rw [e]
  generalize many * 8 % 18446744073709551616 = m
  have e2 : (m : Int) / 2 ^ (8 * k) = ((m / 2 ^ (8 * k) : Nat) : Int) := by rw [Int.natCast_ediv, Int.natCast_pow]; rfl
  have e3 : ∀ x : Nat, IntKind.u8.wrap (x : Int) = ((UInt8.ofNat x).toNat : Int) := fun x => by
    simp only [IntKind.wrap, IntKind.bits, IntKind.signed, Bool.false_and, Bool.false_eq_true, if_false, UInt8.toNat_ofNat']
    omega
  rw [e2, e3]
  rcases k with _ | _ | _ | _ | _ | _ | _ | _ | k
  · simp [be64]
  · simp [be64]
  · simp [be64]
  · simp [be64]
  · simp [be64]
  · simp [be64]
  · simp [be64]
  · simp [be64]
  · omega
theorem be32_val (x : W32) (i : Nat) (hi : i < 4) : IntKind.u8.wrap ((x.toNat : Int) / 2 ^ (24 - 8 * i)) = ((((be32 x)[i]'(by rw [be32_length]; exact hi)).toNat : Nat) : Int) := by
  have e : IntKind.u8.wrap ((x.toNat : Int) / 2 ^ (24 - 8 * i)) = (x.toNat : Int) / 2 ^ (24 - 8 * i) % 256 := by
    simp only [IntKind.wrap, IntKind.bits, IntKind.signed, Bool.false_and, Bool.false_eq_true, if_false]
    omega
  rw [e, byte_of_shr]
  rcases i with _ | _ | _ | _ | i
  · rfl
  · rfl
  · rfl
  · show _ = (((⟨x.setWidth 8⟩ : UInt8)).toNat : Int)
    simp
  · omega

theorem mix0_any (p c : Nat) (A : Option Addr) (b : List UInt8) (s : R8) (tp : TypeId) (w : World) (hp : Blk w p tp (s.list.map U)) (hb : b.length = 64) (hr : Rd w A (b.map B)) (ht : TabLaid w) (hg : p ≠ 1) :
    Calls Tryd.prog 90 #[.pointer (some ⟨p, 0, none⟩), .slice A 64 c] w fun e w' => e = .returned (.tuple #[]) ∧ Blk w' p tp ((mixF s b).list.map U) ∧ w.grownBy w' (some p) :=
  (mix_any p 0 c A b s [] [] tp w (by simpa using hp) rfl hb hr ht hg).mono fun e w' ⟨h1, h2, h3⟩ => ⟨h1, by simpa using h2, h3⟩
theorem tail_rd {w : World} {g : Nat} {t : TypeId} {TF : List UInt8} {size : Nat} (h : Blk w g t ((TF ++ List.replicate (128 - size) 0).map B)) (hl : TF.length = size) (o : Nat) (ho : o + 64 ≤ size) : Rd w (some ⟨g, o, none⟩) (((TF.drop o).take 64).map B) := by
  have h2 := (h.rd o).front 64
  have e : (((TF ++ List.replicate (128 - size) 0).map B).drop o).take 64 = ((TF.drop o).take 64).map B := by
    rw [← List.map_drop, ← List.map_take, List.drop_append_of_le_length (by omega), List.take_append_of_le_length (by simp; omega)]
  rwa [e] at h2
theorem idx_words (r : R8) (k : Nat) (x : W32) (h : r.list[k]? = some x) : ∀ w : World, (Instr.index 165 (.agg (r.list.map U).toArray) (.int .i64 k)).run Tryd.prog w = .ok (U x) w := by
  obtain ⟨a, c, d, e, f, g, hh, i⟩ := r
  intro w
  rcases k with _ | _ | _ | _ | _ | _ | _ | _ | k
  all_goals first | (simp [R8.list] at h; subst h; kernel_rfl) | (simp [R8.list] at h)
theorem out_word (r : R8) (t : Nat) (h : t < 8) : ∃ x, r.list[t]? = some x ∧ ∀ i (hi : i < 4), (outF r)[4 * t + i]? = some ((be32 x)[i]'(by rw [be32_length]; exact hi)) := by
  obtain ⟨a, c, d, e, f, g, hh, i⟩ := r
  rcases t with _ | _ | _ | _ | _ | _ | _ | _ | t
  all_goals first
    | (refine ⟨_, rfl, fun j hj => ?_⟩
       rcases j with _ | _ | _ | _ | j
       · rfl
       · rfl
       · rfl
       · rfl
       · omega)
    | omega
def outK (o : List UInt8) (k : Nat) : List UInt8 := o.take k ++ List.replicate (32 - k) 0
theorem out_zero (o : List UInt8) : (outK o (4 * 0)).map B = List.replicate 32 (B 0) := by simp only [outK, Nat.mul_zero, List.take_zero, List.nil_append, List.map_replicate]
theorem out_full (o : List UInt8) (h : o.length = 32) : outK o (4 * 8) = o := by simp only [outK, Nat.reduceMul, Nat.sub_self, List.replicate_zero, List.append_nil]; exact List.take_of_length_le (by omega)
theorem out_len (o : List UInt8) (k : Nat) (h : o.length = 32) (hk : k ≤ 32) : (outK o k).length = 32 := by simp [outK]; omega
theorem out_set (o : List UInt8) (k : Nat) (x : UInt8) (h : o.length = 32) (hk : k < 32) (hx : o[k]? = some x) : ((outK o k).map B).set k (B x) = (outK o (k + 1)).map B := by
  obtain ⟨hl, rfl⟩ := List.getElem?_eq_some_iff.1 hx
  rw [← List.map_set]
  congr 1
  unfold outK
  have e : (o.take k).length = k := by rw [List.length_take]; omega
  rw [List.set_append_right _ _ (by rw [e]; exact Nat.le_refl _), e, Nat.sub_self, show 32 - k = (32 - (k + 1)) + 1 from by omega, List.replicate_succ, List.set_cons_zero, List.take_succ_eq_append_getElem hl, List.append_assoc]
  rfl
def EndInv3 (w : World) (g1 g3 : Nat) (o : List UInt8) (i : Value) (wr : World) : Prop :=
  ∃ k : Nat, i = .int .i64 k ∧ k ≤ 8 ∧ Blk wr g3 46 ((outK o (4 * k)).map B) ∧ Blk wr g1 46 (List.replicate 32 (B 0)) ∧ Below w.heap.size w wr
def EndInv4 (w : World) (g1 g3 : Nat) (o : List UInt8) (t : Nat) (i : Value) (wr : World) : Prop :=
  ∃ k : Nat, i = .int .i64 k ∧ k ≤ 4 ∧ Blk wr g3 46 ((outK o (4 * t + k)).map B) ∧ Blk wr g1 46 (List.replicate 32 (B 0)) ∧ Below w.heap.size w wr
def EndInv1 (w : World) (g1 g2 : Nat) (rest : List UInt8) (m size : Nat) (cs : List Value) (i : Value) (wr : World) : Prop :=
  ∃ k : Nat, i = .int .i64 k ∧ k ≤ 8 ∧ Blk wr g2 192 ((tailK rest m size k).map B) ∧ Blk wr w.heap.size 165 cs ∧ Blk wr g1 46 (List.replicate 32 (B 0)) ∧ Below w.heap.size w wr

set_option maxRecDepth 100000 in
set_option maxHeartbeats 4000000 in
theorem end_any (s : R8) (rest : List UInt8) (many c : Nat) (A : Option Addr) (w : World) (hn : rest.length < 64) (hm : many < 18446744073709551616) (hr : Rd w A (rest.map B)) (ht : TabLaid w) :
    Calls Tryd.prog 91 #[.agg (s.list.map U).toArray, .slice A rest.length c, .int .u64 many] w fun e w' => e = .returned (.agg ((endF s rest many).map B).toArray) ∧ Below w.heap.size w w' := by
  have HT := Lib.hid (And.intro hr (And.intro ht (And.intro hn hm)))
  clear hr ht hn hm
  go_enter Tryd.func91, Tryd.ntmps91
  go_upto_region 2 with fail
  have hz0 : Blk (((w.alloc (.cells (s.list.map U).toArray 165)).alloc (.cells (List.replicate 32 (B 0)).toArray 46)).alloc (.cells (List.replicate 128 (B 0)).toArray 192)) w.heap.size 165 (s.list.map U) := ((Blk_new w _ _).alloc _).alloc _
  have hz1 : Blk (((w.alloc (.cells (s.list.map U).toArray 165)).alloc (.cells (List.replicate 32 (B 0)).toArray 46)).alloc (.cells (List.replicate 128 (B 0)).toArray 192)) (w.heap.size + 1) 46 (List.replicate 32 (B 0)) := by
    have h := Blk_new (w.alloc (.cells (s.list.map U).toArray 165)) (List.replicate 32 (B 0)) 46
    rw [World.size_alloc] at h
    exact h.alloc _
  have hz2 : Blk (((w.alloc (.cells (s.list.map U).toArray 165)).alloc (.cells (List.replicate 32 (B 0)).toArray 46)).alloc (.cells (List.replicate 128 (B 0)).toArray 192)) (w.heap.size + 1 + 1) 192 (List.replicate 128 (B 0)) := by
    have h := Blk_new ((w.alloc (.cells (s.list.map U).toArray 165)).alloc (.cells (List.replicate 32 (B 0)).toArray 46)) (List.replicate 128 (B 0)) 192
    rwa [World.size_alloc, World.size_alloc] at h
  have hb0 : Below w.heap.size w (((w.alloc (.cells (s.list.map U).toArray 165)).alloc (.cells (List.replicate 32 (B 0)).toArray 46)).alloc (.cells (List.replicate 128 (B 0)).toArray 192)) := (((Below.refl _ _).alloc (Nat.le_refl _) _).alloc (by rw [World.size_alloc]; omega) _).alloc (by rw [World.size_alloc, World.size_alloc]; omega) _
  change Code.wp _ _ _ _ (((w.alloc (.cells (s.list.map U).toArray 165)).alloc (.cells (List.replicate 32 (B 0)).toArray 46)).alloc (.cells (List.replicate 128 (B 0)).toArray 192))
  generalize hw0 : (((w.alloc (.cells (s.list.map U).toArray 165)).alloc (.cells (List.replicate 32 (B 0)).toArray 46)).alloc (.cells (List.replicate 128 (B 0)).toArray 192)) = w0 at *
  clear hw0
  have HZ := Lib.hid (And.intro hz0 (And.intro hz1 (And.intro hz2 hb0)))
  have HR0 := Lib.hid (HT.out.1.below hb0)
  clear hz0 hz1 hz2 hb0
  have HMN : Hid ((rest.map B).length = Nat.min rest.length 128 ∧ 0 + (rest.map B).length ≤ (List.replicate 128 (B 0)).length) := Lib.hid ⟨by rw [List.length_map]; exact (Nat.min_eq_left (by have := HT.out.2.2.1; omega)).symm, by rw [List.length_map, List.length_replicate]; have := HT.out.2.2.1; omega⟩
  go_upto_region 3 with (refine wpList_copy_blk rfl (.tmp 16) (.tmp 17) 135 135 rfl 5 Tryd.underlying135 (by kernel_rfl) (w.heap.size + 1 + 1) 0 128 128 rest.length c A rfl rfl 192 (List.replicate 128 (B 0)) HZ.out.2.2.1 (rest.map B) HMN.out.1 HR0.out HMN.out.2 one_bytes ?_; intro w1 hw1 hg1)
  have hlt2 := HZ.out.2.2.1.lt
  generalize hg2e : w.heap.size + 1 + 1 = g2 at *
  generalize hg1e : w.heap.size + 1 = g1 at *
  have HE : Hid (g1 = w.heap.size + 1 ∧ g2 = w.heap.size + 2) := Lib.hid ⟨hg1e.symm, by omega⟩
  clear hg1e hg2e hlt2
  have hG : ∀ (wa wb : World), Below w.heap.size w wa → Blk wa w.heap.size 165 (s.list.map U) → Blk wa g1 46 (List.replicate 32 (B 0)) → wa.grownBy wb (some g2) → Blk wb w.heap.size 165 (s.list.map U) ∧ Blk wb g1 46 (List.replicate 32 (B 0)) ∧ Below w.heap.size w wb := fun wa wb hb h0 h1 hg =>
    ⟨h0.grown hg (by have := HE.out; simp; omega), h1.grown hg (by have := HE.out; simp; omega), hb.grown hg hb.size (fun k e => by injection e with e; have := HE.out; omega)⟩
  have HGR := Lib.hid hG
  clear hG
  obtain ⟨k0, k1, k2⟩ := HGR.out _ _ HZ.out.2.2.2 HZ.out.1 HZ.out.2.1 hg1
  have hlen1 : (splice (List.replicate 128 (B 0)) 0 (rest.map B)).length = 128 := by rw [length_splice _ _ _ HMN.out.2, List.length_replicate]
  obtain ⟨v0, hv0⟩ : ∃ v, w1.cell? ⟨g2, rest.length, none⟩ = some v := ⟨_, hw1.cell rest.length (by rw [hlen1]; have := HT.out.2.2.1; omega)⟩
  have hf0 := hw1.frozen rest.length
  have hset := hw1.set rest.length (B 128)
  have hri : (rest.length : Int) < 64 := by have := HT.out.2.2.1; omega
  have hri2 : (rest.length : Int) < 128 := by omega
  obtain ⟨j0, j1, j2⟩ := HGR.out _ _ k2 k0 k1 (grown_setC w1 g2 rest.length (B 128))
  have H1 := Lib.hid (And.intro hset (And.intro j0 (And.intro j1 j2)))
  clear hset j0 j1 j2 k0 k1 k2 hw1 hg1 hlen1
  obtain ⟨size, hsz⟩ : ∃ size, tailSize rest.length = size := ⟨_, rfl⟩
  have hs12 : size = 64 ∨ size = 128 := by unfold tailSize at hsz; split at hsz <;> omega
  have hfit : rest.length + 9 ≤ size := by unfold tailSize at hsz; have := HT.out.2.2.1; split at hsz <;> omega
  by_cases hbig : 64 < rest.length + 9
  · have hbi : (64 : Int) < (rest.length : Int) + 9 := by omega
    obtain rfl : size = 128 := by unfold tailSize at hsz; rw [if_pos hbig] at hsz; exact hsz.symm
    have HSZ := Lib.hid (And.intro hsz hfit)
    clear hsz hfit hs12 hbig
    go_wp2_with fail
    clear hv0 hf0 hbi
    go_loopw [24] (fun i wr => EndInv1 w g1 g2 rest (many * 8 % 18446744073709551616) 128 (s.list.map U) i wr) (fun i _ => 8 - (intOf i).toNat)
    case atStart => exact ⟨0, rfl, Nat.zero_le _, by rw [← tailK_zero rest _ 128 HSZ.out.2 (by omega)]; exact H1.out.1, H1.out.2.1, H1.out.2.2.1, H1.out.2.2.2⟩
    case round =>
      obtain ⟨k, rfl, hk, hT, h0, h1, hB⟩ := hrel
      by_cases hlt : k < 8
      · have hset := hT.set (128 - 1 - k) (B ((be64 (many * 8 % 18446744073709551616))[7 - k]'(by rw [be64_length]; omega)))
        rw [tailK_step rest _ 128 k HSZ.out.2 (by omega) hlt] at hset
        have hlenT := tailK_length rest (many * 8 % 18446744073709551616) 128 k HSZ.out.2 (by omega) (by omega)
        obtain ⟨v1, hv1⟩ : ∃ v, wr.cell? ⟨g2, 128 - 1 - k, none⟩ = some v := ⟨_, hT.cell (128 - 1 - k) (by rw [List.length_map, hlenT]; omega)⟩
        have hf1 := hT.frozen (128 - 1 - k)
        have hv := be64_val many k hlt
        generalize (be64 (many * 8 % 18446744073709551616))[7 - k]'(by rw [be64_length]; omega) = x at *
        obtain ⟨j0, j1, j2⟩ := HGR.out _ _ hB h0 h1 (grown_setC wr g2 (128 - 1 - k) (B x))
        have HS := Lib.hid (And.intro hset (And.intro j0 (And.intro j1 (And.intro j2 hlt))))
        have hk8 : (k : Int) < 8 := by omega
        have t1 : ((127 : Int) - (k : Int)).toNat = 128 - 1 - k := by omega
        have p1 : (0 : Int) ≤ (127 : Int) - (k : Int) := by omega
        have p2 : (k : Int) ≤ (127 : Int) := by omega
        clear hset hlenT j0 j1 j2 hT h0 h1 hB hlt hk
        go_wp2
        go_roundw
        case rel => exact ⟨k + 1, by go_num, HS.out.2.2.2.2, HS.out.1, HS.out.2.1, HS.out.2.2.1, HS.out.2.2.2.1⟩
        case measure => have := HS.out.2.2.2.2; simp [intOf]; omega
      · obtain rfl : k = 8 := by omega
        rw [tailK_end rest many 128 HSZ.out.1] at hT
        have hfl := tailF_length rest many HT.out.2.2.1
        rw [HSZ.out.1] at hfl
        generalize hTF : tailF rest many = TF at *
        have HTF := Lib.hid hTF
        have H2 := Lib.hid (And.intro hT (And.intro h0 (And.intro h1 (And.intro hB hfl))))
        clear hT h0 h1 hB hfl hTF hlt hk
        go_wp2_with fail
        refine wp_loop_rounds 3 ?_
        rw [rounds_succ]
        go_wp2_with fail
        refine (mix0_any w.heap.size 128 (some ⟨g2, 0, none⟩) (TF.take 64) s 165 wr H2.out.2.1 (by have := H2.out.2.2.2.2; simp; omega) (tail_rd H2.out.1 H2.out.2.2.2.2 0 (by omega)) (HT.out.2.1.below H2.out.2.2.2.1 HT.out.2.1.lt) (by have := HT.out.2.1.lt; omega)).mono ?_
        rintro e w2 ⟨rfl, hs2, hg2⟩
        have H3 := Lib.hid (And.intro hs2 (And.intro (H2.out.1.grown hg2 (by have := HE.out; simp; omega)) (And.intro (H2.out.2.2.1.grown hg2 (by have := HE.out; simp; omega)) (H2.out.2.2.2.1.grown hg2 H2.out.2.2.2.1.size (fun k e => by injection e with e; omega)))))
        clear hs2 hg2
        go_wp2_with fail
        rw [rounds_succ]
        go_wp2_with fail
        refine (mix0_any w.heap.size 64 (some ⟨g2, 64, none⟩) ((TF.drop 64).take 64) _ 165 w2 H3.out.1 (by have := H2.out.2.2.2.2; simp; omega) (tail_rd H3.out.2.1 H2.out.2.2.2.2 64 (by omega)) (HT.out.2.1.below H3.out.2.2.2 HT.out.2.1.lt) (by have := HT.out.2.1.lt; omega)).mono ?_
        rintro e w3 ⟨rfl, hs3, hg3⟩
        have H4 := Lib.hid (And.intro hs3 (And.intro (H3.out.2.1.grown hg3 (by have := HE.out; simp; omega)) (And.intro (H3.out.2.2.1.grown hg3 (by have := HE.out; simp; omega)) (H3.out.2.2.2.grown hg3 H3.out.2.2.2.size (fun k e => by injection e with e; omega)))))
        clear hs3 hg3
        go_wp2_with fail
        rw [rounds_succ]
        go_upto_region 18 with (refine wpList_load_blk rfl 165 (.tmp 3) rfl w.heap.size rfl 165 ((mixF (mixF s (TF.take 64)) ((TF.drop 64).take 64)).list.map U) _ (H4.out.1.alloc _) Tryd.underlying165 rfl (by kernel_rfl) ?_)
        have HRN : Hid (outF (mixF (mixF s (TF.take 64)) ((TF.drop 64).take 64)) = endF s rest many) := Lib.hid (by unfold endF; rw [HSZ.out.1, HTF.out]; rfl)
        have H9 := Lib.hid (And.intro True.intro (And.intro H4.out.2.2.1 (And.intro H4.out.2.2.2 (And.intro (Blk_new w3 (List.replicate 32 (B 0)) 46) (And.intro (H4.out.2.2.1.alloc (.cells (List.replicate 32 (B 0)).toArray 46)) (H4.out.2.2.2.alloc H4.out.2.2.2.size (.cells (List.replicate 32 (B 0)).toArray 46)))))))
        generalize (mixF (mixF s (TF.take 64)) ((TF.drop 64).take 64)) = rN at *
        change Code.wp _ _ _ _ (w3.alloc (.cells (List.replicate 32 (B 0)).toArray 46))
        generalize hw9 : w3 = w9 at *
        go_loopw [51] (fun i wr => EndInv3 w g1 w9.heap.size (endF s rest many) i wr) (fun i _ => 8 - (intOf i).toNat)
        case atStart => exact ⟨0, rfl, Nat.zero_le _, by rw [out_zero]; exact H9.out.2.2.2.1, H9.out.2.2.2.2.1, H9.out.2.2.2.2.2⟩
        case round =>
          obtain ⟨t, rfl, ht, hO, hz, hBB⟩ := hrel
          by_cases htl : t < 8
          · obtain ⟨x, hx, hxo⟩ := out_word rN t htl
            have hix := idx_words rN t x hx
            have H10 := Lib.hid (And.intro hO (And.intro hz (And.intro hBB (And.intro htl hxo))))
            have htb : (t : Int) < 8 := by omega
            clear hO hz hBB htl hx hxo ht
            go_wp2_with fail
            go_loopw [55] (fun i wr => EndInv4 w g1 w9.heap.size (endF s rest many) t i wr) (fun i _ => 4 - (intOf i).toNat)
            case atStart => exact ⟨0, rfl, Nat.zero_le _, H10.out.1, H10.out.2.1, H10.out.2.2.1⟩
            case round =>
              obtain ⟨i, rfl, hi, hO, hz, hBB⟩ := hrel
              by_cases hil : i < 4
              · have hv := be32_val x i hil
                have hoe := H10.out.2.2.2.2 i hil
                rw [HRN.out] at hoe
                generalize (be32 x)[i]'(by rw [be32_length]; exact hil) = y at *
                have hset := hO.set (4 * t + i) (B y)
                rw [out_set (endF s rest many) (4 * t + i) y (endF_length _ _ _) (by have := H10.out.2.2.2.1; omega) hoe] at hset
                obtain ⟨v2, hv2⟩ : ∃ v, wr.cell? ⟨w9.heap.size, 4 * t + i, none⟩ = some v := ⟨_, hO.cell (4 * t + i) (by rw [List.length_map, out_len _ _ (endF_length _ _ _) (by have := H10.out.2.2.2.1; omega)]; have := H10.out.2.2.2.1; omega)⟩
                have hf2 := hO.frozen (4 * t + i)
                have hz' := hz.grown (grown_setC wr w9.heap.size (4 * t + i) (B y)) (by have := H9.out.2.1.lt; simp; omega)
                have hB' := hBB.setCell (p := ⟨w9.heap.size, 4 * t + i, none⟩) (Nat.le_trans H9.out.2.2.1.size (Nat.le_refl _)) (B y)
                have H11 := Lib.hid (And.intro hset (And.intro hz' (And.intro hB' hil)))
                have hib : (i : Int) < 4 := by omega
                have s1 : (0 : Int) ≤ 24 - 8 * (i : Int) := by omega
                have s2 : (24 - 8 * (i : Int)).toNat = 24 - 8 * i := by omega
                have s3 : (4 * (t : Int) + (i : Int)).toNat = 4 * t + i := by omega
                have s4 : 4 * (t : Int) + (i : Int) < 32 := by omega
                have s5 : (0 : Int) ≤ 4 * (t : Int) + (i : Int) := by omega
                have s6 : IntKind.u64.wrap (24 - 8 * (i : Int)) = 24 - 8 * (i : Int) := by
                  simp only [IntKind.wrap, IntKind.bits, IntKind.signed, Bool.false_and, Bool.false_eq_true, if_false]
                  omega
                clear hset hz' hB' hil hoe hO hz hBB hi
                go_wp2
                go_roundw
                case rel => exact ⟨i + 1, by go_num, H11.out.2.2.2, H11.out.1, H11.out.2.1, H11.out.2.2.1⟩
                case measure => have := H11.out.2.2.2; simp [intOf]; omega
              · obtain rfl : i = 4 := by omega
                have H11 := Lib.hid (And.intro hO (And.intro hz hBB))
                clear hO hz hBB hil hi
                go_wp2
                go_roundw
                case rel => exact ⟨t + 1, by go_num, H10.out.2.2.2.1, H11.out.1, H11.out.2.1, H11.out.2.2⟩
                case measure => have := H10.out.2.2.2.1; simp [intOf]; omega
          · obtain rfl : t = 8 := by omega
            rw [out_full _ (endF_length _ _ _)] at hO
            have H12 := Lib.hid (And.intro hO (And.intro hz hBB))
            have HL := Lib.hid (show (some 32 : Option Nat) = some ((endF s rest many).map B).length by rw [List.length_map, endF_length])
            clear hO hz hBB htl ht
            go_wp2_with (first
              | refine wpList_load_blk rfl 46 (.tmp 12) rfl w9.heap.size rfl 46 _ _ H12.out.1 Tryd.underlying46 rfl (Eq.trans (by kernel_rfl) HL.out) ?_
              | (refine wpList_store_blk rfl 46 (.tmp 6) (.tmp 72) rfl g1 ((endF s rest many).map B) rfl rfl 46 _ H12.out.2.1 (Eq.trans (by kernel_rfl) HL.out) (by rw [List.length_map, endF_length, List.length_replicate]) one_bytes ?_; intro w12 hw12 hg12))
            refine bodyPost_ret (results_blk rfl _ _ g1 46 ((endF s rest many).map B) _ rfl hw12 Tryd.underlying46 rfl (Eq.trans (by kernel_rfl) HL.out)) rfl ⟨rfl, ?_⟩
            exact H12.out.2.2.grown hg12 H12.out.2.2.size (fun k e => by injection e with e; have := HE.out; omega)
  · have hbi : (rest.length : Int) + 9 ≤ 64 := by omega
    obtain rfl : size = 64 := by unfold tailSize at hsz; rw [if_neg hbig] at hsz; exact hsz.symm
    have HSZ := Lib.hid (And.intro hsz hfit)
    clear hsz hfit hs12 hbig
    go_wp2_with fail
    clear hv0 hf0 hbi
    go_loopw [24] (fun i wr => EndInv1 w g1 g2 rest (many * 8 % 18446744073709551616) 64 (s.list.map U) i wr) (fun i _ => 8 - (intOf i).toNat)
    case atStart => exact ⟨0, rfl, Nat.zero_le _, by rw [← tailK_zero rest _ 64 HSZ.out.2 (by omega)]; exact H1.out.1, H1.out.2.1, H1.out.2.2.1, H1.out.2.2.2⟩
    case round =>
      obtain ⟨k, rfl, hk, hT, h0, h1, hB⟩ := hrel
      by_cases hlt : k < 8
      · have hset := hT.set (64 - 1 - k) (B ((be64 (many * 8 % 18446744073709551616))[7 - k]'(by rw [be64_length]; omega)))
        rw [tailK_step rest _ 64 k HSZ.out.2 (by omega) hlt] at hset
        have hlenT := tailK_length rest (many * 8 % 18446744073709551616) 64 k HSZ.out.2 (by omega) (by omega)
        obtain ⟨v1, hv1⟩ : ∃ v, wr.cell? ⟨g2, 64 - 1 - k, none⟩ = some v := ⟨_, hT.cell (64 - 1 - k) (by rw [List.length_map, hlenT]; omega)⟩
        have hf1 := hT.frozen (64 - 1 - k)
        have hv := be64_val many k hlt
        generalize (be64 (many * 8 % 18446744073709551616))[7 - k]'(by rw [be64_length]; omega) = x at *
        obtain ⟨j0, j1, j2⟩ := HGR.out _ _ hB h0 h1 (grown_setC wr g2 (64 - 1 - k) (B x))
        have HS := Lib.hid (And.intro hset (And.intro j0 (And.intro j1 (And.intro j2 hlt))))
        have hk8 : (k : Int) < 8 := by omega
        have t1 : ((63 : Int) - (k : Int)).toNat = 64 - 1 - k := by omega
        have p1 : (0 : Int) ≤ (63 : Int) - (k : Int) := by omega
        have p2 : (k : Int) ≤ (63 : Int) := by omega
        clear hset hlenT j0 j1 j2 hT h0 h1 hB hlt hk
        go_wp2
        go_roundw
        case rel => exact ⟨k + 1, by go_num, HS.out.2.2.2.2, HS.out.1, HS.out.2.1, HS.out.2.2.1, HS.out.2.2.2.1⟩
        case measure => have := HS.out.2.2.2.2; simp [intOf]; omega
      · obtain rfl : k = 8 := by omega
        rw [tailK_end rest many 64 HSZ.out.1] at hT
        have hfl := tailF_length rest many HT.out.2.2.1
        rw [HSZ.out.1] at hfl
        generalize hTF : tailF rest many = TF at *
        have HTF := Lib.hid hTF
        have H2 := Lib.hid (And.intro hT (And.intro h0 (And.intro h1 (And.intro hB hfl))))
        clear hT h0 h1 hB hfl hTF hlt hk
        go_wp2_with fail
        refine wp_loop_rounds 2 ?_
        rw [rounds_succ]
        go_wp2_with fail
        refine (mix0_any w.heap.size 128 (some ⟨g2, 0, none⟩) (TF.take 64) s 165 wr H2.out.2.1 (by have := H2.out.2.2.2.2; simp; omega) (tail_rd H2.out.1 H2.out.2.2.2.2 0 (by omega)) (HT.out.2.1.below H2.out.2.2.2.1 HT.out.2.1.lt) (by have := HT.out.2.1.lt; omega)).mono ?_
        rintro e w2 ⟨rfl, hs2, hg2⟩
        have H3 := Lib.hid (And.intro hs2 (And.intro (H2.out.1.grown hg2 (by have := HE.out; simp; omega)) (And.intro (H2.out.2.2.1.grown hg2 (by have := HE.out; simp; omega)) (H2.out.2.2.2.1.grown hg2 H2.out.2.2.2.1.size (fun k e => by injection e with e; omega)))))
        clear hs2 hg2
        go_wp2_with fail
        rw [rounds_succ]
        go_upto_region 18 with (refine wpList_load_blk rfl 165 (.tmp 3) rfl w.heap.size rfl 165 ((mixF s (TF.take 64)).list.map U) _ (H3.out.1.alloc _) Tryd.underlying165 rfl (by kernel_rfl) ?_)
        have HRN : Hid (outF (mixF s (TF.take 64)) = endF s rest many) := Lib.hid (by unfold endF; rw [HSZ.out.1, HTF.out]; rfl)
        have H9 := Lib.hid (And.intro True.intro (And.intro H3.out.2.2.1 (And.intro H3.out.2.2.2 (And.intro (Blk_new w2 (List.replicate 32 (B 0)) 46) (And.intro (H3.out.2.2.1.alloc (.cells (List.replicate 32 (B 0)).toArray 46)) (H3.out.2.2.2.alloc H3.out.2.2.2.size (.cells (List.replicate 32 (B 0)).toArray 46)))))))
        generalize (mixF s (TF.take 64)) = rN at *
        change Code.wp _ _ _ _ (w2.alloc (.cells (List.replicate 32 (B 0)).toArray 46))
        generalize hw9 : w2 = w9 at *
        go_loopw [51] (fun i wr => EndInv3 w g1 w9.heap.size (endF s rest many) i wr) (fun i _ => 8 - (intOf i).toNat)
        case atStart => exact ⟨0, rfl, Nat.zero_le _, by rw [out_zero]; exact H9.out.2.2.2.1, H9.out.2.2.2.2.1, H9.out.2.2.2.2.2⟩
        case round =>
          obtain ⟨t, rfl, ht, hO, hz, hBB⟩ := hrel
          by_cases htl : t < 8
          · obtain ⟨x, hx, hxo⟩ := out_word rN t htl
            have hix := idx_words rN t x hx
            have H10 := Lib.hid (And.intro hO (And.intro hz (And.intro hBB (And.intro htl hxo))))
            have htb : (t : Int) < 8 := by omega
            clear hO hz hBB htl hx hxo ht
            go_wp2_with fail
            go_loopw [55] (fun i wr => EndInv4 w g1 w9.heap.size (endF s rest many) t i wr) (fun i _ => 4 - (intOf i).toNat)
            case atStart => exact ⟨0, rfl, Nat.zero_le _, H10.out.1, H10.out.2.1, H10.out.2.2.1⟩
            case round =>
              obtain ⟨i, rfl, hi, hO, hz, hBB⟩ := hrel
              by_cases hil : i < 4
              · have hv := be32_val x i hil
                have hoe := H10.out.2.2.2.2 i hil
                rw [HRN.out] at hoe
                generalize (be32 x)[i]'(by rw [be32_length]; exact hil) = y at *
                have hset := hO.set (4 * t + i) (B y)
                rw [out_set (endF s rest many) (4 * t + i) y (endF_length _ _ _) (by have := H10.out.2.2.2.1; omega) hoe] at hset
                obtain ⟨v2, hv2⟩ : ∃ v, wr.cell? ⟨w9.heap.size, 4 * t + i, none⟩ = some v := ⟨_, hO.cell (4 * t + i) (by rw [List.length_map, out_len _ _ (endF_length _ _ _) (by have := H10.out.2.2.2.1; omega)]; have := H10.out.2.2.2.1; omega)⟩
                have hf2 := hO.frozen (4 * t + i)
                have hz' := hz.grown (grown_setC wr w9.heap.size (4 * t + i) (B y)) (by have := H9.out.2.1.lt; simp; omega)
                have hB' := hBB.setCell (p := ⟨w9.heap.size, 4 * t + i, none⟩) (Nat.le_trans H9.out.2.2.1.size (Nat.le_refl _)) (B y)
                have H11 := Lib.hid (And.intro hset (And.intro hz' (And.intro hB' hil)))
                have hib : (i : Int) < 4 := by omega
                have s1 : (0 : Int) ≤ 24 - 8 * (i : Int) := by omega
                have s2 : (24 - 8 * (i : Int)).toNat = 24 - 8 * i := by omega
                have s3 : (4 * (t : Int) + (i : Int)).toNat = 4 * t + i := by omega
                have s4 : 4 * (t : Int) + (i : Int) < 32 := by omega
                have s5 : (0 : Int) ≤ 4 * (t : Int) + (i : Int) := by omega
                have s6 : IntKind.u64.wrap (24 - 8 * (i : Int)) = 24 - 8 * (i : Int) := by
                  simp only [IntKind.wrap, IntKind.bits, IntKind.signed, Bool.false_and, Bool.false_eq_true, if_false]
                  omega
                clear hset hz' hB' hil hoe hO hz hBB hi
                go_wp2
                go_roundw
                case rel => exact ⟨i + 1, by go_num, H11.out.2.2.2, H11.out.1, H11.out.2.1, H11.out.2.2.1⟩
                case measure => have := H11.out.2.2.2; simp [intOf]; omega
              · obtain rfl : i = 4 := by omega
                have H11 := Lib.hid (And.intro hO (And.intro hz hBB))
                clear hO hz hBB hil hi
                go_wp2
                go_roundw
                case rel => exact ⟨t + 1, by go_num, H10.out.2.2.2.1, H11.out.1, H11.out.2.1, H11.out.2.2⟩
                case measure => have := H10.out.2.2.2.1; simp [intOf]; omega
          · obtain rfl : t = 8 := by omega
            rw [out_full _ (endF_length _ _ _)] at hO
            have H12 := Lib.hid (And.intro hO (And.intro hz hBB))
            have HL := Lib.hid (show (some 32 : Option Nat) = some ((endF s rest many).map B).length by rw [List.length_map, endF_length])
            clear hO hz hBB htl ht
            go_wp2_with (first
              | refine wpList_load_blk rfl 46 (.tmp 12) rfl w9.heap.size rfl 46 _ _ H12.out.1 Tryd.underlying46 rfl (Eq.trans (by kernel_rfl) HL.out) ?_
              | (refine wpList_store_blk rfl 46 (.tmp 6) (.tmp 72) rfl g1 ((endF s rest many).map B) rfl rfl 46 _ H12.out.2.1 (Eq.trans (by kernel_rfl) HL.out) (by rw [List.length_map, endF_length, List.length_replicate]) one_bytes ?_; intro w12 hw12 hg12))
            refine bodyPost_ret (results_blk rfl _ _ g1 46 ((endF s rest many).map B) _ rfl hw12 Tryd.underlying46 rfl (Eq.trans (by kernel_rfl) HL.out)) rfl ⟨rfl, ?_⟩
            exact H12.out.2.2.grown hg12 H12.out.2.2.size (fun k e => by injection e with e; have := HE.out; omega)
#print axioms end_any
end Go.Proofs.YtdekealpachhmaaDoor
