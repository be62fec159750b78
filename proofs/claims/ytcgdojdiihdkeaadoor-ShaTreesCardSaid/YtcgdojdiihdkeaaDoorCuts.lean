/- ShaCuts: the walk. -/
import Derived.Test.YtcgdojdiihdkeaaDoorText
import Derived.Test.YtcgdojdiihdkeaaDoorEqH
namespace Go.Proofs.YtcgdojdiihdkeaaDoor
open Go Go.RowKit Go.Isth

theorem aHash : ArrB Tryd.prog 28 5 32 := ⟨Tryd.underlying28, Tryd.underlying5, by kernel_rfl, by kernel_rfl, by kernel_rfl⟩
/-- Two sums under way beside each other. -/
structure Apart (h : Nat) (v : Value) (g : Nat) (u : Value) : Prop where
  ne : g ≠ h
  vg : v.ownBlock ≠ some g
  uh : u.ownBlock ≠ some h
  vu : ∀ k, u.ownBlock = some k → v.ownBlock ≠ some k
theorem Apart.symm {h : Nat} {v : Value} {g : Nat} {u : Value} (a : Apart h v g u) : Apart g u h v :=
  ⟨fun e => a.ne e.symm, a.uh, a.vg, fun k e e' => a.vu k e' e⟩
theorem HashIs.beside {w w' : World} {base h g : Nat} {v v' u : Value} {ys : List UInt8} (G : HashIs w base g u ys) (x : WExt w w' h v v') (a : Apart h v g u) : HashIs w' base g u ys ∧ Apart h v' g u := by
  refine ⟨G.keep x.size (x.block g G.blk.lt a.ne a.vg) (fun k e => x.block k (G.tail.lt k e).2 (fun e' => a.uh (by rw [e, e'])) (a.vu k e)), a.ne, ?_, a.uh, ?_⟩
  · rcases x.same with e | e
    · rw [e]; exact a.vg
    · intro e'; have := e g e'; have := G.blk.lt; omega
  · intro k e
    rcases x.same with e1 | e1
    · rw [e1]; exact a.vu k e
    · intro e'; have := e1 k e'; have := (G.tail.lt k e).2; omega
theorem HashIs.rd_ne {w w0 : World} {h : Nat} {v : Value} {bs ys : List UInt8} {A : Option Addr} (H : HashIs w w0.heap.size h v bs) (hr : Rd w0 A (ys.map B)) : ∀ ad, A = some ad → 0 < ys.length → ad.block ≠ h := by
  intro ad e hp
  obtain ⟨b, o, e2, hc⟩ := hr (by simpa using hp)
  rw [e] at e2; injection e2 with e2; subst e2
  have := World.block_lt_of_cell? w0 _ (hc 0 _ (List.getElem?_eq_getElem (by simpa using hp)))
  have := H.at_
  simp at *; omega
theorem write_to (A : Option Addr) (c m base h : Nat) (v : Value) (bs xs : List UInt8) (w w0 : World) (hm0 : m = xs.length) (hB : base = w0.heap.size) (hw : Below w0.heap.size w0 w) (H : HashIs w base h v bs) (hm : bs.length + xs.length ≤ 140737488355328) (hr : Rd w0 A (xs.map B)) (ht : TabLaid w0) :
    Calls Tryd.prog 14 #[PtrH h, .slice A m c] w fun e w' => e = .returned (.tuple #[]) ∧ ∃ v', HashIs w' base h v' (bs ++ xs) ∧ WExt w w' h v v' ∧ Below w0.heap.size w0 w' := by
  subst hm0; subst hB
  refine (write_any A c _ h v bs xs w H hm (hr.below hw) (H.rd_ne hr) (ht.below hw ht.lt) ht.lt).mono ?_
  rintro e w' ⟨rfl, v', h1, h2⟩
  exact ⟨rfl, v', h1, h2, hw.trans (h2.below H.at_ hw.size (fun k e => (H.tail.lt k e).1))⟩
theorem rd_from {A : Option Addr} {bs : List UInt8} {w : World} (c i : Nat) (hr : Rd w A (bs.map B)) (hi : i ≤ bs.length) (hc : bs.length ≤ c) : Rd w (cutA A c i 1) ((bs.drop i).map B) := by
  have h := hr.cut c i 1 (bs.length - i) (by simp; omega) (by simp; omega)
  rwa [Nat.mul_one, ← List.map_drop, List.take_of_length_le (by simp)] at h
theorem rd_mid {A : Option Addr} {bs : List UInt8} {w : World} (c i m : Nat) (hr : Rd w A (bs.map B)) (hi : i + m ≤ bs.length) (hc : bs.length ≤ c) : Rd w (cutA A c i 1) (((bs.drop i).take m).map B) := by
  have h := hr.cut c i 1 m (by simp; omega) (by simp; omega)
  rwa [Nat.mul_one, ← List.map_drop, ← List.map_take] at h
theorem cut3 (bs : List UInt8) (a b : Nat) (hab : a ≤ b) : (bs.take a ++ (bs.drop a).take (b - a)) ++ bs.drop b = bs := by
  have e : bs.drop b = (bs.drop a).drop (b - a) := by rw [List.drop_drop]; congr 1; omega
  rw [List.append_assoc, e, List.take_append_drop, List.take_append_drop]
set_option maxRecDepth 100000 in
set_option maxHeartbeats 4000000 in
theorem cuts_any (A : Option Addr) (c : Nat) (bs : List UInt8) (i k : Int) (w : World) (hc : bs.length ≤ c) (hm : bs.length ≤ 140737488355328) (hr : Rd w A (bs.map B)) (ht : TabLaid w) :
    Calls Tryd.prog 3 #[.slice A bs.length c, .int .i64 i, .int .i64 k] w fun e w' => e = .returned (.bool true) ∧ Below w.heap.size w w' := by
  obtain ⟨p, hp, hu1, hu2, hu3, hp1⟩ := umod_len i bs.length (by omega)
  obtain ⟨q, hq, _, _, _, hq1⟩ := umod_len k bs.length (by omega)
  have HT := Lib.hid (And.intro hc (And.intro hm (And.intro hr (And.intro ht (And.intro hp hq)))))
  clear hc hm hr ht hp hq
  go_enter Tryd.func3, Tryd.ntmps3
  go_wp2_with fail
  go_region
  clear hu1 hu2 hu3 hp1 hq1
  obtain ⟨a, b, hor, hab, hbl⟩ : ∃ a b : Nat, ((q < p ∧ a = q ∧ b = p) ∨ (p ≤ q ∧ a = p ∧ b = q)) ∧ a ≤ b ∧ b ≤ bs.length := by
    have := HT.out.2.2.2.2
    rcases Nat.lt_or_ge q p with h | h
    · exact ⟨q, p, .inl ⟨h, rfl, rfl⟩, by omega, by omega⟩
    · exact ⟨p, q, .inr ⟨h, rfl, rfl⟩, by omega, by omega⟩
  have HAB := Lib.hid (And.intro hab hbl)
  have ca : ∀ wx, _ := fun wx => run_cut_to tBs A bs.length c (a : Int) (by omega) (by have := HT.out; omega) wx
  have cm : ∀ wx, _ := fun wx => run_cut_mid tBs A bs.length c (a : Int) (b : Int) (by omega) (by omega) (by have := HT.out; omega) wx
  have cb : ∀ wx, _ := fun wx => run_cut_from tBs A bs.length c (b : Int) (by omega) (by omega) wx
  have cg : ∀ wx, _ := fun wx => run_cut_from tBs A bs.length c (a : Int) (by omega) (by omega) wx
  simp only [Int.toNat_natCast] at ca cm cb cg
  have heq : ∀ wx, _ := fun wx => run_eql_bytes aHash wx (sumF bs) (sumF bs) (sumF_length _) (sumF_length _)
  simp only [beq_self_eq_true] at heq
  clear hab hbl
  rcases hor with ⟨hlt, rfl, rfl⟩ | ⟨hlt, rfl, rfl⟩
  all_goals
    have hli : (a : Int) ≤ (b : Int) := by have := HAB.out; omega
    have hlf : ¬ ((b : Int) < (a : Int)) := by omega
    go_wp2_with fail
    refine (newH_any _).mono ?_
    rintro e w1 ⟨h, rfl, h1, hb1⟩
    have H1 := Lib.hid (And.intro h1 ((Below.refl w.heap.size w).trans (show Below w.heap.size w w1 from ⟨hb1.os, hb1.tape, hb1.output, hb1.size, hb1.block⟩)))
    clear h1 hb1
    go_wp2_with fail
    refine (write_to A c a w.heap.size h _ [] (bs.take a) w1 w (by have := HAB.out; simp; omega) rfl H1.out.2 H1.out.1 (by have := HT.out; simp; omega) (by rw [List.map_take]; exact HT.out.2.2.1.front a) HT.out.2.2.2.1).mono ?_
    rintro e w2 ⟨rfl, v2, h2, x2, hb2⟩
    rw [List.nil_append] at h2
    have H2 := Lib.hid (And.intro h2 hb2)
    clear h2 x2 hb2 ca
    go_wp2_with fail
    refine (clone_any w.heap.size h v2 (bs.take a) w2 H2.out.1).mono ?_
    rintro e w3 ⟨g, u3, rfl, g3, hg, hu, hb3⟩
    have h3 := H2.out.1.below hb3
    have ap : Apart h v2 g u3 := ⟨by have := H2.out.1.blk.lt; omega, fun e => by have := (H2.out.1.tail.lt _ e).2; omega, fun e => by have := hu _ e; have := H2.out.1.blk.lt; omega, fun k e e' => by have := hu _ e; have := (H2.out.1.tail.lt _ e').2; omega⟩
    have H3 := Lib.hid (And.intro h3 (And.intro g3 (And.intro ap (below_then H2.out.2 H2.out.2.size hb3))))
    clear h3 g3 ap hb3 hg hu
    go_wp2_with fail
    refine (write_to _ _ _ w.heap.size h _ (bs.take a) ((bs.drop a).take (b - a)) w3 w (by have := HAB.out; simp; omega) rfl H3.out.2.2.2 H3.out.1 (by have := HT.out; have := HAB.out; simp; omega) (rd_mid c a (b - a) HT.out.2.2.1 (by have := HAB.out; omega) HT.out.1) HT.out.2.2.2.1).mono ?_
    rintro e w4 ⟨rfl, v4, h4, x4, hb4⟩
    obtain ⟨g4, ap4⟩ := H3.out.2.1.beside x4 H3.out.2.2.1
    have H4 := Lib.hid (And.intro h4 (And.intro g4 (And.intro ap4 hb4)))
    clear h4 x4 hb4 g4 ap4 cm
    go_wp2_with fail
    refine (write_to _ _ _ w.heap.size h _ _ (bs.drop b) w4 w (by simp) rfl H4.out.2.2.2 H4.out.1 (by have := HT.out; have := HAB.out; simp; omega) (rd_from c b HT.out.2.2.1 HAB.out.2 HT.out.1) HT.out.2.2.2.1).mono ?_
    rintro e w5 ⟨rfl, v5, h5, x5, hb5⟩
    obtain ⟨g5, ap5⟩ := H4.out.2.1.beside x5 H4.out.2.2.1
    rw [cut3 bs a b HAB.out.1] at h5
    have H5 := Lib.hid (And.intro h5 (And.intro g5 (And.intro ap5 hb5)))
    clear h5 x5 hb5 g5 ap5 cb
    go_wp2_with fail
    refine (write_to _ _ _ w.heap.size g _ _ (bs.drop a) w5 w (by simp) rfl H5.out.2.2.2 H5.out.2.1 (by have := HT.out; have := HAB.out; simp; omega) (rd_from c a HT.out.2.2.1 (by have := HAB.out; omega) HT.out.1) HT.out.2.2.2.1).mono ?_
    rintro e w6 ⟨rfl, u6, g6, x6, hb6⟩
    obtain ⟨h6, _⟩ := H5.out.1.beside x6 H5.out.2.2.1.symm
    rw [List.take_append_drop] at g6
    have H6 := Lib.hid (And.intro h6 (And.intro g6 hb6))
    clear h6 g6 x6 hb6 cg
    go_wp2_with fail
    refine (hsum_any w.heap.size h v5 bs w6 H6.out.1 (HT.out.2.2.2.1.below H6.out.2.2 HT.out.2.2.2.1.lt)).mono ?_
    rintro e w7 ⟨rfl, hb⟩
    have H7 := Lib.hid (And.intro (H6.out.1.below hb) (And.intro (H6.out.2.1.below hb) (below_then H6.out.2.2 H6.out.2.2.size hb)))
    clear hb
    go_wp2_with fail
    refine (sum_any A c bs w7 HT.out.1 HT.out.2.1 (HT.out.2.2.1.below H7.out.2.2) (HT.out.2.2.2.1.below H7.out.2.2 HT.out.2.2.2.1.lt)).mono ?_
    rintro e w8 ⟨rfl, hb⟩
    have H8 := Lib.hid (And.intro (H7.out.1.below hb) (And.intro (H7.out.2.1.below hb) (below_then H7.out.2.2 H7.out.2.2.size hb)))
    clear hb
    go_wp2_with fail
    refine (hsum_any w.heap.size g u6 bs w8 H8.out.2.1 (HT.out.2.2.2.1.below H8.out.2.2 HT.out.2.2.2.1.lt)).mono ?_
    rintro e w9 ⟨rfl, hb⟩
    have H9 := Lib.hid (And.intro (H8.out.1.below hb) (And.intro (H8.out.2.1.below hb) (below_then H8.out.2.2 H8.out.2.2.size hb)))
    clear hb
    go_wp2_with fail
    refine (sum_any A c bs w9 HT.out.1 HT.out.2.1 (HT.out.2.2.1.below H9.out.2.2) (HT.out.2.2.2.1.below H9.out.2.2 HT.out.2.2.2.1.lt)).mono ?_
    rintro e w10 ⟨rfl, hb⟩
    have H10 := Lib.hid (And.intro (H9.out.1.below hb) (And.intro (H9.out.2.1.below hb) (below_then H9.out.2.2 H9.out.2.2.size hb)))
    clear hb
    go_wp2_with fail
    refine (hsum_any w.heap.size h v5 bs w10 H10.out.1 (HT.out.2.2.2.1.below H10.out.2.2 HT.out.2.2.2.1.lt)).mono ?_
    rintro e w11 ⟨rfl, hb⟩
    have H11 := Lib.hid (And.intro (H10.out.1.below hb) (And.intro (H10.out.2.1.below hb) (below_then H10.out.2.2 H10.out.2.2.size hb)))
    clear hb
    go_wp2_with fail
    refine (hsum_any w.heap.size h v5 bs w11 H11.out.1 (HT.out.2.2.2.1.below H11.out.2.2 HT.out.2.2.2.1.lt)).mono ?_
    rintro e w12 ⟨rfl, hb⟩
    have H12 := Lib.hid (And.intro (H11.out.1.below hb) (And.intro (H11.out.2.1.below hb) (below_then H11.out.2.2 H11.out.2.2.size hb)))
    clear hb
    go_wp2_with fail
    refine (sure01_any w12 (HT.out.2.2.2.1.below H12.out.2.2 HT.out.2.2.2.1.lt)).mono ?_
    rintro e w13 ⟨rfl, hb⟩
    have H13 := Lib.hid (And.intro (H12.out.1.below hb) (And.intro (H12.out.2.1.below hb) (below_then H12.out.2.2 H12.out.2.2.size hb)))
    clear hb
    go_wp2_with fail
    go_ret
    exact ⟨rfl, H13.out.2.2⟩
#print axioms cuts_any
end Go.Proofs.YtcgdojdiihdkeaaDoor
