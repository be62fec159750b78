/- Layer 2's reader: Hash. -/
import Derived.Test.YtdmopnmifdjcnaaPackH
import Derived.Test.YtdmopnmifdjcnaaPackT
import Derived.Test.YtdmopnmifdjcnaaBlk
import Derived.Deep.Cut
import Derived.Deep.RegionLaw
namespace Go.Proofs.Ytdmopnmifdjcnaa
open Go Go.RowKit Go.Isth

def hashS (s : RS) : List UInt8 := if (s.take 32).1.length = 32 then (s.take 32).1 else List.replicate 32 0
theorem hashS_length (s : RS) : (hashS s).length = 32 := by unfold hashS; split <;> simp_all
theorem take32 (s : RS) : (s.take 32).1.length = 32 ∨ (s.take 32).1 = [] := by
  unfold RS.take
  split
  · exact .inr rfl
  · split
    · exact .inr rfl
    · left; simp; omega
theorem hashS_splice (s : RS) : splice (List.replicate 32 (B 0)) 0 ((s.take 32).1.map B) = (hashS s).map B := by
  unfold hashS
  rcases take32 s with h | h
  · rw [if_pos h, splice_all _ _ (by simpa using h)]
  · rw [h, if_neg (by simp), List.map_nil, splice_none, List.map_replicate]
theorem min_take {l : List UInt8} (h : l.length = 32 ∨ l = []) : (l.map B).length = Nat.min l.length 32 := by
  rcases h with h | h
  · rw [List.length_map, h]; rfl
  · rw [h]; rfl
theorem fit_take {l : List UInt8} (h : l.length = 32 ∨ l = []) : 0 + (l.map B).length ≤ (List.replicate 32 (B 0)).length := by
  rcases h with h | h
  · simp [h]
  · simp [h]

set_option maxHeartbeats 1000000 in
theorem rhash_any (r : Nat) (s : RS) (w : World) (h : RIs w r s) :
    Calls Try.prog 30 #[Ptr r] w fun e w' => e = .returned (.agg ((hashS s).map B).toArray) ∧ RIs w' r (s.take 32).2 ∧ w.grownBy w' (some r) := by
  have H := Lib.hid h
  clear h
  go_enter Try.func30, Try.ntmps30
  go_upto_region 2 with fail
  have hz : Blk ((w.alloc (.cells (List.replicate 32 (B 0)).toArray 48)).alloc (.cells (List.replicate 32 (B 0)).toArray 48)) (w.heap.size + 1) 48 (List.replicate 32 (B 0)) := by
    have := Blk_new (w.alloc (.cells (List.replicate 32 (B 0)).toArray 48)) (List.replicate 32 (B 0)) 48
    rwa [World.size_alloc] at this
  have hz0 : Blk ((w.alloc (.cells (List.replicate 32 (B 0)).toArray 48)).alloc (.cells (List.replicate 32 (B 0)).toArray 48)) w.heap.size 48 (List.replicate 32 (B 0)) :=
    (Blk_new w (List.replicate 32 (B 0)) 48).alloc _
  have hb0 : Below w.heap.size w ((w.alloc (.cells (List.replicate 32 (B 0)).toArray 48)).alloc (.cells (List.replicate 32 (B 0)).toArray 48)) := ((Below.refl _ _).alloc (Nat.le_refl _) _).alloc (by rw [World.size_alloc]; omega) _
  have hsz : ((w.alloc (.cells (List.replicate 32 (B 0)).toArray 48)).alloc (.cells (List.replicate 32 (B 0)).toArray 48)).heap.size = w.heap.size + 2 := by rw [World.size_alloc, World.size_alloc]
  change Code.wp _ _ _ _ ((w.alloc (.cells (List.replicate 32 (B 0)).toArray 48)).alloc (.cells (List.replicate 32 (B 0)).toArray 48))
  generalize hw0 : ((w.alloc (.cells (List.replicate 32 (B 0)).toArray 48)).alloc (.cells (List.replicate 32 (B 0)).toArray 48)) = w0 at *
  clear hw0
  have hrl := H.out.lt
  let G : Nat → Prop := fun k => k = r ∨ k = w.heap.size ∨ k = w.heap.size + 1
  have hG : RIsG G w0 r s := by
    have h := rdr_widen (G := G) H.out (fun k hk => by rcases hk with h | h | h <;> omega)
    exact h.below hb0
  have HG : Hid (RIsG G w0 r s) := Lib.hid hG
  have HZ := Lib.hid (And.intro hz (And.intro hz0 (And.intro hsz hrl)))
  have HB0 := Lib.hid hb0
  have hmin := min_take (take32 s)
  have hfit := fit_take (take32 s)
  have HM := Lib.hid (And.intro hmin hfit)
  have HGN : Hid (G r ∧ G w.heap.size ∧ G (w.heap.size + 1) ∧ ¬ G w0.heap.size) := Lib.hid ⟨.inl rfl, .inr (.inl rfl), .inr (.inr rfl), fun e => by rw [hsz] at e; rcases e with h | h | h <;> omega⟩
  clear_value G
  clear hz hz0 hsz hrl hb0 hG hmin hfit
  go_region_law (first
    | (refine step_copy_blk rfl (.tmp 4) (.tmp 6) 23 23 rfl 5 Try.underlying23 (by kernel_rfl) (w.heap.size + 1) 0 32 32 (s.take 32).1.length c2 A2 rfl rfl 48 (List.replicate 32 (B 0)) HW2.out.2.2.1 ((s.take 32).1.map B) HM.out.1 hr2 HM.out.2 one_bytes ?_; intro w3 hw3 hg3)
    | (go_simp; go_at_call 50; refine (take_anyG (G := G) r s _ 32 w0.drew ?_ (by omega) HGN.out.1 HGN.out.2.2.2).mono ?_; exact HG.out.below ⟨rfl, rfl, rfl, Nat.le_refl _, fun _ _ => rfl⟩; rintro e w2 ⟨v2, rfl, ho2, h2, g2⟩; obtain ⟨A2, c2, rfl, hc2, hr2, _⟩ := own_slice ho2; have HW2 := Lib.hid (And.intro h2 (And.intro g2 (And.intro (HZ.out.1.drew.grown g2 (fun e => by have := HZ.out.2.2.2; injection e with e; omega)) (HZ.out.2.1.drew.grown g2 (fun e => by have := HZ.out.2.2.2; injection e with e; omega)))))))
  rw [hashS_splice] at hw3
  have HW3 := Lib.hid (And.intro hw3 hg3)
  clear hr2 ho2 hc2 hw3 hg3 h2 g2
  have HL := Lib.hid (show (some 32 : Option Nat) = some ((hashS s).map B).length by rw [List.length_map, hashS_length])
  have HO := Lib.hid (show (List.replicate 32 (B 0)).length = ((hashS s).map B).length by rw [List.length_map, hashS_length, List.length_replicate])
  have HZ3 := Lib.hid (HW2.out.2.2.2.grown HW3.out.2 (fun e => by injection e with e; omega))
  have HN : Hid (w.heap.size + 1 ≠ r ∧ w.heap.size ≠ r) := Lib.hid ⟨by have := H.out.lt; omega, by have := H.out.lt; omega⟩
  go_wp2_with (first
    | refine wpList_load_blk rfl 48 (.tmp 3) rfl (w.heap.size + 1) rfl 48 _ _ HW3.out.1 Try.underlying48 rfl (Eq.trans (by kernel_rfl) HL.out) ?_
    | (refine wpList_store_blk rfl 48 (.tmp 2) (.tmp 8) rfl w.heap.size ((hashS s).map B) rfl rfl 48 _ HZ3.out (Eq.trans (by kernel_rfl) HL.out) HO.out one_bytes ?_; intro w4 hw4 hg4))
  refine bodyPost_ret (results_blk rfl _ _ w.heap.size 48 ((hashS s).map B) _ rfl hw4 Try.underlying48 rfl (Eq.trans (by kernel_rfl) HL.out)) rfl ⟨rfl, ?_, ?_⟩
  · exact rdr_narrow (rdr_beside (rdr_beside HW2.out.1 HGN.out.2.2.1 HN.out.1 HW3.out.2) HGN.out.2.1 HN.out.2 hg4) HGN.out.1
  · have e1 : w.grownBy w2 (some r) := grown_trans (grown_of_below (⟨HB0.out.os, HB0.out.tape, HB0.out.output, HB0.out.size, HB0.out.block⟩ : Below w.heap.size w w0.drew) _) HW2.out.2.1 (.inl rfl)
    exact grown_trans (grown_trans e1 HW3.out.2 (.inr fun b e => by injection e with e; omega)) hg4 (.inr fun b e => by injection e with e; omega)
#print axioms rhash_any
end Go.Proofs.Ytdmopnmifdjcnaa
