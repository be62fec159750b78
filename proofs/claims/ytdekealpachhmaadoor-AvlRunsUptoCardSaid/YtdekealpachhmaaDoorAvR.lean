/- Layer 7: right by its contract. -/
import Derived.Test.YtdekealpachhmaaDoorAvO
import Derived.Test.YtdekealpachhmaaDoorAvQ
namespace Go.Proofs.YtdekealpachhmaaDoor
open Go Go.RowKit Go.Isth

theorem cell_below {w w' : World} {b o : Nat} {v : Value} (h : w.cell? ⟨b, o, none⟩ = some v) (hb : Below w.heap.size w w') : w'.cell? ⟨b, o, none⟩ = some v := by
  rw [World.cell?_of_block (w := w) (a := ⟨b, o, none⟩) (hb.block _ (World.block_lt_of_cell? w _ h))]
  exact h
theorem node_to (a b : Av) (ga gb : Nat) (w : World) (ha : TreeAt w a ga) (hb : TreeAt w b gb) (hm : a.many + b.many ≤ 1000000) (ht : TabLaid w) :
    Calls Tryd.prog 75 #[Ptr ga, Ptr gb] w fun e w' => ∃ g, e = .returned (Ptr g) ∧ TreeAt w' (.node a b) g ∧ Below w.heap.size w w' := by
  have h1 := Av.height_many a
  have h2 := Av.height_many b
  refine (node_any a b ga gb w ha hb (by omega) (by omega) (by omega) (by omega) ht).mono ?_
  rintro e w' ⟨g, rfl, h, _, hb⟩
  exact ⟨g, rfl, h, hb⟩
set_option maxRecDepth 100000 in
set_option maxHeartbeats 4000000 in
theorem rt_aa (x y1 y2 b : Av) (ga gb : Nat) (w : World) (ha : TreeAt w (.node x (.node y1 y2)) ga) (hb : TreeAt w b gb) (hm : Av.many (.node x (.node y1 y2)) + Av.many b ≤ 1000000) (hs : Av.height b + 1 < Av.height (.node x (.node y1 y2)) ∧ Av.height x < Av.height (.node y1 y2)) (ht : TabLaid w) :
    Calls Tryd.prog 76 #[Ptr ga, Ptr gb] w fun e w' => ∃ g, e = .returned (Ptr g) ∧ TreeAt w' (.node (.node x y1) (.node y2 b)) g ∧ Below w.heap.size w w' := by
  obtain ⟨gx, gy, a2, a3, hx, hy⟩ := node_cells ha
  obtain ⟨g1, g2, y2c, y3c, hy1, hy2⟩ := node_cells hy
  have ah5 := (tree_cells ha).2.2.2.1
  have bh5 := (tree_cells hb).2.2.2.1
  have xh5 := (tree_cells hx).2.2.2.1
  have yh5 := (tree_cells hy).2.2.2.1
  have hma := Av.height_many (.node x (.node y1 y2))
  have hmb := Av.height_many b
  obtain ⟨ah, eah⟩ : ∃ n, Av.height (.node x (.node y1 y2)) = n := ⟨_, rfl⟩
  rw [eah] at ah5 hs hma
  obtain ⟨bh, ebh⟩ : ∃ n, Av.height b = n := ⟨_, rfl⟩
  rw [ebh] at bh5 hs hmb
  obtain ⟨xh, exh⟩ : ∃ n, Av.height x = n := ⟨_, rfl⟩
  rw [exh] at xh5 hs
  obtain ⟨yh, eyh⟩ : ∃ n, Av.height (.node y1 y2) = n := ⟨_, rfl⟩
  rw [eyh] at yh5 hs
  obtain ⟨ah1, eah1⟩ : ∃ n, n = ah + 1 := ⟨_, rfl⟩
  obtain ⟨bh1, ebh1⟩ : ∃ n, n = bh + 1 := ⟨_, rfl⟩
  have HTS : Hid (∀ w', Below w.heap.size w w' → w'.cell? ⟨ga, 2, none⟩ = some (Ptr gx) ∧ w'.cell? ⟨ga, 3, none⟩ = some (Ptr gy) ∧ w'.cell? ⟨gy, 2, none⟩ = some (Ptr g1) ∧ w'.cell? ⟨gy, 3, none⟩ = some (Ptr g2) ∧ w'.cell? ⟨ga, 5, none⟩ = some (.int .i64 (ah : Nat)) ∧ w'.cell? ⟨gb, 5, none⟩ = some (.int .i64 (bh : Nat)) ∧ w'.cell? ⟨gx, 5, none⟩ = some (.int .i64 (xh : Nat)) ∧ w'.cell? ⟨gy, 5, none⟩ = some (.int .i64 (yh : Nat))) := Lib.hid fun w' h => ⟨cell_below a2 h, cell_below a3 h, cell_below y2c h, cell_below y3c h, cell_below ah5 h, cell_below bh5 h, cell_below xh5 h, cell_below yh5 h⟩
  have HW := Lib.hid (And.intro (show IntKind.i64.wrap ((bh : Int) + 1) = ((bh1 : Nat) : Int) by rw [IntWalk.i64_in ((bh : Int) + 1) ⟨by omega, by omega⟩]; omega) (show IntKind.i64.wrap ((ah : Int) + 1) = ((ah1 : Nat) : Int) by rw [IntWalk.i64_in ((ah : Int) + 1) ⟨by omega, by omega⟩]; omega))
  have HM := Lib.hid hm
  have HT := Lib.hid (And.intro hx (And.intro hy1 (And.intro hy2 (And.intro hb (ht)))))
  have c1 : bh1 < ah := by omega
  have c2 : xh < yh := by omega
  have HB : Hid (Below w.heap.size w (w.drewN 1)) := Lib.hid (refl_drewN w 1)
  clear a2 a3 y2c y3c ah5 bh5 xh5 yh5 hma hmb hs hm ht eah1 ebh1 eah ebh exh eyh ha hb hx hy1 hy2
  go_enter Tryd.func76, Tryd.ntmps76
  go_wp2_with fail
  refine wp_region_held_drew (S := (fun w' => w'.cell? ⟨ga, 2, none⟩ = some (Ptr gx) ∧ w'.cell? ⟨ga, 3, none⟩ = some (Ptr gy) ∧ w'.cell? ⟨gy, 2, none⟩ = some (Ptr g1) ∧ w'.cell? ⟨gy, 3, none⟩ = some (Ptr g2) ∧ w'.cell? ⟨ga, 5, none⟩ = some (.int .i64 (ah : Nat)) ∧ w'.cell? ⟨gb, 5, none⟩ = some (.int .i64 (bh : Nat)) ∧ w'.cell? ⟨gx, 5, none⟩ = some (.int .i64 (xh : Nat)) ∧ w'.cell? ⟨gy, 5, none⟩ = some (.int .i64 (yh : Nat)))) (by kernel_rfl) ?p1s0 (fun hHeld => ?_)
  case p1s0 => exact HTS.out _ HB.out
  refine held_take (i := 0) (v := ?p11v) rfl (by kernel_rfl) (by kernel_rfl) (by kernel_rfl) (fun _ _ _ h => h) (by rfl) ?p11y hHeld ?_
  case p11y => ((intro w _hSw; (try dsimp only at _hSw); go_simp); try (with_reducible rfl))
  try simp only [Act.put, List.setIfInBounds_toArray, List.set_cons_zero, List.set_cons_succ]
  refine held_take (i := 1) (v := ?p12v) rfl (by kernel_rfl) (by kernel_rfl) (by kernel_rfl) (fun _ _ _ h => h) (by rfl) ?p12y hHeld ?_
  case p12y => ((intro w _hSw; (try dsimp only at _hSw); go_simp); try (with_reducible rfl))
  try simp only [Act.put, List.setIfInBounds_toArray, List.set_cons_zero, List.set_cons_succ]
  refine held_take (i := 2) (v := ?p13v) rfl (by kernel_rfl) (by kernel_rfl) (by kernel_rfl) (fun _ _ _ h => h) (by rfl) ?p13y hHeld ?_
  case p13y => ((intro w _hSw; (try dsimp only at _hSw); go_simp); try (with_reducible rfl))
  try simp only [Act.put, List.setIfInBounds_toArray, List.set_cons_zero, List.set_cons_succ]
  refine held_take (i := 3) (v := ?p14v) rfl (by kernel_rfl) (by kernel_rfl) (by kernel_rfl) (fun _ _ _ h => h) (by rfl) ?p14y hHeld ?_
  case p14y => ((intro w _hSw; (try dsimp only at _hSw); go_simp); try (with_reducible rfl))
  try simp only [Act.put, List.setIfInBounds_toArray, List.set_cons_zero, List.set_cons_succ]
  refine held_take (i := 4) (v := ?p15v) rfl (by kernel_rfl) (by kernel_rfl) (by kernel_rfl) (fun _ _ _ h => h) (by rfl) ?p15y hHeld ?_
  case p15y => ((intro w _hSw; (try dsimp only at _hSw); go_simp); try (with_reducible rfl))
  try simp only [Act.put, List.setIfInBounds_toArray, List.set_cons_zero, List.set_cons_succ]
  refine held_take (i := 5) (v := ?p16v) rfl (by kernel_rfl) (by kernel_rfl) (by kernel_rfl) (fun _ _ _ h => h) (by rfl) ?p16y hHeld ?_
  case p16y => ((intro w _hSw; (try dsimp only at _hSw); go_simp); try (with_reducible rfl))
  try simp only [Act.put, List.setIfInBounds_toArray, List.set_cons_zero, List.set_cons_succ]
  refine held_take (i := 6) (v := ?p17v) rfl (by kernel_rfl) (by kernel_rfl) (by kernel_rfl) (fun _ _ _ h => h) (by rfl) ?p17y hHeld ?_
  case p17y => ((intro w _hSw; (try dsimp only at _hSw); go_simp); try (with_reducible rfl))
  try simp only [Act.put, List.setIfInBounds_toArray, List.set_cons_zero, List.set_cons_succ]
  refine held_take (i := 7) (v := ?p18v) rfl (by kernel_rfl) (by kernel_rfl) (by kernel_rfl) (fun _ _ _ h => h) (by rfl) ?p18y hHeld ?_
  case p18y => ((intro w _hSw; (try dsimp only at _hSw); go_simp); try (with_reducible rfl))
  try simp only [Act.put, List.setIfInBounds_toArray, List.set_cons_zero, List.set_cons_succ]
  refine held_take (i := 8) (v := (.int .i64 ((bh1 : Nat) : Int))) rfl (by kernel_rfl) (by kernel_rfl) (by kernel_rfl) (fun _ _ _ h => h) (by rfl) ?p19y hHeld ?_
  case p19y => (intro w _hSw; (try dsimp only at _hSw); go_simp; try rw [HW.out.1])
  try simp only [Act.put, List.setIfInBounds_toArray, List.set_cons_zero, List.set_cons_succ]
  refine held_take (i := 9) (v := ?p110v) rfl (by kernel_rfl) (by kernel_rfl) (by kernel_rfl) (fun _ _ _ h => h) (by rfl) ?p110y hHeld ?_
  case p110y => ((intro w _hSw; (try dsimp only at _hSw); go_simp); try (with_reducible rfl))
  try simp only [Act.put, List.setIfInBounds_toArray, List.set_cons_zero, List.set_cons_succ]
  refine held_take (i := 10) (v := ?p111v) rfl (by kernel_rfl) (by kernel_rfl) (by kernel_rfl) (fun _ _ _ h => h) (by rfl) ?p111y hHeld ?_
  case p111y => ((intro w _hSw; (try dsimp only at _hSw); go_simp); try (with_reducible rfl))
  try simp only [Act.put, List.setIfInBounds_toArray, List.set_cons_zero, List.set_cons_succ]
  refine wpAnyH_done (by kernel_rfl) ?_ _
  clear hHeld
  obtain ⟨s0, s1, s2, s3, s4, s5, s6, s7⟩ := HTS.out w (Below.refl _ _)
  go_wp2_with fail
  clear s0 s1 s2 s3 s4 s5 s6 s7
  have HB := Lib.hid (below_then HB.out HB.out.size (refl_drewN _ 1))
  refine wp_region_held_drew (S := (fun w' => w'.cell? ⟨ga, 2, none⟩ = some (Ptr gx) ∧ w'.cell? ⟨ga, 3, none⟩ = some (Ptr gy) ∧ w'.cell? ⟨gy, 2, none⟩ = some (Ptr g1) ∧ w'.cell? ⟨gy, 3, none⟩ = some (Ptr g2) ∧ w'.cell? ⟨ga, 5, none⟩ = some (.int .i64 (ah : Nat)) ∧ w'.cell? ⟨gb, 5, none⟩ = some (.int .i64 (bh : Nat)) ∧ w'.cell? ⟨gx, 5, none⟩ = some (.int .i64 (xh : Nat)) ∧ w'.cell? ⟨gy, 5, none⟩ = some (.int .i64 (yh : Nat)))) (by kernel_rfl) ?p3s0 (fun hHeld => ?_)
  case p3s0 => exact HTS.out _ HB.out
  refine held_take (i := 0) (v := ?p31v) rfl (by kernel_rfl) (by kernel_rfl) (by kernel_rfl) (fun _ _ _ h => h) (by rfl) ?p31y hHeld ?_
  case p31y => ((intro w _hSw; (try dsimp only at _hSw); go_simp); try (with_reducible rfl))
  try simp only [Act.put, List.setIfInBounds_toArray, List.set_cons_zero, List.set_cons_succ]
  refine held_take (i := 1) (v := ?p32v) rfl (by kernel_rfl) (by kernel_rfl) (by kernel_rfl) (fun _ _ _ h => h) (by rfl) ?p32y hHeld ?_
  case p32y => ((intro w _hSw; (try dsimp only at _hSw); go_simp); try (with_reducible rfl))
  try simp only [Act.put, List.setIfInBounds_toArray, List.set_cons_zero, List.set_cons_succ]
  refine held_take (i := 2) (v := ?p33v) rfl (by kernel_rfl) (by kernel_rfl) (by kernel_rfl) (fun _ _ _ h => h) (by rfl) ?p33y hHeld ?_
  case p33y => ((intro w _hSw; (try dsimp only at _hSw); go_simp); try (with_reducible rfl))
  try simp only [Act.put, List.setIfInBounds_toArray, List.set_cons_zero, List.set_cons_succ]
  refine held_take (i := 3) (v := ?p34v) rfl (by kernel_rfl) (by kernel_rfl) (by kernel_rfl) (fun _ _ _ h => h) (by rfl) ?p34y hHeld ?_
  case p34y => ((intro w _hSw; (try dsimp only at _hSw); go_simp); try (with_reducible rfl))
  try simp only [Act.put, List.setIfInBounds_toArray, List.set_cons_zero, List.set_cons_succ]
  refine held_take (i := 4) (v := ?p35v) rfl (by kernel_rfl) (by kernel_rfl) (by kernel_rfl) (fun _ _ _ h => h) (by rfl) ?p35y hHeld ?_
  case p35y => ((intro w _hSw; (try dsimp only at _hSw); go_simp); try (with_reducible rfl))
  try simp only [Act.put, List.setIfInBounds_toArray, List.set_cons_zero, List.set_cons_succ]
  refine held_take (i := 5) (v := ?p36v) rfl (by kernel_rfl) (by kernel_rfl) (by kernel_rfl) (fun _ _ _ h => h) (by rfl) ?p36y hHeld ?_
  case p36y => ((intro w _hSw; (try dsimp only at _hSw); go_simp); try (with_reducible rfl))
  try simp only [Act.put, List.setIfInBounds_toArray, List.set_cons_zero, List.set_cons_succ]
  refine held_take (i := 6) (v := ?p37v) rfl (by kernel_rfl) (by kernel_rfl) (by kernel_rfl) (fun _ _ _ h => h) (by rfl) ?p37y hHeld ?_
  case p37y => ((intro w _hSw; (try dsimp only at _hSw); go_simp); try (with_reducible rfl))
  try simp only [Act.put, List.setIfInBounds_toArray, List.set_cons_zero, List.set_cons_succ]
  refine held_take (i := 7) (v := ?p38v) rfl (by kernel_rfl) (by kernel_rfl) (by kernel_rfl) (fun _ _ _ h => h) (by rfl) ?p38y hHeld ?_
  case p38y => ((intro w _hSw; (try dsimp only at _hSw); go_simp); try (with_reducible rfl))
  try simp only [Act.put, List.setIfInBounds_toArray, List.set_cons_zero, List.set_cons_succ]
  refine held_take (i := 8) (v := ?p39v) rfl (by kernel_rfl) (by kernel_rfl) (by kernel_rfl) (fun _ _ _ h => h) (by rfl) ?p39y hHeld ?_
  case p39y => ((intro w _hSw; (try dsimp only at _hSw); go_simp); try (with_reducible rfl))
  try simp only [Act.put, List.setIfInBounds_toArray, List.set_cons_zero, List.set_cons_succ]
  refine held_take (i := 9) (v := ?p310v) rfl (by kernel_rfl) (by kernel_rfl) (by kernel_rfl) (fun _ _ _ h => h) (by rfl) ?p310y hHeld ?_
  case p310y => ((intro w _hSw; (try dsimp only at _hSw); go_simp); try (with_reducible rfl))
  try simp only [Act.put, List.setIfInBounds_toArray, List.set_cons_zero, List.set_cons_succ]
  refine held_take (i := 10) (v := ?p311v) rfl (by kernel_rfl) (by kernel_rfl) (by kernel_rfl) (fun _ _ _ h => h) (by rfl) ?p311y hHeld ?_
  case p311y => ((intro w _hSw; (try dsimp only at _hSw); go_simp); try (with_reducible rfl))
  try simp only [Act.put, List.setIfInBounds_toArray, List.set_cons_zero, List.set_cons_succ]
  refine held_take (i := 11) (v := ?p312v) rfl (by kernel_rfl) (by kernel_rfl) (by kernel_rfl) (fun _ _ _ h => h) (by rfl) ?p312y hHeld ?_
  case p312y => ((intro w _hSw; (try dsimp only at _hSw); go_simp); try (with_reducible rfl))
  try simp only [Act.put, List.setIfInBounds_toArray, List.set_cons_zero, List.set_cons_succ]
  refine wpAnyH_done (by kernel_rfl) ?_ _
  clear hHeld
  go_wp2_with fail
  have HB := Lib.hid (below_then HB.out HB.out.size (refl_drewN _ 1))
  refine wp_region_held_drew (S := (fun w' => w'.cell? ⟨ga, 2, none⟩ = some (Ptr gx) ∧ w'.cell? ⟨ga, 3, none⟩ = some (Ptr gy) ∧ w'.cell? ⟨gy, 2, none⟩ = some (Ptr g1) ∧ w'.cell? ⟨gy, 3, none⟩ = some (Ptr g2) ∧ w'.cell? ⟨ga, 5, none⟩ = some (.int .i64 (ah : Nat)) ∧ w'.cell? ⟨gb, 5, none⟩ = some (.int .i64 (bh : Nat)) ∧ w'.cell? ⟨gx, 5, none⟩ = some (.int .i64 (xh : Nat)) ∧ w'.cell? ⟨gy, 5, none⟩ = some (.int .i64 (yh : Nat)))) (by kernel_rfl) ?p4s0 (fun hHeld => ?_)
  case p4s0 => exact HTS.out _ HB.out
  refine held_take (i := 0) (v := ?p41v) rfl (by kernel_rfl) (by kernel_rfl) (by kernel_rfl) (fun _ _ _ h => h) (by rfl) ?p41y hHeld ?_
  case p41y => ((intro w _hSw; (try dsimp only at _hSw); go_simp); try (with_reducible rfl))
  try simp only [Act.put, List.setIfInBounds_toArray, List.set_cons_zero, List.set_cons_succ]
  refine held_take (i := 1) (v := ?p42v) rfl (by kernel_rfl) (by kernel_rfl) (by kernel_rfl) (fun _ _ _ h => h) (by rfl) ?p42y hHeld ?_
  case p42y => ((intro w _hSw; (try dsimp only at _hSw); go_simp); try (with_reducible rfl))
  try simp only [Act.put, List.setIfInBounds_toArray, List.set_cons_zero, List.set_cons_succ]
  refine held_take (i := 2) (v := ?p43v) rfl (by kernel_rfl) (by kernel_rfl) (by kernel_rfl) (fun _ _ _ h => h) (by rfl) ?p43y hHeld ?_
  case p43y => ((intro w _hSw; (try dsimp only at _hSw); go_simp); try (with_reducible rfl))
  try simp only [Act.put, List.setIfInBounds_toArray, List.set_cons_zero, List.set_cons_succ]
  refine held_take (i := 3) (v := ?p44v) rfl (by kernel_rfl) (by kernel_rfl) (by kernel_rfl) (fun _ _ _ h => h) (by rfl) ?p44y hHeld ?_
  case p44y => ((intro w _hSw; (try dsimp only at _hSw); go_simp); try (with_reducible rfl))
  try simp only [Act.put, List.setIfInBounds_toArray, List.set_cons_zero, List.set_cons_succ]
  refine held_take (i := 4) (v := ?p45v) rfl (by kernel_rfl) (by kernel_rfl) (by kernel_rfl) (fun _ _ _ h => h) (by rfl) ?p45y hHeld ?_
  case p45y => ((intro w _hSw; (try dsimp only at _hSw); go_simp); try (with_reducible rfl))
  try simp only [Act.put, List.setIfInBounds_toArray, List.set_cons_zero, List.set_cons_succ]
  refine held_take (i := 5) (v := ?p46v) rfl (by kernel_rfl) (by kernel_rfl) (by kernel_rfl) (fun _ _ _ h => h) (by rfl) ?p46y hHeld ?_
  case p46y => ((intro w _hSw; (try dsimp only at _hSw); go_simp); try (with_reducible rfl))
  try simp only [Act.put, List.setIfInBounds_toArray, List.set_cons_zero, List.set_cons_succ]
  refine held_take (i := 6) (v := ?p47v) rfl (by kernel_rfl) (by kernel_rfl) (by kernel_rfl) (fun _ _ _ h => h) (by rfl) ?p47y hHeld ?_
  case p47y => ((intro w _hSw; (try dsimp only at _hSw); go_simp); try (with_reducible rfl))
  try simp only [Act.put, List.setIfInBounds_toArray, List.set_cons_zero, List.set_cons_succ]
  refine held_take (i := 7) (v := ?p48v) rfl (by kernel_rfl) (by kernel_rfl) (by kernel_rfl) (fun _ _ _ h => h) (by rfl) ?p48y hHeld ?_
  case p48y => ((intro w _hSw; (try dsimp only at _hSw); go_simp); try (with_reducible rfl))
  try simp only [Act.put, List.setIfInBounds_toArray, List.set_cons_zero, List.set_cons_succ]
  refine held_take (i := 9) (v := ?p49v) rfl (by kernel_rfl) (by kernel_rfl) (by kernel_rfl) (fun _ _ _ h => h) (by rfl) ?p49y hHeld ?_
  case p49y => ((intro w _hSw; (try dsimp only at _hSw); go_simp); try (with_reducible rfl))
  try simp only [Act.put, List.setIfInBounds_toArray, List.set_cons_zero, List.set_cons_succ]
  refine held_take (i := 10) (v := ?p410v) rfl (by kernel_rfl) (by kernel_rfl) (by kernel_rfl) (fun _ _ _ h => h) (by rfl) ?p410y hHeld ?_
  case p410y => ((intro w _hSw; (try dsimp only at _hSw); go_simp); try (with_reducible rfl))
  try simp only [Act.put, List.setIfInBounds_toArray, List.set_cons_zero, List.set_cons_succ]
  refine held_take (i := 11) (v := ?p411v) rfl (by kernel_rfl) (by kernel_rfl) (by kernel_rfl) (fun _ _ _ h => h) (by rfl) ?p411y hHeld ?_
  case p411y => ((intro w _hSw; (try dsimp only at _hSw); go_simp); try (with_reducible rfl))
  try simp only [Act.put, List.setIfInBounds_toArray, List.set_cons_zero, List.set_cons_succ]
  refine held_take (i := 12) (v := ?p412v) rfl (by kernel_rfl) (by kernel_rfl) (by kernel_rfl) (fun _ _ _ h => h) (by rfl) ?p412y hHeld ?_
  case p412y => ((intro w _hSw; (try dsimp only at _hSw); go_simp); try (with_reducible rfl))
  try simp only [Act.put, List.setIfInBounds_toArray, List.set_cons_zero, List.set_cons_succ]
  refine held_take (i := 13) (v := ?p413v) rfl (by kernel_rfl) (by kernel_rfl) (by kernel_rfl) (fun _ _ _ h => h) (by rfl) ?p413y hHeld ?_
  case p413y => ((intro w _hSw; (try dsimp only at _hSw); go_simp); try (with_reducible rfl))
  try simp only [Act.put, List.setIfInBounds_toArray, List.set_cons_zero, List.set_cons_succ]
  refine held_step (i := 8) rfl (by kernel_rfl) (by rfl) (fun K hK => ?_)
  go_simp
  refine (node_to (x) (y1) gx g1 _ (HT.out.1.below HB.out) (HT.out.2.1.below HB.out) (by have := HM.out; simp only [Av.many] at this ⊢; omega) (HT.out.2.2.2.2.below HB.out HT.out.2.2.2.2.lt)).mono ?_
  rintro e wc ⟨p1, rfl, hn, hb⟩
  have HNp1 := Lib.hid hn
  have HB := Lib.hid (below_then HB.out HB.out.size hb)
  clear hn hb
  go_wp2_with fail
  have hHeld := HTS.out _ HB.out
  refine hK.out _ _ (HTS.out _ HB.out) ?_
  clear hK K
  try simp only [Act.put, List.setIfInBounds_toArray, List.set_cons_zero, List.set_cons_succ]
  refine held_step (i := 14) rfl (by kernel_rfl) (by rfl) (fun K hK => ?_)
  go_simp
  refine (node_to (y2) (b) g2 gb _ (HT.out.2.2.1.below HB.out) (HT.out.2.2.2.1.below HB.out) (by have := HM.out; simp only [Av.many] at this ⊢; omega) (HT.out.2.2.2.2.below HB.out HT.out.2.2.2.2.lt)).mono ?_
  rintro e wc ⟨p2, rfl, hn, hb⟩
  have HNp1 := Lib.hid (HNp1.out.below hb)
  have HNp2 := Lib.hid hn
  have HB := Lib.hid (below_then HB.out HB.out.size hb)
  clear hn hb
  go_wp2_with fail
  have hHeld := HTS.out _ HB.out
  refine hK.out _ _ (HTS.out _ HB.out) ?_
  clear hK K
  try simp only [Act.put, List.setIfInBounds_toArray, List.set_cons_zero, List.set_cons_succ]
  refine held_step (i := 15) rfl (by kernel_rfl) (by rfl) (fun K hK => ?_)
  go_simp
  refine (node_to (.node x y1) (.node y2 b) p1 p2 _ HNp1.out HNp2.out (by have := HM.out; simp only [Av.many] at this ⊢; omega) (HT.out.2.2.2.2.below HB.out HT.out.2.2.2.2.lt)).mono ?_
  rintro e wc ⟨p3, rfl, hn, hb⟩
  have HNp3 := Lib.hid hn
  have HB := Lib.hid (below_then HB.out HB.out.size hb)
  clear hn hb
  go_wp2_with fail
  have hHeld := HTS.out _ HB.out
  refine hK.out _ _ (HTS.out _ HB.out) ?_
  clear hK K
  try simp only [Act.put, List.setIfInBounds_toArray, List.set_cons_zero, List.set_cons_succ]
  refine held_take (i := 16) (v := ?p414v) rfl (by kernel_rfl) (by kernel_rfl) (by kernel_rfl) (fun _ _ _ h => h) (by rfl) ?p414y hHeld ?_
  case p414y => ((intro w _hSw; (try dsimp only at _hSw); go_simp); try (with_reducible rfl))
  try simp only [Act.put, List.setIfInBounds_toArray, List.set_cons_zero, List.set_cons_succ]
  refine wpAnyH_done (by kernel_rfl) ?_ _
  go_wp2
  go_ret
  exact ⟨_, rfl, HNp3.out, HB.out⟩
set_option maxRecDepth 100000 in
set_option maxHeartbeats 4000000 in
theorem rt_ab (x y b : Av) (ga gb : Nat) (w : World) (ha : TreeAt w (.node x y) ga) (hb : TreeAt w b gb) (hm : Av.many (.node x y) + Av.many b ≤ 1000000) (hs : Av.height b + 1 < Av.height (.node x y) ∧ ¬ Av.height x < Av.height y) (ht : TabLaid w) :
    Calls Tryd.prog 76 #[Ptr ga, Ptr gb] w fun e w' => ∃ g, e = .returned (Ptr g) ∧ TreeAt w' (.node x (.node y b)) g ∧ Below w.heap.size w w' := by
  obtain ⟨gx, gy, a2, a3, hx, hy⟩ := node_cells ha
  have ah5 := (tree_cells ha).2.2.2.1
  have bh5 := (tree_cells hb).2.2.2.1
  have xh5 := (tree_cells hx).2.2.2.1
  have yh5 := (tree_cells hy).2.2.2.1
  have hma := Av.height_many (.node x y)
  have hmb := Av.height_many b
  obtain ⟨ah, eah⟩ : ∃ n, Av.height (.node x y) = n := ⟨_, rfl⟩
  rw [eah] at ah5 hs hma
  obtain ⟨bh, ebh⟩ : ∃ n, Av.height b = n := ⟨_, rfl⟩
  rw [ebh] at bh5 hs hmb
  obtain ⟨xh, exh⟩ : ∃ n, Av.height x = n := ⟨_, rfl⟩
  rw [exh] at xh5 hs
  obtain ⟨yh, eyh⟩ : ∃ n, Av.height y = n := ⟨_, rfl⟩
  rw [eyh] at yh5 hs
  obtain ⟨ah1, eah1⟩ : ∃ n, n = ah + 1 := ⟨_, rfl⟩
  obtain ⟨bh1, ebh1⟩ : ∃ n, n = bh + 1 := ⟨_, rfl⟩
  have HTS : Hid (∀ w', Below w.heap.size w w' → w'.cell? ⟨ga, 2, none⟩ = some (Ptr gx) ∧ w'.cell? ⟨ga, 3, none⟩ = some (Ptr gy) ∧ w'.cell? ⟨ga, 5, none⟩ = some (.int .i64 (ah : Nat)) ∧ w'.cell? ⟨gb, 5, none⟩ = some (.int .i64 (bh : Nat)) ∧ w'.cell? ⟨gx, 5, none⟩ = some (.int .i64 (xh : Nat)) ∧ w'.cell? ⟨gy, 5, none⟩ = some (.int .i64 (yh : Nat))) := Lib.hid fun w' h => ⟨cell_below a2 h, cell_below a3 h, cell_below ah5 h, cell_below bh5 h, cell_below xh5 h, cell_below yh5 h⟩
  have HW := Lib.hid (And.intro (show IntKind.i64.wrap ((bh : Int) + 1) = ((bh1 : Nat) : Int) by rw [IntWalk.i64_in ((bh : Int) + 1) ⟨by omega, by omega⟩]; omega) (show IntKind.i64.wrap ((ah : Int) + 1) = ((ah1 : Nat) : Int) by rw [IntWalk.i64_in ((ah : Int) + 1) ⟨by omega, by omega⟩]; omega))
  have HM := Lib.hid hm
  have HT := Lib.hid (And.intro hx (And.intro hy (And.intro hb (ht))))
  have c1 : bh1 < ah := by omega
  have c2 : ¬ xh < yh := by omega
  have HB : Hid (Below w.heap.size w (w.drewN 1)) := Lib.hid (refl_drewN w 1)
  clear a2 a3 ah5 bh5 xh5 yh5 hma hmb hs hm ht eah1 ebh1 eah ebh exh eyh ha hb hx hy
  go_enter Tryd.func76, Tryd.ntmps76
  go_wp2_with fail
  refine wp_region_held_drew (S := (fun w' => w'.cell? ⟨ga, 2, none⟩ = some (Ptr gx) ∧ w'.cell? ⟨ga, 3, none⟩ = some (Ptr gy) ∧ w'.cell? ⟨ga, 5, none⟩ = some (.int .i64 (ah : Nat)) ∧ w'.cell? ⟨gb, 5, none⟩ = some (.int .i64 (bh : Nat)) ∧ w'.cell? ⟨gx, 5, none⟩ = some (.int .i64 (xh : Nat)) ∧ w'.cell? ⟨gy, 5, none⟩ = some (.int .i64 (yh : Nat)))) (by kernel_rfl) ?p1s0 (fun hHeld => ?_)
  case p1s0 => exact HTS.out _ HB.out
  refine held_take (i := 0) (v := ?p11v) rfl (by kernel_rfl) (by kernel_rfl) (by kernel_rfl) (fun _ _ _ h => h) (by rfl) ?p11y hHeld ?_
  case p11y => ((intro w _hSw; (try dsimp only at _hSw); go_simp); try (with_reducible rfl))
  try simp only [Act.put, List.setIfInBounds_toArray, List.set_cons_zero, List.set_cons_succ]
  refine held_take (i := 1) (v := ?p12v) rfl (by kernel_rfl) (by kernel_rfl) (by kernel_rfl) (fun _ _ _ h => h) (by rfl) ?p12y hHeld ?_
  case p12y => ((intro w _hSw; (try dsimp only at _hSw); go_simp); try (with_reducible rfl))
  try simp only [Act.put, List.setIfInBounds_toArray, List.set_cons_zero, List.set_cons_succ]
  refine held_take (i := 2) (v := ?p13v) rfl (by kernel_rfl) (by kernel_rfl) (by kernel_rfl) (fun _ _ _ h => h) (by rfl) ?p13y hHeld ?_
  case p13y => ((intro w _hSw; (try dsimp only at _hSw); go_simp); try (with_reducible rfl))
  try simp only [Act.put, List.setIfInBounds_toArray, List.set_cons_zero, List.set_cons_succ]
  refine held_take (i := 3) (v := ?p14v) rfl (by kernel_rfl) (by kernel_rfl) (by kernel_rfl) (fun _ _ _ h => h) (by rfl) ?p14y hHeld ?_
  case p14y => ((intro w _hSw; (try dsimp only at _hSw); go_simp); try (with_reducible rfl))
  try simp only [Act.put, List.setIfInBounds_toArray, List.set_cons_zero, List.set_cons_succ]
  refine held_take (i := 4) (v := ?p15v) rfl (by kernel_rfl) (by kernel_rfl) (by kernel_rfl) (fun _ _ _ h => h) (by rfl) ?p15y hHeld ?_
  case p15y => ((intro w _hSw; (try dsimp only at _hSw); go_simp); try (with_reducible rfl))
  try simp only [Act.put, List.setIfInBounds_toArray, List.set_cons_zero, List.set_cons_succ]
  refine held_take (i := 5) (v := ?p16v) rfl (by kernel_rfl) (by kernel_rfl) (by kernel_rfl) (fun _ _ _ h => h) (by rfl) ?p16y hHeld ?_
  case p16y => ((intro w _hSw; (try dsimp only at _hSw); go_simp); try (with_reducible rfl))
  try simp only [Act.put, List.setIfInBounds_toArray, List.set_cons_zero, List.set_cons_succ]
  refine held_take (i := 6) (v := ?p17v) rfl (by kernel_rfl) (by kernel_rfl) (by kernel_rfl) (fun _ _ _ h => h) (by rfl) ?p17y hHeld ?_
  case p17y => ((intro w _hSw; (try dsimp only at _hSw); go_simp); try (with_reducible rfl))
  try simp only [Act.put, List.setIfInBounds_toArray, List.set_cons_zero, List.set_cons_succ]
  refine held_take (i := 7) (v := ?p18v) rfl (by kernel_rfl) (by kernel_rfl) (by kernel_rfl) (fun _ _ _ h => h) (by rfl) ?p18y hHeld ?_
  case p18y => ((intro w _hSw; (try dsimp only at _hSw); go_simp); try (with_reducible rfl))
  try simp only [Act.put, List.setIfInBounds_toArray, List.set_cons_zero, List.set_cons_succ]
  refine held_take (i := 8) (v := (.int .i64 ((bh1 : Nat) : Int))) rfl (by kernel_rfl) (by kernel_rfl) (by kernel_rfl) (fun _ _ _ h => h) (by rfl) ?p19y hHeld ?_
  case p19y => (intro w _hSw; (try dsimp only at _hSw); go_simp; try rw [HW.out.1])
  try simp only [Act.put, List.setIfInBounds_toArray, List.set_cons_zero, List.set_cons_succ]
  refine held_take (i := 9) (v := ?p110v) rfl (by kernel_rfl) (by kernel_rfl) (by kernel_rfl) (fun _ _ _ h => h) (by rfl) ?p110y hHeld ?_
  case p110y => ((intro w _hSw; (try dsimp only at _hSw); go_simp); try (with_reducible rfl))
  try simp only [Act.put, List.setIfInBounds_toArray, List.set_cons_zero, List.set_cons_succ]
  refine held_take (i := 10) (v := ?p111v) rfl (by kernel_rfl) (by kernel_rfl) (by kernel_rfl) (fun _ _ _ h => h) (by rfl) ?p111y hHeld ?_
  case p111y => ((intro w _hSw; (try dsimp only at _hSw); go_simp); try (with_reducible rfl))
  try simp only [Act.put, List.setIfInBounds_toArray, List.set_cons_zero, List.set_cons_succ]
  refine wpAnyH_done (by kernel_rfl) ?_ _
  clear hHeld
  obtain ⟨s0, s1, s2, s3, s4, s5⟩ := HTS.out w (Below.refl _ _)
  go_wp2_with fail
  clear s0 s1 s2 s3 s4 s5
  have HB := Lib.hid (below_then HB.out HB.out.size (refl_drewN _ 1))
  refine wp_region_held_drew (S := (fun w' => w'.cell? ⟨ga, 2, none⟩ = some (Ptr gx) ∧ w'.cell? ⟨ga, 3, none⟩ = some (Ptr gy) ∧ w'.cell? ⟨ga, 5, none⟩ = some (.int .i64 (ah : Nat)) ∧ w'.cell? ⟨gb, 5, none⟩ = some (.int .i64 (bh : Nat)) ∧ w'.cell? ⟨gx, 5, none⟩ = some (.int .i64 (xh : Nat)) ∧ w'.cell? ⟨gy, 5, none⟩ = some (.int .i64 (yh : Nat)))) (by kernel_rfl) ?p3s0 (fun hHeld => ?_)
  case p3s0 => exact HTS.out _ HB.out
  refine held_take (i := 0) (v := ?p31v) rfl (by kernel_rfl) (by kernel_rfl) (by kernel_rfl) (fun _ _ _ h => h) (by rfl) ?p31y hHeld ?_
  case p31y => ((intro w _hSw; (try dsimp only at _hSw); go_simp); try (with_reducible rfl))
  try simp only [Act.put, List.setIfInBounds_toArray, List.set_cons_zero, List.set_cons_succ]
  refine held_take (i := 1) (v := ?p32v) rfl (by kernel_rfl) (by kernel_rfl) (by kernel_rfl) (fun _ _ _ h => h) (by rfl) ?p32y hHeld ?_
  case p32y => ((intro w _hSw; (try dsimp only at _hSw); go_simp); try (with_reducible rfl))
  try simp only [Act.put, List.setIfInBounds_toArray, List.set_cons_zero, List.set_cons_succ]
  refine held_take (i := 2) (v := ?p33v) rfl (by kernel_rfl) (by kernel_rfl) (by kernel_rfl) (fun _ _ _ h => h) (by rfl) ?p33y hHeld ?_
  case p33y => ((intro w _hSw; (try dsimp only at _hSw); go_simp); try (with_reducible rfl))
  try simp only [Act.put, List.setIfInBounds_toArray, List.set_cons_zero, List.set_cons_succ]
  refine held_take (i := 3) (v := ?p34v) rfl (by kernel_rfl) (by kernel_rfl) (by kernel_rfl) (fun _ _ _ h => h) (by rfl) ?p34y hHeld ?_
  case p34y => ((intro w _hSw; (try dsimp only at _hSw); go_simp); try (with_reducible rfl))
  try simp only [Act.put, List.setIfInBounds_toArray, List.set_cons_zero, List.set_cons_succ]
  refine held_take (i := 4) (v := ?p35v) rfl (by kernel_rfl) (by kernel_rfl) (by kernel_rfl) (fun _ _ _ h => h) (by rfl) ?p35y hHeld ?_
  case p35y => ((intro w _hSw; (try dsimp only at _hSw); go_simp); try (with_reducible rfl))
  try simp only [Act.put, List.setIfInBounds_toArray, List.set_cons_zero, List.set_cons_succ]
  refine held_take (i := 5) (v := ?p36v) rfl (by kernel_rfl) (by kernel_rfl) (by kernel_rfl) (fun _ _ _ h => h) (by rfl) ?p36y hHeld ?_
  case p36y => ((intro w _hSw; (try dsimp only at _hSw); go_simp); try (with_reducible rfl))
  try simp only [Act.put, List.setIfInBounds_toArray, List.set_cons_zero, List.set_cons_succ]
  refine held_take (i := 6) (v := ?p37v) rfl (by kernel_rfl) (by kernel_rfl) (by kernel_rfl) (fun _ _ _ h => h) (by rfl) ?p37y hHeld ?_
  case p37y => ((intro w _hSw; (try dsimp only at _hSw); go_simp); try (with_reducible rfl))
  try simp only [Act.put, List.setIfInBounds_toArray, List.set_cons_zero, List.set_cons_succ]
  refine held_take (i := 7) (v := ?p38v) rfl (by kernel_rfl) (by kernel_rfl) (by kernel_rfl) (fun _ _ _ h => h) (by rfl) ?p38y hHeld ?_
  case p38y => ((intro w _hSw; (try dsimp only at _hSw); go_simp); try (with_reducible rfl))
  try simp only [Act.put, List.setIfInBounds_toArray, List.set_cons_zero, List.set_cons_succ]
  refine held_take (i := 8) (v := ?p39v) rfl (by kernel_rfl) (by kernel_rfl) (by kernel_rfl) (fun _ _ _ h => h) (by rfl) ?p39y hHeld ?_
  case p39y => ((intro w _hSw; (try dsimp only at _hSw); go_simp); try (with_reducible rfl))
  try simp only [Act.put, List.setIfInBounds_toArray, List.set_cons_zero, List.set_cons_succ]
  refine held_take (i := 9) (v := ?p310v) rfl (by kernel_rfl) (by kernel_rfl) (by kernel_rfl) (fun _ _ _ h => h) (by rfl) ?p310y hHeld ?_
  case p310y => ((intro w _hSw; (try dsimp only at _hSw); go_simp); try (with_reducible rfl))
  try simp only [Act.put, List.setIfInBounds_toArray, List.set_cons_zero, List.set_cons_succ]
  refine held_take (i := 10) (v := ?p311v) rfl (by kernel_rfl) (by kernel_rfl) (by kernel_rfl) (fun _ _ _ h => h) (by rfl) ?p311y hHeld ?_
  case p311y => ((intro w _hSw; (try dsimp only at _hSw); go_simp); try (with_reducible rfl))
  try simp only [Act.put, List.setIfInBounds_toArray, List.set_cons_zero, List.set_cons_succ]
  refine held_take (i := 11) (v := ?p312v) rfl (by kernel_rfl) (by kernel_rfl) (by kernel_rfl) (fun _ _ _ h => h) (by rfl) ?p312y hHeld ?_
  case p312y => ((intro w _hSw; (try dsimp only at _hSw); go_simp); try (with_reducible rfl))
  try simp only [Act.put, List.setIfInBounds_toArray, List.set_cons_zero, List.set_cons_succ]
  refine wpAnyH_done (by kernel_rfl) ?_ _
  clear hHeld
  go_wp2_with fail
  have HB := Lib.hid (below_then HB.out HB.out.size (refl_drewN _ 1))
  refine wp_region_held_drew (S := (fun w' => w'.cell? ⟨ga, 2, none⟩ = some (Ptr gx) ∧ w'.cell? ⟨ga, 3, none⟩ = some (Ptr gy) ∧ w'.cell? ⟨ga, 5, none⟩ = some (.int .i64 (ah : Nat)) ∧ w'.cell? ⟨gb, 5, none⟩ = some (.int .i64 (bh : Nat)) ∧ w'.cell? ⟨gx, 5, none⟩ = some (.int .i64 (xh : Nat)) ∧ w'.cell? ⟨gy, 5, none⟩ = some (.int .i64 (yh : Nat)))) (by kernel_rfl) ?p5s0 (fun hHeld => ?_)
  case p5s0 => exact HTS.out _ HB.out
  refine held_take (i := 0) (v := ?p51v) rfl (by kernel_rfl) (by kernel_rfl) (by kernel_rfl) (fun _ _ _ h => h) (by rfl) ?p51y hHeld ?_
  case p51y => ((intro w _hSw; (try dsimp only at _hSw); go_simp); try (with_reducible rfl))
  try simp only [Act.put, List.setIfInBounds_toArray, List.set_cons_zero, List.set_cons_succ]
  refine held_take (i := 1) (v := ?p52v) rfl (by kernel_rfl) (by kernel_rfl) (by kernel_rfl) (fun _ _ _ h => h) (by rfl) ?p52y hHeld ?_
  case p52y => ((intro w _hSw; (try dsimp only at _hSw); go_simp); try (with_reducible rfl))
  try simp only [Act.put, List.setIfInBounds_toArray, List.set_cons_zero, List.set_cons_succ]
  refine held_take (i := 2) (v := ?p53v) rfl (by kernel_rfl) (by kernel_rfl) (by kernel_rfl) (fun _ _ _ h => h) (by rfl) ?p53y hHeld ?_
  case p53y => ((intro w _hSw; (try dsimp only at _hSw); go_simp); try (with_reducible rfl))
  try simp only [Act.put, List.setIfInBounds_toArray, List.set_cons_zero, List.set_cons_succ]
  refine held_take (i := 3) (v := ?p54v) rfl (by kernel_rfl) (by kernel_rfl) (by kernel_rfl) (fun _ _ _ h => h) (by rfl) ?p54y hHeld ?_
  case p54y => ((intro w _hSw; (try dsimp only at _hSw); go_simp); try (with_reducible rfl))
  try simp only [Act.put, List.setIfInBounds_toArray, List.set_cons_zero, List.set_cons_succ]
  refine held_take (i := 4) (v := ?p55v) rfl (by kernel_rfl) (by kernel_rfl) (by kernel_rfl) (fun _ _ _ h => h) (by rfl) ?p55y hHeld ?_
  case p55y => ((intro w _hSw; (try dsimp only at _hSw); go_simp); try (with_reducible rfl))
  try simp only [Act.put, List.setIfInBounds_toArray, List.set_cons_zero, List.set_cons_succ]
  refine held_take (i := 5) (v := ?p56v) rfl (by kernel_rfl) (by kernel_rfl) (by kernel_rfl) (fun _ _ _ h => h) (by rfl) ?p56y hHeld ?_
  case p56y => ((intro w _hSw; (try dsimp only at _hSw); go_simp); try (with_reducible rfl))
  try simp only [Act.put, List.setIfInBounds_toArray, List.set_cons_zero, List.set_cons_succ]
  refine held_take (i := 6) (v := ?p57v) rfl (by kernel_rfl) (by kernel_rfl) (by kernel_rfl) (fun _ _ _ h => h) (by rfl) ?p57y hHeld ?_
  case p57y => ((intro w _hSw; (try dsimp only at _hSw); go_simp); try (with_reducible rfl))
  try simp only [Act.put, List.setIfInBounds_toArray, List.set_cons_zero, List.set_cons_succ]
  refine held_take (i := 7) (v := ?p58v) rfl (by kernel_rfl) (by kernel_rfl) (by kernel_rfl) (fun _ _ _ h => h) (by rfl) ?p58y hHeld ?_
  case p58y => ((intro w _hSw; (try dsimp only at _hSw); go_simp); try (with_reducible rfl))
  try simp only [Act.put, List.setIfInBounds_toArray, List.set_cons_zero, List.set_cons_succ]
  refine held_take (i := 8) (v := ?p59v) rfl (by kernel_rfl) (by kernel_rfl) (by kernel_rfl) (fun _ _ _ h => h) (by rfl) ?p59y hHeld ?_
  case p59y => ((intro w _hSw; (try dsimp only at _hSw); go_simp); try (with_reducible rfl))
  try simp only [Act.put, List.setIfInBounds_toArray, List.set_cons_zero, List.set_cons_succ]
  refine held_step (i := 9) rfl (by kernel_rfl) (by rfl) (fun K hK => ?_)
  go_simp
  refine (node_to (y) (b) gy gb _ (HT.out.2.1.below HB.out) (HT.out.2.2.1.below HB.out) (by have := HM.out; simp only [Av.many] at this ⊢; omega) (HT.out.2.2.2.below HB.out HT.out.2.2.2.lt)).mono ?_
  rintro e wc ⟨p1, rfl, hn, hb⟩
  have HNp1 := Lib.hid hn
  have HB := Lib.hid (below_then HB.out HB.out.size hb)
  clear hn hb
  go_wp2_with fail
  have hHeld := HTS.out _ HB.out
  refine hK.out _ _ (HTS.out _ HB.out) ?_
  clear hK K
  try simp only [Act.put, List.setIfInBounds_toArray, List.set_cons_zero, List.set_cons_succ]
  refine held_step (i := 10) rfl (by kernel_rfl) (by rfl) (fun K hK => ?_)
  go_simp
  refine (node_to (x) (.node y b) gx p1 _ (HT.out.1.below HB.out) HNp1.out (by have := HM.out; simp only [Av.many] at this ⊢; omega) (HT.out.2.2.2.below HB.out HT.out.2.2.2.lt)).mono ?_
  rintro e wc ⟨p3, rfl, hn, hb⟩
  have HNp3 := Lib.hid hn
  have HB := Lib.hid (below_then HB.out HB.out.size hb)
  clear hn hb
  go_wp2_with fail
  have hHeld := HTS.out _ HB.out
  refine hK.out _ _ (HTS.out _ HB.out) ?_
  clear hK K
  try simp only [Act.put, List.setIfInBounds_toArray, List.set_cons_zero, List.set_cons_succ]
  refine held_take (i := 11) (v := ?p510v) rfl (by kernel_rfl) (by kernel_rfl) (by kernel_rfl) (fun _ _ _ h => h) (by rfl) ?p510y hHeld ?_
  case p510y => ((intro w _hSw; (try dsimp only at _hSw); go_simp); try (with_reducible rfl))
  try simp only [Act.put, List.setIfInBounds_toArray, List.set_cons_zero, List.set_cons_succ]
  refine wpAnyH_done (by kernel_rfl) ?_ _
  go_wp2
  go_ret
  exact ⟨_, rfl, HNp3.out, HB.out⟩
set_option maxRecDepth 100000 in
set_option maxHeartbeats 4000000 in
theorem rt_ba (a x1 x2 y : Av) (ga gb : Nat) (w : World) (ha : TreeAt w a ga) (hb : TreeAt w (.node (.node x1 x2) y) gb) (hm : Av.many a + Av.many (.node (.node x1 x2) y) ≤ 1000000) (hs : ¬ Av.height (.node (.node x1 x2) y) + 1 < Av.height a ∧ Av.height a + 1 < Av.height (.node (.node x1 x2) y) ∧ Av.height y < Av.height (.node x1 x2)) (ht : TabLaid w) :
    Calls Tryd.prog 76 #[Ptr ga, Ptr gb] w fun e w' => ∃ g, e = .returned (Ptr g) ∧ TreeAt w' (.node (.node a x1) (.node x2 y)) g ∧ Below w.heap.size w w' := by
  obtain ⟨gx, gy, b2, b3, hx, hy⟩ := node_cells hb
  obtain ⟨g1, g2, x2c, x3c, hx1, hx2⟩ := node_cells hx
  have bh5 := (tree_cells hb).2.2.2.1
  have ah5 := (tree_cells ha).2.2.2.1
  have xh5 := (tree_cells hx).2.2.2.1
  have yh5 := (tree_cells hy).2.2.2.1
  have hma := Av.height_many a
  have hmb := Av.height_many (.node (.node x1 x2) y)
  obtain ⟨bh, ebh⟩ : ∃ n, Av.height (.node (.node x1 x2) y) = n := ⟨_, rfl⟩
  rw [ebh] at bh5 hs hmb
  obtain ⟨ah, eah⟩ : ∃ n, Av.height a = n := ⟨_, rfl⟩
  rw [eah] at ah5 hs hma
  obtain ⟨xh, exh⟩ : ∃ n, Av.height (.node x1 x2) = n := ⟨_, rfl⟩
  rw [exh] at xh5 hs
  obtain ⟨yh, eyh⟩ : ∃ n, Av.height y = n := ⟨_, rfl⟩
  rw [eyh] at yh5 hs
  obtain ⟨ah1, eah1⟩ : ∃ n, n = ah + 1 := ⟨_, rfl⟩
  obtain ⟨bh1, ebh1⟩ : ∃ n, n = bh + 1 := ⟨_, rfl⟩
  have HTS : Hid (∀ w', Below w.heap.size w w' → w'.cell? ⟨gb, 2, none⟩ = some (Ptr gx) ∧ w'.cell? ⟨gb, 3, none⟩ = some (Ptr gy) ∧ w'.cell? ⟨gx, 2, none⟩ = some (Ptr g1) ∧ w'.cell? ⟨gx, 3, none⟩ = some (Ptr g2) ∧ w'.cell? ⟨gb, 5, none⟩ = some (.int .i64 (bh : Nat)) ∧ w'.cell? ⟨ga, 5, none⟩ = some (.int .i64 (ah : Nat)) ∧ w'.cell? ⟨gx, 5, none⟩ = some (.int .i64 (xh : Nat)) ∧ w'.cell? ⟨gy, 5, none⟩ = some (.int .i64 (yh : Nat))) := Lib.hid fun w' h => ⟨cell_below b2 h, cell_below b3 h, cell_below x2c h, cell_below x3c h, cell_below bh5 h, cell_below ah5 h, cell_below xh5 h, cell_below yh5 h⟩
  have HW := Lib.hid (And.intro (show IntKind.i64.wrap ((bh : Int) + 1) = ((bh1 : Nat) : Int) by rw [IntWalk.i64_in ((bh : Int) + 1) ⟨by omega, by omega⟩]; omega) (show IntKind.i64.wrap ((ah : Int) + 1) = ((ah1 : Nat) : Int) by rw [IntWalk.i64_in ((ah : Int) + 1) ⟨by omega, by omega⟩]; omega))
  have HM := Lib.hid hm
  have HT := Lib.hid (And.intro ha (And.intro hx1 (And.intro hx2 (And.intro hy (ht)))))
  have c1 : ¬ bh1 < ah := by omega
  have c2 : ah1 < bh := by omega
  have c3 : yh < xh := by omega
  have HB : Hid (Below w.heap.size w (w.drewN 1)) := Lib.hid (refl_drewN w 1)
  clear b2 b3 x2c x3c bh5 ah5 xh5 yh5 hma hmb hs hm ht eah1 ebh1 ebh eah exh eyh ha hb hx1 hx2 hy
  go_enter Tryd.func76, Tryd.ntmps76
  go_wp2_with fail
  refine wp_region_held_drew (S := (fun w' => w'.cell? ⟨gb, 2, none⟩ = some (Ptr gx) ∧ w'.cell? ⟨gb, 3, none⟩ = some (Ptr gy) ∧ w'.cell? ⟨gx, 2, none⟩ = some (Ptr g1) ∧ w'.cell? ⟨gx, 3, none⟩ = some (Ptr g2) ∧ w'.cell? ⟨gb, 5, none⟩ = some (.int .i64 (bh : Nat)) ∧ w'.cell? ⟨ga, 5, none⟩ = some (.int .i64 (ah : Nat)) ∧ w'.cell? ⟨gx, 5, none⟩ = some (.int .i64 (xh : Nat)) ∧ w'.cell? ⟨gy, 5, none⟩ = some (.int .i64 (yh : Nat)))) (by kernel_rfl) ?p1s0 (fun hHeld => ?_)
  case p1s0 => exact HTS.out _ HB.out
  refine held_take (i := 0) (v := ?p11v) rfl (by kernel_rfl) (by kernel_rfl) (by kernel_rfl) (fun _ _ _ h => h) (by rfl) ?p11y hHeld ?_
  case p11y => ((intro w _hSw; (try dsimp only at _hSw); go_simp); try (with_reducible rfl))
  try simp only [Act.put, List.setIfInBounds_toArray, List.set_cons_zero, List.set_cons_succ]
  refine held_take (i := 1) (v := ?p12v) rfl (by kernel_rfl) (by kernel_rfl) (by kernel_rfl) (fun _ _ _ h => h) (by rfl) ?p12y hHeld ?_
  case p12y => ((intro w _hSw; (try dsimp only at _hSw); go_simp); try (with_reducible rfl))
  try simp only [Act.put, List.setIfInBounds_toArray, List.set_cons_zero, List.set_cons_succ]
  refine held_take (i := 2) (v := ?p13v) rfl (by kernel_rfl) (by kernel_rfl) (by kernel_rfl) (fun _ _ _ h => h) (by rfl) ?p13y hHeld ?_
  case p13y => ((intro w _hSw; (try dsimp only at _hSw); go_simp); try (with_reducible rfl))
  try simp only [Act.put, List.setIfInBounds_toArray, List.set_cons_zero, List.set_cons_succ]
  refine held_take (i := 3) (v := ?p14v) rfl (by kernel_rfl) (by kernel_rfl) (by kernel_rfl) (fun _ _ _ h => h) (by rfl) ?p14y hHeld ?_
  case p14y => ((intro w _hSw; (try dsimp only at _hSw); go_simp); try (with_reducible rfl))
  try simp only [Act.put, List.setIfInBounds_toArray, List.set_cons_zero, List.set_cons_succ]
  refine held_take (i := 4) (v := ?p15v) rfl (by kernel_rfl) (by kernel_rfl) (by kernel_rfl) (fun _ _ _ h => h) (by rfl) ?p15y hHeld ?_
  case p15y => ((intro w _hSw; (try dsimp only at _hSw); go_simp); try (with_reducible rfl))
  try simp only [Act.put, List.setIfInBounds_toArray, List.set_cons_zero, List.set_cons_succ]
  refine held_take (i := 5) (v := ?p16v) rfl (by kernel_rfl) (by kernel_rfl) (by kernel_rfl) (fun _ _ _ h => h) (by rfl) ?p16y hHeld ?_
  case p16y => ((intro w _hSw; (try dsimp only at _hSw); go_simp); try (with_reducible rfl))
  try simp only [Act.put, List.setIfInBounds_toArray, List.set_cons_zero, List.set_cons_succ]
  refine held_take (i := 6) (v := ?p17v) rfl (by kernel_rfl) (by kernel_rfl) (by kernel_rfl) (fun _ _ _ h => h) (by rfl) ?p17y hHeld ?_
  case p17y => ((intro w _hSw; (try dsimp only at _hSw); go_simp); try (with_reducible rfl))
  try simp only [Act.put, List.setIfInBounds_toArray, List.set_cons_zero, List.set_cons_succ]
  refine held_take (i := 7) (v := ?p18v) rfl (by kernel_rfl) (by kernel_rfl) (by kernel_rfl) (fun _ _ _ h => h) (by rfl) ?p18y hHeld ?_
  case p18y => ((intro w _hSw; (try dsimp only at _hSw); go_simp); try (with_reducible rfl))
  try simp only [Act.put, List.setIfInBounds_toArray, List.set_cons_zero, List.set_cons_succ]
  refine held_take (i := 8) (v := (.int .i64 ((bh1 : Nat) : Int))) rfl (by kernel_rfl) (by kernel_rfl) (by kernel_rfl) (fun _ _ _ h => h) (by rfl) ?p19y hHeld ?_
  case p19y => (intro w _hSw; (try dsimp only at _hSw); go_simp; try rw [HW.out.1])
  try simp only [Act.put, List.setIfInBounds_toArray, List.set_cons_zero, List.set_cons_succ]
  refine held_take (i := 9) (v := ?p110v) rfl (by kernel_rfl) (by kernel_rfl) (by kernel_rfl) (fun _ _ _ h => h) (by rfl) ?p110y hHeld ?_
  case p110y => ((intro w _hSw; (try dsimp only at _hSw); go_simp); try (with_reducible rfl))
  try simp only [Act.put, List.setIfInBounds_toArray, List.set_cons_zero, List.set_cons_succ]
  refine held_take (i := 10) (v := ?p111v) rfl (by kernel_rfl) (by kernel_rfl) (by kernel_rfl) (fun _ _ _ h => h) (by rfl) ?p111y hHeld ?_
  case p111y => ((intro w _hSw; (try dsimp only at _hSw); go_simp); try (with_reducible rfl))
  try simp only [Act.put, List.setIfInBounds_toArray, List.set_cons_zero, List.set_cons_succ]
  refine wpAnyH_done (by kernel_rfl) ?_ _
  clear hHeld
  go_wp2_with fail
  have HB := Lib.hid (below_then HB.out HB.out.size (refl_drewN _ 1))
  refine wp_region_held_drew (S := (fun w' => w'.cell? ⟨gb, 2, none⟩ = some (Ptr gx) ∧ w'.cell? ⟨gb, 3, none⟩ = some (Ptr gy) ∧ w'.cell? ⟨gx, 2, none⟩ = some (Ptr g1) ∧ w'.cell? ⟨gx, 3, none⟩ = some (Ptr g2) ∧ w'.cell? ⟨gb, 5, none⟩ = some (.int .i64 (bh : Nat)) ∧ w'.cell? ⟨ga, 5, none⟩ = some (.int .i64 (ah : Nat)) ∧ w'.cell? ⟨gx, 5, none⟩ = some (.int .i64 (xh : Nat)) ∧ w'.cell? ⟨gy, 5, none⟩ = some (.int .i64 (yh : Nat)))) (by kernel_rfl) ?p6s0 (fun hHeld => ?_)
  case p6s0 => exact HTS.out _ HB.out
  refine held_take (i := 0) (v := ?p61v) rfl (by kernel_rfl) (by kernel_rfl) (by kernel_rfl) (fun _ _ _ h => h) (by rfl) ?p61y hHeld ?_
  case p61y => ((intro w _hSw; (try dsimp only at _hSw); go_simp); try (with_reducible rfl))
  try simp only [Act.put, List.setIfInBounds_toArray, List.set_cons_zero, List.set_cons_succ]
  refine held_take (i := 1) (v := ?p62v) rfl (by kernel_rfl) (by kernel_rfl) (by kernel_rfl) (fun _ _ _ h => h) (by rfl) ?p62y hHeld ?_
  case p62y => ((intro w _hSw; (try dsimp only at _hSw); go_simp); try (with_reducible rfl))
  try simp only [Act.put, List.setIfInBounds_toArray, List.set_cons_zero, List.set_cons_succ]
  refine held_take (i := 2) (v := ?p63v) rfl (by kernel_rfl) (by kernel_rfl) (by kernel_rfl) (fun _ _ _ h => h) (by rfl) ?p63y hHeld ?_
  case p63y => ((intro w _hSw; (try dsimp only at _hSw); go_simp); try (with_reducible rfl))
  try simp only [Act.put, List.setIfInBounds_toArray, List.set_cons_zero, List.set_cons_succ]
  refine held_take (i := 3) (v := ?p64v) rfl (by kernel_rfl) (by kernel_rfl) (by kernel_rfl) (fun _ _ _ h => h) (by rfl) ?p64y hHeld ?_
  case p64y => ((intro w _hSw; (try dsimp only at _hSw); go_simp); try (with_reducible rfl))
  try simp only [Act.put, List.setIfInBounds_toArray, List.set_cons_zero, List.set_cons_succ]
  refine held_take (i := 4) (v := ?p65v) rfl (by kernel_rfl) (by kernel_rfl) (by kernel_rfl) (fun _ _ _ h => h) (by rfl) ?p65y hHeld ?_
  case p65y => ((intro w _hSw; (try dsimp only at _hSw); go_simp); try (with_reducible rfl))
  try simp only [Act.put, List.setIfInBounds_toArray, List.set_cons_zero, List.set_cons_succ]
  refine held_take (i := 5) (v := ?p66v) rfl (by kernel_rfl) (by kernel_rfl) (by kernel_rfl) (fun _ _ _ h => h) (by rfl) ?p66y hHeld ?_
  case p66y => ((intro w _hSw; (try dsimp only at _hSw); go_simp); try (with_reducible rfl))
  try simp only [Act.put, List.setIfInBounds_toArray, List.set_cons_zero, List.set_cons_succ]
  refine held_take (i := 6) (v := ?p67v) rfl (by kernel_rfl) (by kernel_rfl) (by kernel_rfl) (fun _ _ _ h => h) (by rfl) ?p67y hHeld ?_
  case p67y => ((intro w _hSw; (try dsimp only at _hSw); go_simp); try (with_reducible rfl))
  try simp only [Act.put, List.setIfInBounds_toArray, List.set_cons_zero, List.set_cons_succ]
  refine held_take (i := 7) (v := ?p68v) rfl (by kernel_rfl) (by kernel_rfl) (by kernel_rfl) (fun _ _ _ h => h) (by rfl) ?p68y hHeld ?_
  case p68y => ((intro w _hSw; (try dsimp only at _hSw); go_simp); try (with_reducible rfl))
  try simp only [Act.put, List.setIfInBounds_toArray, List.set_cons_zero, List.set_cons_succ]
  refine held_take (i := 8) (v := (.int .i64 ((ah1 : Nat) : Int))) rfl (by kernel_rfl) (by kernel_rfl) (by kernel_rfl) (fun _ _ _ h => h) (by rfl) ?p69y hHeld ?_
  case p69y => (intro w _hSw; (try dsimp only at _hSw); go_simp; try rw [HW.out.2])
  try simp only [Act.put, List.setIfInBounds_toArray, List.set_cons_zero, List.set_cons_succ]
  refine held_take (i := 9) (v := ?p610v) rfl (by kernel_rfl) (by kernel_rfl) (by kernel_rfl) (fun _ _ _ h => h) (by rfl) ?p610y hHeld ?_
  case p610y => ((intro w _hSw; (try dsimp only at _hSw); go_simp); try (with_reducible rfl))
  try simp only [Act.put, List.setIfInBounds_toArray, List.set_cons_zero, List.set_cons_succ]
  refine held_take (i := 10) (v := ?p611v) rfl (by kernel_rfl) (by kernel_rfl) (by kernel_rfl) (fun _ _ _ h => h) (by rfl) ?p611y hHeld ?_
  case p611y => ((intro w _hSw; (try dsimp only at _hSw); go_simp); try (with_reducible rfl))
  try simp only [Act.put, List.setIfInBounds_toArray, List.set_cons_zero, List.set_cons_succ]
  refine wpAnyH_done (by kernel_rfl) ?_ _
  clear hHeld
  obtain ⟨s0, s1, s2, s3, s4, s5, s6, s7⟩ := HTS.out w (Below.refl _ _)
  go_wp2_with fail
  clear s0 s1 s2 s3 s4 s5 s6 s7
  have HB := Lib.hid (below_then HB.out HB.out.size (refl_drewN _ 1))
  refine wp_region_held_drew (S := (fun w' => w'.cell? ⟨gb, 2, none⟩ = some (Ptr gx) ∧ w'.cell? ⟨gb, 3, none⟩ = some (Ptr gy) ∧ w'.cell? ⟨gx, 2, none⟩ = some (Ptr g1) ∧ w'.cell? ⟨gx, 3, none⟩ = some (Ptr g2) ∧ w'.cell? ⟨gb, 5, none⟩ = some (.int .i64 (bh : Nat)) ∧ w'.cell? ⟨ga, 5, none⟩ = some (.int .i64 (ah : Nat)) ∧ w'.cell? ⟨gx, 5, none⟩ = some (.int .i64 (xh : Nat)) ∧ w'.cell? ⟨gy, 5, none⟩ = some (.int .i64 (yh : Nat)))) (by kernel_rfl) ?p8s0 (fun hHeld => ?_)
  case p8s0 => exact HTS.out _ HB.out
  refine held_take (i := 0) (v := ?p81v) rfl (by kernel_rfl) (by kernel_rfl) (by kernel_rfl) (fun _ _ _ h => h) (by rfl) ?p81y hHeld ?_
  case p81y => ((intro w _hSw; (try dsimp only at _hSw); go_simp); try (with_reducible rfl))
  try simp only [Act.put, List.setIfInBounds_toArray, List.set_cons_zero, List.set_cons_succ]
  refine held_take (i := 1) (v := ?p82v) rfl (by kernel_rfl) (by kernel_rfl) (by kernel_rfl) (fun _ _ _ h => h) (by rfl) ?p82y hHeld ?_
  case p82y => ((intro w _hSw; (try dsimp only at _hSw); go_simp); try (with_reducible rfl))
  try simp only [Act.put, List.setIfInBounds_toArray, List.set_cons_zero, List.set_cons_succ]
  refine held_take (i := 2) (v := ?p83v) rfl (by kernel_rfl) (by kernel_rfl) (by kernel_rfl) (fun _ _ _ h => h) (by rfl) ?p83y hHeld ?_
  case p83y => ((intro w _hSw; (try dsimp only at _hSw); go_simp); try (with_reducible rfl))
  try simp only [Act.put, List.setIfInBounds_toArray, List.set_cons_zero, List.set_cons_succ]
  refine held_take (i := 3) (v := ?p84v) rfl (by kernel_rfl) (by kernel_rfl) (by kernel_rfl) (fun _ _ _ h => h) (by rfl) ?p84y hHeld ?_
  case p84y => ((intro w _hSw; (try dsimp only at _hSw); go_simp); try (with_reducible rfl))
  try simp only [Act.put, List.setIfInBounds_toArray, List.set_cons_zero, List.set_cons_succ]
  refine held_take (i := 4) (v := ?p85v) rfl (by kernel_rfl) (by kernel_rfl) (by kernel_rfl) (fun _ _ _ h => h) (by rfl) ?p85y hHeld ?_
  case p85y => ((intro w _hSw; (try dsimp only at _hSw); go_simp); try (with_reducible rfl))
  try simp only [Act.put, List.setIfInBounds_toArray, List.set_cons_zero, List.set_cons_succ]
  refine held_take (i := 5) (v := ?p86v) rfl (by kernel_rfl) (by kernel_rfl) (by kernel_rfl) (fun _ _ _ h => h) (by rfl) ?p86y hHeld ?_
  case p86y => ((intro w _hSw; (try dsimp only at _hSw); go_simp); try (with_reducible rfl))
  try simp only [Act.put, List.setIfInBounds_toArray, List.set_cons_zero, List.set_cons_succ]
  refine held_take (i := 6) (v := ?p87v) rfl (by kernel_rfl) (by kernel_rfl) (by kernel_rfl) (fun _ _ _ h => h) (by rfl) ?p87y hHeld ?_
  case p87y => ((intro w _hSw; (try dsimp only at _hSw); go_simp); try (with_reducible rfl))
  try simp only [Act.put, List.setIfInBounds_toArray, List.set_cons_zero, List.set_cons_succ]
  refine held_take (i := 7) (v := ?p88v) rfl (by kernel_rfl) (by kernel_rfl) (by kernel_rfl) (fun _ _ _ h => h) (by rfl) ?p88y hHeld ?_
  case p88y => ((intro w _hSw; (try dsimp only at _hSw); go_simp); try (with_reducible rfl))
  try simp only [Act.put, List.setIfInBounds_toArray, List.set_cons_zero, List.set_cons_succ]
  refine held_take (i := 8) (v := ?p89v) rfl (by kernel_rfl) (by kernel_rfl) (by kernel_rfl) (fun _ _ _ h => h) (by rfl) ?p89y hHeld ?_
  case p89y => ((intro w _hSw; (try dsimp only at _hSw); go_simp); try (with_reducible rfl))
  try simp only [Act.put, List.setIfInBounds_toArray, List.set_cons_zero, List.set_cons_succ]
  refine held_take (i := 9) (v := ?p810v) rfl (by kernel_rfl) (by kernel_rfl) (by kernel_rfl) (fun _ _ _ h => h) (by rfl) ?p810y hHeld ?_
  case p810y => ((intro w _hSw; (try dsimp only at _hSw); go_simp); try (with_reducible rfl))
  try simp only [Act.put, List.setIfInBounds_toArray, List.set_cons_zero, List.set_cons_succ]
  refine held_take (i := 10) (v := ?p811v) rfl (by kernel_rfl) (by kernel_rfl) (by kernel_rfl) (fun _ _ _ h => h) (by rfl) ?p811y hHeld ?_
  case p811y => ((intro w _hSw; (try dsimp only at _hSw); go_simp); try (with_reducible rfl))
  try simp only [Act.put, List.setIfInBounds_toArray, List.set_cons_zero, List.set_cons_succ]
  refine held_take (i := 11) (v := ?p812v) rfl (by kernel_rfl) (by kernel_rfl) (by kernel_rfl) (fun _ _ _ h => h) (by rfl) ?p812y hHeld ?_
  case p812y => ((intro w _hSw; (try dsimp only at _hSw); go_simp); try (with_reducible rfl))
  try simp only [Act.put, List.setIfInBounds_toArray, List.set_cons_zero, List.set_cons_succ]
  refine wpAnyH_done (by kernel_rfl) ?_ _
  clear hHeld
  go_wp2_with fail
  have HB := Lib.hid (below_then HB.out HB.out.size (refl_drewN _ 1))
  refine wp_region_held_drew (S := (fun w' => w'.cell? ⟨gb, 2, none⟩ = some (Ptr gx) ∧ w'.cell? ⟨gb, 3, none⟩ = some (Ptr gy) ∧ w'.cell? ⟨gx, 2, none⟩ = some (Ptr g1) ∧ w'.cell? ⟨gx, 3, none⟩ = some (Ptr g2) ∧ w'.cell? ⟨gb, 5, none⟩ = some (.int .i64 (bh : Nat)) ∧ w'.cell? ⟨ga, 5, none⟩ = some (.int .i64 (ah : Nat)) ∧ w'.cell? ⟨gx, 5, none⟩ = some (.int .i64 (xh : Nat)) ∧ w'.cell? ⟨gy, 5, none⟩ = some (.int .i64 (yh : Nat)))) (by kernel_rfl) ?p9s0 (fun hHeld => ?_)
  case p9s0 => exact HTS.out _ HB.out
  refine held_take (i := 0) (v := ?p91v) rfl (by kernel_rfl) (by kernel_rfl) (by kernel_rfl) (fun _ _ _ h => h) (by rfl) ?p91y hHeld ?_
  case p91y => ((intro w _hSw; (try dsimp only at _hSw); go_simp); try (with_reducible rfl))
  try simp only [Act.put, List.setIfInBounds_toArray, List.set_cons_zero, List.set_cons_succ]
  refine held_take (i := 1) (v := ?p92v) rfl (by kernel_rfl) (by kernel_rfl) (by kernel_rfl) (fun _ _ _ h => h) (by rfl) ?p92y hHeld ?_
  case p92y => ((intro w _hSw; (try dsimp only at _hSw); go_simp); try (with_reducible rfl))
  try simp only [Act.put, List.setIfInBounds_toArray, List.set_cons_zero, List.set_cons_succ]
  refine held_take (i := 2) (v := ?p93v) rfl (by kernel_rfl) (by kernel_rfl) (by kernel_rfl) (fun _ _ _ h => h) (by rfl) ?p93y hHeld ?_
  case p93y => ((intro w _hSw; (try dsimp only at _hSw); go_simp); try (with_reducible rfl))
  try simp only [Act.put, List.setIfInBounds_toArray, List.set_cons_zero, List.set_cons_succ]
  refine held_take (i := 3) (v := ?p94v) rfl (by kernel_rfl) (by kernel_rfl) (by kernel_rfl) (fun _ _ _ h => h) (by rfl) ?p94y hHeld ?_
  case p94y => ((intro w _hSw; (try dsimp only at _hSw); go_simp); try (with_reducible rfl))
  try simp only [Act.put, List.setIfInBounds_toArray, List.set_cons_zero, List.set_cons_succ]
  refine held_take (i := 4) (v := ?p95v) rfl (by kernel_rfl) (by kernel_rfl) (by kernel_rfl) (fun _ _ _ h => h) (by rfl) ?p95y hHeld ?_
  case p95y => ((intro w _hSw; (try dsimp only at _hSw); go_simp); try (with_reducible rfl))
  try simp only [Act.put, List.setIfInBounds_toArray, List.set_cons_zero, List.set_cons_succ]
  refine held_take (i := 6) (v := ?p96v) rfl (by kernel_rfl) (by kernel_rfl) (by kernel_rfl) (fun _ _ _ h => h) (by rfl) ?p96y hHeld ?_
  case p96y => ((intro w _hSw; (try dsimp only at _hSw); go_simp); try (with_reducible rfl))
  try simp only [Act.put, List.setIfInBounds_toArray, List.set_cons_zero, List.set_cons_succ]
  refine held_take (i := 7) (v := ?p97v) rfl (by kernel_rfl) (by kernel_rfl) (by kernel_rfl) (fun _ _ _ h => h) (by rfl) ?p97y hHeld ?_
  case p97y => ((intro w _hSw; (try dsimp only at _hSw); go_simp); try (with_reducible rfl))
  try simp only [Act.put, List.setIfInBounds_toArray, List.set_cons_zero, List.set_cons_succ]
  refine held_take (i := 8) (v := ?p98v) rfl (by kernel_rfl) (by kernel_rfl) (by kernel_rfl) (fun _ _ _ h => h) (by rfl) ?p98y hHeld ?_
  case p98y => ((intro w _hSw; (try dsimp only at _hSw); go_simp); try (with_reducible rfl))
  try simp only [Act.put, List.setIfInBounds_toArray, List.set_cons_zero, List.set_cons_succ]
  refine held_take (i := 9) (v := ?p99v) rfl (by kernel_rfl) (by kernel_rfl) (by kernel_rfl) (fun _ _ _ h => h) (by rfl) ?p99y hHeld ?_
  case p99y => ((intro w _hSw; (try dsimp only at _hSw); go_simp); try (with_reducible rfl))
  try simp only [Act.put, List.setIfInBounds_toArray, List.set_cons_zero, List.set_cons_succ]
  refine held_take (i := 10) (v := ?p910v) rfl (by kernel_rfl) (by kernel_rfl) (by kernel_rfl) (fun _ _ _ h => h) (by rfl) ?p910y hHeld ?_
  case p910y => ((intro w _hSw; (try dsimp only at _hSw); go_simp); try (with_reducible rfl))
  try simp only [Act.put, List.setIfInBounds_toArray, List.set_cons_zero, List.set_cons_succ]
  refine held_take (i := 11) (v := ?p911v) rfl (by kernel_rfl) (by kernel_rfl) (by kernel_rfl) (fun _ _ _ h => h) (by rfl) ?p911y hHeld ?_
  case p911y => ((intro w _hSw; (try dsimp only at _hSw); go_simp); try (with_reducible rfl))
  try simp only [Act.put, List.setIfInBounds_toArray, List.set_cons_zero, List.set_cons_succ]
  refine held_take (i := 12) (v := ?p912v) rfl (by kernel_rfl) (by kernel_rfl) (by kernel_rfl) (fun _ _ _ h => h) (by rfl) ?p912y hHeld ?_
  case p912y => ((intro w _hSw; (try dsimp only at _hSw); go_simp); try (with_reducible rfl))
  try simp only [Act.put, List.setIfInBounds_toArray, List.set_cons_zero, List.set_cons_succ]
  refine held_take (i := 13) (v := ?p913v) rfl (by kernel_rfl) (by kernel_rfl) (by kernel_rfl) (fun _ _ _ h => h) (by rfl) ?p913y hHeld ?_
  case p913y => ((intro w _hSw; (try dsimp only at _hSw); go_simp); try (with_reducible rfl))
  try simp only [Act.put, List.setIfInBounds_toArray, List.set_cons_zero, List.set_cons_succ]
  refine held_step (i := 5) rfl (by kernel_rfl) (by rfl) (fun K hK => ?_)
  go_simp
  refine (node_to (a) (x1) ga g1 _ (HT.out.1.below HB.out) (HT.out.2.1.below HB.out) (by have := HM.out; simp only [Av.many] at this ⊢; omega) (HT.out.2.2.2.2.below HB.out HT.out.2.2.2.2.lt)).mono ?_
  rintro e wc ⟨p1, rfl, hn, hb⟩
  have HNp1 := Lib.hid hn
  have HB := Lib.hid (below_then HB.out HB.out.size hb)
  clear hn hb
  go_wp2_with fail
  have hHeld := HTS.out _ HB.out
  refine hK.out _ _ (HTS.out _ HB.out) ?_
  clear hK K
  try simp only [Act.put, List.setIfInBounds_toArray, List.set_cons_zero, List.set_cons_succ]
  refine held_step (i := 14) rfl (by kernel_rfl) (by rfl) (fun K hK => ?_)
  go_simp
  refine (node_to (x2) (y) g2 gy _ (HT.out.2.2.1.below HB.out) (HT.out.2.2.2.1.below HB.out) (by have := HM.out; simp only [Av.many] at this ⊢; omega) (HT.out.2.2.2.2.below HB.out HT.out.2.2.2.2.lt)).mono ?_
  rintro e wc ⟨p2, rfl, hn, hb⟩
  have HNp1 := Lib.hid (HNp1.out.below hb)
  have HNp2 := Lib.hid hn
  have HB := Lib.hid (below_then HB.out HB.out.size hb)
  clear hn hb
  go_wp2_with fail
  have hHeld := HTS.out _ HB.out
  refine hK.out _ _ (HTS.out _ HB.out) ?_
  clear hK K
  try simp only [Act.put, List.setIfInBounds_toArray, List.set_cons_zero, List.set_cons_succ]
  refine held_step (i := 15) rfl (by kernel_rfl) (by rfl) (fun K hK => ?_)
  go_simp
  refine (node_to (.node a x1) (.node x2 y) p1 p2 _ HNp1.out HNp2.out (by have := HM.out; simp only [Av.many] at this ⊢; omega) (HT.out.2.2.2.2.below HB.out HT.out.2.2.2.2.lt)).mono ?_
  rintro e wc ⟨p3, rfl, hn, hb⟩
  have HNp3 := Lib.hid hn
  have HB := Lib.hid (below_then HB.out HB.out.size hb)
  clear hn hb
  go_wp2_with fail
  have hHeld := HTS.out _ HB.out
  refine hK.out _ _ (HTS.out _ HB.out) ?_
  clear hK K
  try simp only [Act.put, List.setIfInBounds_toArray, List.set_cons_zero, List.set_cons_succ]
  refine held_take (i := 16) (v := ?p914v) rfl (by kernel_rfl) (by kernel_rfl) (by kernel_rfl) (fun _ _ _ h => h) (by rfl) ?p914y hHeld ?_
  case p914y => ((intro w _hSw; (try dsimp only at _hSw); go_simp); try (with_reducible rfl))
  try simp only [Act.put, List.setIfInBounds_toArray, List.set_cons_zero, List.set_cons_succ]
  refine wpAnyH_done (by kernel_rfl) ?_ _
  go_wp2
  go_ret
  exact ⟨_, rfl, HNp3.out, HB.out⟩
set_option maxRecDepth 100000 in
set_option maxHeartbeats 4000000 in
theorem rt_bb (a x y : Av) (ga gb : Nat) (w : World) (ha : TreeAt w a ga) (hb : TreeAt w (.node x y) gb) (hm : Av.many a + Av.many (.node x y) ≤ 1000000) (hs : ¬ Av.height (.node x y) + 1 < Av.height a ∧ Av.height a + 1 < Av.height (.node x y) ∧ ¬ Av.height y < Av.height x) (ht : TabLaid w) :
    Calls Tryd.prog 76 #[Ptr ga, Ptr gb] w fun e w' => ∃ g, e = .returned (Ptr g) ∧ TreeAt w' (.node (.node a x) y) g ∧ Below w.heap.size w w' := by
  obtain ⟨gx, gy, b2, b3, hx, hy⟩ := node_cells hb
  have bh5 := (tree_cells hb).2.2.2.1
  have ah5 := (tree_cells ha).2.2.2.1
  have xh5 := (tree_cells hx).2.2.2.1
  have yh5 := (tree_cells hy).2.2.2.1
  have hma := Av.height_many a
  have hmb := Av.height_many (.node x y)
  obtain ⟨bh, ebh⟩ : ∃ n, Av.height (.node x y) = n := ⟨_, rfl⟩
  rw [ebh] at bh5 hs hmb
  obtain ⟨ah, eah⟩ : ∃ n, Av.height a = n := ⟨_, rfl⟩
  rw [eah] at ah5 hs hma
  obtain ⟨xh, exh⟩ : ∃ n, Av.height x = n := ⟨_, rfl⟩
  rw [exh] at xh5 hs
  obtain ⟨yh, eyh⟩ : ∃ n, Av.height y = n := ⟨_, rfl⟩
  rw [eyh] at yh5 hs
  obtain ⟨ah1, eah1⟩ : ∃ n, n = ah + 1 := ⟨_, rfl⟩
  obtain ⟨bh1, ebh1⟩ : ∃ n, n = bh + 1 := ⟨_, rfl⟩
  have HTS : Hid (∀ w', Below w.heap.size w w' → w'.cell? ⟨gb, 2, none⟩ = some (Ptr gx) ∧ w'.cell? ⟨gb, 3, none⟩ = some (Ptr gy) ∧ w'.cell? ⟨gb, 5, none⟩ = some (.int .i64 (bh : Nat)) ∧ w'.cell? ⟨ga, 5, none⟩ = some (.int .i64 (ah : Nat)) ∧ w'.cell? ⟨gx, 5, none⟩ = some (.int .i64 (xh : Nat)) ∧ w'.cell? ⟨gy, 5, none⟩ = some (.int .i64 (yh : Nat))) := Lib.hid fun w' h => ⟨cell_below b2 h, cell_below b3 h, cell_below bh5 h, cell_below ah5 h, cell_below xh5 h, cell_below yh5 h⟩
  have HW := Lib.hid (And.intro (show IntKind.i64.wrap ((bh : Int) + 1) = ((bh1 : Nat) : Int) by rw [IntWalk.i64_in ((bh : Int) + 1) ⟨by omega, by omega⟩]; omega) (show IntKind.i64.wrap ((ah : Int) + 1) = ((ah1 : Nat) : Int) by rw [IntWalk.i64_in ((ah : Int) + 1) ⟨by omega, by omega⟩]; omega))
  have HM := Lib.hid hm
  have HT := Lib.hid (And.intro ha (And.intro hx (And.intro hy (ht))))
  have c1 : ¬ bh1 < ah := by omega
  have c2 : ah1 < bh := by omega
  have c3 : ¬ yh < xh := by omega
  have HB : Hid (Below w.heap.size w (w.drewN 1)) := Lib.hid (refl_drewN w 1)
  clear b2 b3 bh5 ah5 xh5 yh5 hma hmb hs hm ht eah1 ebh1 ebh eah exh eyh ha hb hx hy
  go_enter Tryd.func76, Tryd.ntmps76
  go_wp2_with fail
  refine wp_region_held_drew (S := (fun w' => w'.cell? ⟨gb, 2, none⟩ = some (Ptr gx) ∧ w'.cell? ⟨gb, 3, none⟩ = some (Ptr gy) ∧ w'.cell? ⟨gb, 5, none⟩ = some (.int .i64 (bh : Nat)) ∧ w'.cell? ⟨ga, 5, none⟩ = some (.int .i64 (ah : Nat)) ∧ w'.cell? ⟨gx, 5, none⟩ = some (.int .i64 (xh : Nat)) ∧ w'.cell? ⟨gy, 5, none⟩ = some (.int .i64 (yh : Nat)))) (by kernel_rfl) ?p1s0 (fun hHeld => ?_)
  case p1s0 => exact HTS.out _ HB.out
  refine held_take (i := 0) (v := ?p11v) rfl (by kernel_rfl) (by kernel_rfl) (by kernel_rfl) (fun _ _ _ h => h) (by rfl) ?p11y hHeld ?_
  case p11y => ((intro w _hSw; (try dsimp only at _hSw); go_simp); try (with_reducible rfl))
  try simp only [Act.put, List.setIfInBounds_toArray, List.set_cons_zero, List.set_cons_succ]
  refine held_take (i := 1) (v := ?p12v) rfl (by kernel_rfl) (by kernel_rfl) (by kernel_rfl) (fun _ _ _ h => h) (by rfl) ?p12y hHeld ?_
  case p12y => ((intro w _hSw; (try dsimp only at _hSw); go_simp); try (with_reducible rfl))
  try simp only [Act.put, List.setIfInBounds_toArray, List.set_cons_zero, List.set_cons_succ]
  refine held_take (i := 2) (v := ?p13v) rfl (by kernel_rfl) (by kernel_rfl) (by kernel_rfl) (fun _ _ _ h => h) (by rfl) ?p13y hHeld ?_
  case p13y => ((intro w _hSw; (try dsimp only at _hSw); go_simp); try (with_reducible rfl))
  try simp only [Act.put, List.setIfInBounds_toArray, List.set_cons_zero, List.set_cons_succ]
  refine held_take (i := 3) (v := ?p14v) rfl (by kernel_rfl) (by kernel_rfl) (by kernel_rfl) (fun _ _ _ h => h) (by rfl) ?p14y hHeld ?_
  case p14y => ((intro w _hSw; (try dsimp only at _hSw); go_simp); try (with_reducible rfl))
  try simp only [Act.put, List.setIfInBounds_toArray, List.set_cons_zero, List.set_cons_succ]
  refine held_take (i := 4) (v := ?p15v) rfl (by kernel_rfl) (by kernel_rfl) (by kernel_rfl) (fun _ _ _ h => h) (by rfl) ?p15y hHeld ?_
  case p15y => ((intro w _hSw; (try dsimp only at _hSw); go_simp); try (with_reducible rfl))
  try simp only [Act.put, List.setIfInBounds_toArray, List.set_cons_zero, List.set_cons_succ]
  refine held_take (i := 5) (v := ?p16v) rfl (by kernel_rfl) (by kernel_rfl) (by kernel_rfl) (fun _ _ _ h => h) (by rfl) ?p16y hHeld ?_
  case p16y => ((intro w _hSw; (try dsimp only at _hSw); go_simp); try (with_reducible rfl))
  try simp only [Act.put, List.setIfInBounds_toArray, List.set_cons_zero, List.set_cons_succ]
  refine held_take (i := 6) (v := ?p17v) rfl (by kernel_rfl) (by kernel_rfl) (by kernel_rfl) (fun _ _ _ h => h) (by rfl) ?p17y hHeld ?_
  case p17y => ((intro w _hSw; (try dsimp only at _hSw); go_simp); try (with_reducible rfl))
  try simp only [Act.put, List.setIfInBounds_toArray, List.set_cons_zero, List.set_cons_succ]
  refine held_take (i := 7) (v := ?p18v) rfl (by kernel_rfl) (by kernel_rfl) (by kernel_rfl) (fun _ _ _ h => h) (by rfl) ?p18y hHeld ?_
  case p18y => ((intro w _hSw; (try dsimp only at _hSw); go_simp); try (with_reducible rfl))
  try simp only [Act.put, List.setIfInBounds_toArray, List.set_cons_zero, List.set_cons_succ]
  refine held_take (i := 8) (v := (.int .i64 ((bh1 : Nat) : Int))) rfl (by kernel_rfl) (by kernel_rfl) (by kernel_rfl) (fun _ _ _ h => h) (by rfl) ?p19y hHeld ?_
  case p19y => (intro w _hSw; (try dsimp only at _hSw); go_simp; try rw [HW.out.1])
  try simp only [Act.put, List.setIfInBounds_toArray, List.set_cons_zero, List.set_cons_succ]
  refine held_take (i := 9) (v := ?p110v) rfl (by kernel_rfl) (by kernel_rfl) (by kernel_rfl) (fun _ _ _ h => h) (by rfl) ?p110y hHeld ?_
  case p110y => ((intro w _hSw; (try dsimp only at _hSw); go_simp); try (with_reducible rfl))
  try simp only [Act.put, List.setIfInBounds_toArray, List.set_cons_zero, List.set_cons_succ]
  refine held_take (i := 10) (v := ?p111v) rfl (by kernel_rfl) (by kernel_rfl) (by kernel_rfl) (fun _ _ _ h => h) (by rfl) ?p111y hHeld ?_
  case p111y => ((intro w _hSw; (try dsimp only at _hSw); go_simp); try (with_reducible rfl))
  try simp only [Act.put, List.setIfInBounds_toArray, List.set_cons_zero, List.set_cons_succ]
  refine wpAnyH_done (by kernel_rfl) ?_ _
  clear hHeld
  go_wp2_with fail
  have HB := Lib.hid (below_then HB.out HB.out.size (refl_drewN _ 1))
  refine wp_region_held_drew (S := (fun w' => w'.cell? ⟨gb, 2, none⟩ = some (Ptr gx) ∧ w'.cell? ⟨gb, 3, none⟩ = some (Ptr gy) ∧ w'.cell? ⟨gb, 5, none⟩ = some (.int .i64 (bh : Nat)) ∧ w'.cell? ⟨ga, 5, none⟩ = some (.int .i64 (ah : Nat)) ∧ w'.cell? ⟨gx, 5, none⟩ = some (.int .i64 (xh : Nat)) ∧ w'.cell? ⟨gy, 5, none⟩ = some (.int .i64 (yh : Nat)))) (by kernel_rfl) ?p6s0 (fun hHeld => ?_)
  case p6s0 => exact HTS.out _ HB.out
  refine held_take (i := 0) (v := ?p61v) rfl (by kernel_rfl) (by kernel_rfl) (by kernel_rfl) (fun _ _ _ h => h) (by rfl) ?p61y hHeld ?_
  case p61y => ((intro w _hSw; (try dsimp only at _hSw); go_simp); try (with_reducible rfl))
  try simp only [Act.put, List.setIfInBounds_toArray, List.set_cons_zero, List.set_cons_succ]
  refine held_take (i := 1) (v := ?p62v) rfl (by kernel_rfl) (by kernel_rfl) (by kernel_rfl) (fun _ _ _ h => h) (by rfl) ?p62y hHeld ?_
  case p62y => ((intro w _hSw; (try dsimp only at _hSw); go_simp); try (with_reducible rfl))
  try simp only [Act.put, List.setIfInBounds_toArray, List.set_cons_zero, List.set_cons_succ]
  refine held_take (i := 2) (v := ?p63v) rfl (by kernel_rfl) (by kernel_rfl) (by kernel_rfl) (fun _ _ _ h => h) (by rfl) ?p63y hHeld ?_
  case p63y => ((intro w _hSw; (try dsimp only at _hSw); go_simp); try (with_reducible rfl))
  try simp only [Act.put, List.setIfInBounds_toArray, List.set_cons_zero, List.set_cons_succ]
  refine held_take (i := 3) (v := ?p64v) rfl (by kernel_rfl) (by kernel_rfl) (by kernel_rfl) (fun _ _ _ h => h) (by rfl) ?p64y hHeld ?_
  case p64y => ((intro w _hSw; (try dsimp only at _hSw); go_simp); try (with_reducible rfl))
  try simp only [Act.put, List.setIfInBounds_toArray, List.set_cons_zero, List.set_cons_succ]
  refine held_take (i := 4) (v := ?p65v) rfl (by kernel_rfl) (by kernel_rfl) (by kernel_rfl) (fun _ _ _ h => h) (by rfl) ?p65y hHeld ?_
  case p65y => ((intro w _hSw; (try dsimp only at _hSw); go_simp); try (with_reducible rfl))
  try simp only [Act.put, List.setIfInBounds_toArray, List.set_cons_zero, List.set_cons_succ]
  refine held_take (i := 5) (v := ?p66v) rfl (by kernel_rfl) (by kernel_rfl) (by kernel_rfl) (fun _ _ _ h => h) (by rfl) ?p66y hHeld ?_
  case p66y => ((intro w _hSw; (try dsimp only at _hSw); go_simp); try (with_reducible rfl))
  try simp only [Act.put, List.setIfInBounds_toArray, List.set_cons_zero, List.set_cons_succ]
  refine held_take (i := 6) (v := ?p67v) rfl (by kernel_rfl) (by kernel_rfl) (by kernel_rfl) (fun _ _ _ h => h) (by rfl) ?p67y hHeld ?_
  case p67y => ((intro w _hSw; (try dsimp only at _hSw); go_simp); try (with_reducible rfl))
  try simp only [Act.put, List.setIfInBounds_toArray, List.set_cons_zero, List.set_cons_succ]
  refine held_take (i := 7) (v := ?p68v) rfl (by kernel_rfl) (by kernel_rfl) (by kernel_rfl) (fun _ _ _ h => h) (by rfl) ?p68y hHeld ?_
  case p68y => ((intro w _hSw; (try dsimp only at _hSw); go_simp); try (with_reducible rfl))
  try simp only [Act.put, List.setIfInBounds_toArray, List.set_cons_zero, List.set_cons_succ]
  refine held_take (i := 8) (v := (.int .i64 ((ah1 : Nat) : Int))) rfl (by kernel_rfl) (by kernel_rfl) (by kernel_rfl) (fun _ _ _ h => h) (by rfl) ?p69y hHeld ?_
  case p69y => (intro w _hSw; (try dsimp only at _hSw); go_simp; try rw [HW.out.2])
  try simp only [Act.put, List.setIfInBounds_toArray, List.set_cons_zero, List.set_cons_succ]
  refine held_take (i := 9) (v := ?p610v) rfl (by kernel_rfl) (by kernel_rfl) (by kernel_rfl) (fun _ _ _ h => h) (by rfl) ?p610y hHeld ?_
  case p610y => ((intro w _hSw; (try dsimp only at _hSw); go_simp); try (with_reducible rfl))
  try simp only [Act.put, List.setIfInBounds_toArray, List.set_cons_zero, List.set_cons_succ]
  refine held_take (i := 10) (v := ?p611v) rfl (by kernel_rfl) (by kernel_rfl) (by kernel_rfl) (fun _ _ _ h => h) (by rfl) ?p611y hHeld ?_
  case p611y => ((intro w _hSw; (try dsimp only at _hSw); go_simp); try (with_reducible rfl))
  try simp only [Act.put, List.setIfInBounds_toArray, List.set_cons_zero, List.set_cons_succ]
  refine wpAnyH_done (by kernel_rfl) ?_ _
  clear hHeld
  obtain ⟨s0, s1, s2, s3, s4, s5⟩ := HTS.out w (Below.refl _ _)
  go_wp2_with fail
  clear s0 s1 s2 s3 s4 s5
  have HB := Lib.hid (below_then HB.out HB.out.size (refl_drewN _ 1))
  refine wp_region_held_drew (S := (fun w' => w'.cell? ⟨gb, 2, none⟩ = some (Ptr gx) ∧ w'.cell? ⟨gb, 3, none⟩ = some (Ptr gy) ∧ w'.cell? ⟨gb, 5, none⟩ = some (.int .i64 (bh : Nat)) ∧ w'.cell? ⟨ga, 5, none⟩ = some (.int .i64 (ah : Nat)) ∧ w'.cell? ⟨gx, 5, none⟩ = some (.int .i64 (xh : Nat)) ∧ w'.cell? ⟨gy, 5, none⟩ = some (.int .i64 (yh : Nat)))) (by kernel_rfl) ?p8s0 (fun hHeld => ?_)
  case p8s0 => exact HTS.out _ HB.out
  refine held_take (i := 0) (v := ?p81v) rfl (by kernel_rfl) (by kernel_rfl) (by kernel_rfl) (fun _ _ _ h => h) (by rfl) ?p81y hHeld ?_
  case p81y => ((intro w _hSw; (try dsimp only at _hSw); go_simp); try (with_reducible rfl))
  try simp only [Act.put, List.setIfInBounds_toArray, List.set_cons_zero, List.set_cons_succ]
  refine held_take (i := 1) (v := ?p82v) rfl (by kernel_rfl) (by kernel_rfl) (by kernel_rfl) (fun _ _ _ h => h) (by rfl) ?p82y hHeld ?_
  case p82y => ((intro w _hSw; (try dsimp only at _hSw); go_simp); try (with_reducible rfl))
  try simp only [Act.put, List.setIfInBounds_toArray, List.set_cons_zero, List.set_cons_succ]
  refine held_take (i := 2) (v := ?p83v) rfl (by kernel_rfl) (by kernel_rfl) (by kernel_rfl) (fun _ _ _ h => h) (by rfl) ?p83y hHeld ?_
  case p83y => ((intro w _hSw; (try dsimp only at _hSw); go_simp); try (with_reducible rfl))
  try simp only [Act.put, List.setIfInBounds_toArray, List.set_cons_zero, List.set_cons_succ]
  refine held_take (i := 3) (v := ?p84v) rfl (by kernel_rfl) (by kernel_rfl) (by kernel_rfl) (fun _ _ _ h => h) (by rfl) ?p84y hHeld ?_
  case p84y => ((intro w _hSw; (try dsimp only at _hSw); go_simp); try (with_reducible rfl))
  try simp only [Act.put, List.setIfInBounds_toArray, List.set_cons_zero, List.set_cons_succ]
  refine held_take (i := 4) (v := ?p85v) rfl (by kernel_rfl) (by kernel_rfl) (by kernel_rfl) (fun _ _ _ h => h) (by rfl) ?p85y hHeld ?_
  case p85y => ((intro w _hSw; (try dsimp only at _hSw); go_simp); try (with_reducible rfl))
  try simp only [Act.put, List.setIfInBounds_toArray, List.set_cons_zero, List.set_cons_succ]
  refine held_take (i := 5) (v := ?p86v) rfl (by kernel_rfl) (by kernel_rfl) (by kernel_rfl) (fun _ _ _ h => h) (by rfl) ?p86y hHeld ?_
  case p86y => ((intro w _hSw; (try dsimp only at _hSw); go_simp); try (with_reducible rfl))
  try simp only [Act.put, List.setIfInBounds_toArray, List.set_cons_zero, List.set_cons_succ]
  refine held_take (i := 6) (v := ?p87v) rfl (by kernel_rfl) (by kernel_rfl) (by kernel_rfl) (fun _ _ _ h => h) (by rfl) ?p87y hHeld ?_
  case p87y => ((intro w _hSw; (try dsimp only at _hSw); go_simp); try (with_reducible rfl))
  try simp only [Act.put, List.setIfInBounds_toArray, List.set_cons_zero, List.set_cons_succ]
  refine held_take (i := 7) (v := ?p88v) rfl (by kernel_rfl) (by kernel_rfl) (by kernel_rfl) (fun _ _ _ h => h) (by rfl) ?p88y hHeld ?_
  case p88y => ((intro w _hSw; (try dsimp only at _hSw); go_simp); try (with_reducible rfl))
  try simp only [Act.put, List.setIfInBounds_toArray, List.set_cons_zero, List.set_cons_succ]
  refine held_take (i := 8) (v := ?p89v) rfl (by kernel_rfl) (by kernel_rfl) (by kernel_rfl) (fun _ _ _ h => h) (by rfl) ?p89y hHeld ?_
  case p89y => ((intro w _hSw; (try dsimp only at _hSw); go_simp); try (with_reducible rfl))
  try simp only [Act.put, List.setIfInBounds_toArray, List.set_cons_zero, List.set_cons_succ]
  refine held_take (i := 9) (v := ?p810v) rfl (by kernel_rfl) (by kernel_rfl) (by kernel_rfl) (fun _ _ _ h => h) (by rfl) ?p810y hHeld ?_
  case p810y => ((intro w _hSw; (try dsimp only at _hSw); go_simp); try (with_reducible rfl))
  try simp only [Act.put, List.setIfInBounds_toArray, List.set_cons_zero, List.set_cons_succ]
  refine held_take (i := 10) (v := ?p811v) rfl (by kernel_rfl) (by kernel_rfl) (by kernel_rfl) (fun _ _ _ h => h) (by rfl) ?p811y hHeld ?_
  case p811y => ((intro w _hSw; (try dsimp only at _hSw); go_simp); try (with_reducible rfl))
  try simp only [Act.put, List.setIfInBounds_toArray, List.set_cons_zero, List.set_cons_succ]
  refine held_take (i := 11) (v := ?p812v) rfl (by kernel_rfl) (by kernel_rfl) (by kernel_rfl) (fun _ _ _ h => h) (by rfl) ?p812y hHeld ?_
  case p812y => ((intro w _hSw; (try dsimp only at _hSw); go_simp); try (with_reducible rfl))
  try simp only [Act.put, List.setIfInBounds_toArray, List.set_cons_zero, List.set_cons_succ]
  refine wpAnyH_done (by kernel_rfl) ?_ _
  clear hHeld
  go_wp2_with fail
  have HB := Lib.hid (below_then HB.out HB.out.size (refl_drewN _ 1))
  refine wp_region_held_drew (S := (fun w' => w'.cell? ⟨gb, 2, none⟩ = some (Ptr gx) ∧ w'.cell? ⟨gb, 3, none⟩ = some (Ptr gy) ∧ w'.cell? ⟨gb, 5, none⟩ = some (.int .i64 (bh : Nat)) ∧ w'.cell? ⟨ga, 5, none⟩ = some (.int .i64 (ah : Nat)) ∧ w'.cell? ⟨gx, 5, none⟩ = some (.int .i64 (xh : Nat)) ∧ w'.cell? ⟨gy, 5, none⟩ = some (.int .i64 (yh : Nat)))) (by kernel_rfl) ?p10s0 (fun hHeld => ?_)
  case p10s0 => exact HTS.out _ HB.out
  refine held_take (i := 0) (v := ?p101v) rfl (by kernel_rfl) (by kernel_rfl) (by kernel_rfl) (fun _ _ _ h => h) (by rfl) ?p101y hHeld ?_
  case p101y => ((intro w _hSw; (try dsimp only at _hSw); go_simp); try (with_reducible rfl))
  try simp only [Act.put, List.setIfInBounds_toArray, List.set_cons_zero, List.set_cons_succ]
  refine held_take (i := 1) (v := ?p102v) rfl (by kernel_rfl) (by kernel_rfl) (by kernel_rfl) (fun _ _ _ h => h) (by rfl) ?p102y hHeld ?_
  case p102y => ((intro w _hSw; (try dsimp only at _hSw); go_simp); try (with_reducible rfl))
  try simp only [Act.put, List.setIfInBounds_toArray, List.set_cons_zero, List.set_cons_succ]
  refine held_take (i := 2) (v := ?p103v) rfl (by kernel_rfl) (by kernel_rfl) (by kernel_rfl) (fun _ _ _ h => h) (by rfl) ?p103y hHeld ?_
  case p103y => ((intro w _hSw; (try dsimp only at _hSw); go_simp); try (with_reducible rfl))
  try simp only [Act.put, List.setIfInBounds_toArray, List.set_cons_zero, List.set_cons_succ]
  refine held_take (i := 3) (v := ?p104v) rfl (by kernel_rfl) (by kernel_rfl) (by kernel_rfl) (fun _ _ _ h => h) (by rfl) ?p104y hHeld ?_
  case p104y => ((intro w _hSw; (try dsimp only at _hSw); go_simp); try (with_reducible rfl))
  try simp only [Act.put, List.setIfInBounds_toArray, List.set_cons_zero, List.set_cons_succ]
  refine held_take (i := 4) (v := ?p105v) rfl (by kernel_rfl) (by kernel_rfl) (by kernel_rfl) (fun _ _ _ h => h) (by rfl) ?p105y hHeld ?_
  case p105y => ((intro w _hSw; (try dsimp only at _hSw); go_simp); try (with_reducible rfl))
  try simp only [Act.put, List.setIfInBounds_toArray, List.set_cons_zero, List.set_cons_succ]
  refine held_take (i := 6) (v := ?p106v) rfl (by kernel_rfl) (by kernel_rfl) (by kernel_rfl) (fun _ _ _ h => h) (by rfl) ?p106y hHeld ?_
  case p106y => ((intro w _hSw; (try dsimp only at _hSw); go_simp); try (with_reducible rfl))
  try simp only [Act.put, List.setIfInBounds_toArray, List.set_cons_zero, List.set_cons_succ]
  refine held_take (i := 7) (v := ?p107v) rfl (by kernel_rfl) (by kernel_rfl) (by kernel_rfl) (fun _ _ _ h => h) (by rfl) ?p107y hHeld ?_
  case p107y => ((intro w _hSw; (try dsimp only at _hSw); go_simp); try (with_reducible rfl))
  try simp only [Act.put, List.setIfInBounds_toArray, List.set_cons_zero, List.set_cons_succ]
  refine held_take (i := 8) (v := ?p108v) rfl (by kernel_rfl) (by kernel_rfl) (by kernel_rfl) (fun _ _ _ h => h) (by rfl) ?p108y hHeld ?_
  case p108y => ((intro w _hSw; (try dsimp only at _hSw); go_simp); try (with_reducible rfl))
  try simp only [Act.put, List.setIfInBounds_toArray, List.set_cons_zero, List.set_cons_succ]
  refine held_take (i := 9) (v := ?p109v) rfl (by kernel_rfl) (by kernel_rfl) (by kernel_rfl) (fun _ _ _ h => h) (by rfl) ?p109y hHeld ?_
  case p109y => ((intro w _hSw; (try dsimp only at _hSw); go_simp); try (with_reducible rfl))
  try simp only [Act.put, List.setIfInBounds_toArray, List.set_cons_zero, List.set_cons_succ]
  refine held_step (i := 5) rfl (by kernel_rfl) (by rfl) (fun K hK => ?_)
  go_simp
  refine (node_to (a) (x) ga gx _ (HT.out.1.below HB.out) (HT.out.2.1.below HB.out) (by have := HM.out; simp only [Av.many] at this ⊢; omega) (HT.out.2.2.2.below HB.out HT.out.2.2.2.lt)).mono ?_
  rintro e wc ⟨p1, rfl, hn, hb⟩
  have HNp1 := Lib.hid hn
  have HB := Lib.hid (below_then HB.out HB.out.size hb)
  clear hn hb
  go_wp2_with fail
  have hHeld := HTS.out _ HB.out
  refine hK.out _ _ (HTS.out _ HB.out) ?_
  clear hK K
  try simp only [Act.put, List.setIfInBounds_toArray, List.set_cons_zero, List.set_cons_succ]
  refine held_step (i := 10) rfl (by kernel_rfl) (by rfl) (fun K hK => ?_)
  go_simp
  refine (node_to (.node a x) (y) p1 gy _ HNp1.out (HT.out.2.2.1.below HB.out) (by have := HM.out; simp only [Av.many] at this ⊢; omega) (HT.out.2.2.2.below HB.out HT.out.2.2.2.lt)).mono ?_
  rintro e wc ⟨p3, rfl, hn, hb⟩
  have HNp3 := Lib.hid hn
  have HB := Lib.hid (below_then HB.out HB.out.size hb)
  clear hn hb
  go_wp2_with fail
  have hHeld := HTS.out _ HB.out
  refine hK.out _ _ (HTS.out _ HB.out) ?_
  clear hK K
  try simp only [Act.put, List.setIfInBounds_toArray, List.set_cons_zero, List.set_cons_succ]
  refine held_take (i := 11) (v := ?p1010v) rfl (by kernel_rfl) (by kernel_rfl) (by kernel_rfl) (fun _ _ _ h => h) (by rfl) ?p1010y hHeld ?_
  case p1010y => ((intro w _hSw; (try dsimp only at _hSw); go_simp); try (with_reducible rfl))
  try simp only [Act.put, List.setIfInBounds_toArray, List.set_cons_zero, List.set_cons_succ]
  refine wpAnyH_done (by kernel_rfl) ?_ _
  go_wp2
  go_ret
  exact ⟨_, rfl, HNp3.out, HB.out⟩
set_option maxRecDepth 100000 in
set_option maxHeartbeats 4000000 in
theorem rt_cc (a b : Av) (ga gb : Nat) (w : World) (ha : TreeAt w a ga) (hb : TreeAt w b gb) (hm : Av.many a + Av.many b ≤ 1000000) (hs : ¬ Av.height b + 1 < Av.height a ∧ ¬ Av.height a + 1 < Av.height b) (ht : TabLaid w) :
    Calls Tryd.prog 76 #[Ptr ga, Ptr gb] w fun e w' => ∃ g, e = .returned (Ptr g) ∧ TreeAt w' (.node a b) g ∧ Below w.heap.size w w' := by
  have ah5 := (tree_cells ha).2.2.2.1
  have bh5 := (tree_cells hb).2.2.2.1
  have hma := Av.height_many a
  have hmb := Av.height_many b
  obtain ⟨ah, eah⟩ : ∃ n, Av.height a = n := ⟨_, rfl⟩
  rw [eah] at ah5 hs hma
  obtain ⟨bh, ebh⟩ : ∃ n, Av.height b = n := ⟨_, rfl⟩
  rw [ebh] at bh5 hs hmb
  obtain ⟨ah1, eah1⟩ : ∃ n, n = ah + 1 := ⟨_, rfl⟩
  obtain ⟨bh1, ebh1⟩ : ∃ n, n = bh + 1 := ⟨_, rfl⟩
  have HTS : Hid (∀ w', Below w.heap.size w w' → w'.cell? ⟨ga, 5, none⟩ = some (.int .i64 (ah : Nat)) ∧ w'.cell? ⟨gb, 5, none⟩ = some (.int .i64 (bh : Nat))) := Lib.hid fun w' h => ⟨cell_below ah5 h, cell_below bh5 h⟩
  have HW := Lib.hid (And.intro (show IntKind.i64.wrap ((bh : Int) + 1) = ((bh1 : Nat) : Int) by rw [IntWalk.i64_in ((bh : Int) + 1) ⟨by omega, by omega⟩]; omega) (show IntKind.i64.wrap ((ah : Int) + 1) = ((ah1 : Nat) : Int) by rw [IntWalk.i64_in ((ah : Int) + 1) ⟨by omega, by omega⟩]; omega))
  have HM := Lib.hid hm
  have HT := Lib.hid (And.intro ha (And.intro hb (ht)))
  have c1 : ¬ bh1 < ah := by omega
  have c2 : ¬ ah1 < bh := by omega
  have HB : Hid (Below w.heap.size w (w.drewN 1)) := Lib.hid (refl_drewN w 1)
  clear ah5 bh5 hma hmb hs hm ht eah1 ebh1 eah ebh ha hb
  go_enter Tryd.func76, Tryd.ntmps76
  go_wp2_with fail
  refine wp_region_held_drew (S := (fun w' => w'.cell? ⟨ga, 5, none⟩ = some (.int .i64 (ah : Nat)) ∧ w'.cell? ⟨gb, 5, none⟩ = some (.int .i64 (bh : Nat)))) (by kernel_rfl) ?p1s0 (fun hHeld => ?_)
  case p1s0 => exact HTS.out _ HB.out
  refine held_take (i := 0) (v := ?p11v) rfl (by kernel_rfl) (by kernel_rfl) (by kernel_rfl) (fun _ _ _ h => h) (by rfl) ?p11y hHeld ?_
  case p11y => ((intro w _hSw; (try dsimp only at _hSw); go_simp); try (with_reducible rfl))
  try simp only [Act.put, List.setIfInBounds_toArray, List.set_cons_zero, List.set_cons_succ]
  refine held_take (i := 1) (v := ?p12v) rfl (by kernel_rfl) (by kernel_rfl) (by kernel_rfl) (fun _ _ _ h => h) (by rfl) ?p12y hHeld ?_
  case p12y => ((intro w _hSw; (try dsimp only at _hSw); go_simp); try (with_reducible rfl))
  try simp only [Act.put, List.setIfInBounds_toArray, List.set_cons_zero, List.set_cons_succ]
  refine held_take (i := 2) (v := ?p13v) rfl (by kernel_rfl) (by kernel_rfl) (by kernel_rfl) (fun _ _ _ h => h) (by rfl) ?p13y hHeld ?_
  case p13y => ((intro w _hSw; (try dsimp only at _hSw); go_simp); try (with_reducible rfl))
  try simp only [Act.put, List.setIfInBounds_toArray, List.set_cons_zero, List.set_cons_succ]
  refine held_take (i := 3) (v := ?p14v) rfl (by kernel_rfl) (by kernel_rfl) (by kernel_rfl) (fun _ _ _ h => h) (by rfl) ?p14y hHeld ?_
  case p14y => ((intro w _hSw; (try dsimp only at _hSw); go_simp); try (with_reducible rfl))
  try simp only [Act.put, List.setIfInBounds_toArray, List.set_cons_zero, List.set_cons_succ]
  refine held_take (i := 4) (v := ?p15v) rfl (by kernel_rfl) (by kernel_rfl) (by kernel_rfl) (fun _ _ _ h => h) (by rfl) ?p15y hHeld ?_
  case p15y => ((intro w _hSw; (try dsimp only at _hSw); go_simp); try (with_reducible rfl))
  try simp only [Act.put, List.setIfInBounds_toArray, List.set_cons_zero, List.set_cons_succ]
  refine held_take (i := 5) (v := ?p16v) rfl (by kernel_rfl) (by kernel_rfl) (by kernel_rfl) (fun _ _ _ h => h) (by rfl) ?p16y hHeld ?_
  case p16y => ((intro w _hSw; (try dsimp only at _hSw); go_simp); try (with_reducible rfl))
  try simp only [Act.put, List.setIfInBounds_toArray, List.set_cons_zero, List.set_cons_succ]
  refine held_take (i := 6) (v := ?p17v) rfl (by kernel_rfl) (by kernel_rfl) (by kernel_rfl) (fun _ _ _ h => h) (by rfl) ?p17y hHeld ?_
  case p17y => ((intro w _hSw; (try dsimp only at _hSw); go_simp); try (with_reducible rfl))
  try simp only [Act.put, List.setIfInBounds_toArray, List.set_cons_zero, List.set_cons_succ]
  refine held_take (i := 7) (v := ?p18v) rfl (by kernel_rfl) (by kernel_rfl) (by kernel_rfl) (fun _ _ _ h => h) (by rfl) ?p18y hHeld ?_
  case p18y => ((intro w _hSw; (try dsimp only at _hSw); go_simp); try (with_reducible rfl))
  try simp only [Act.put, List.setIfInBounds_toArray, List.set_cons_zero, List.set_cons_succ]
  refine held_take (i := 8) (v := (.int .i64 ((bh1 : Nat) : Int))) rfl (by kernel_rfl) (by kernel_rfl) (by kernel_rfl) (fun _ _ _ h => h) (by rfl) ?p19y hHeld ?_
  case p19y => (intro w _hSw; (try dsimp only at _hSw); go_simp; try rw [HW.out.1])
  try simp only [Act.put, List.setIfInBounds_toArray, List.set_cons_zero, List.set_cons_succ]
  refine held_take (i := 9) (v := ?p110v) rfl (by kernel_rfl) (by kernel_rfl) (by kernel_rfl) (fun _ _ _ h => h) (by rfl) ?p110y hHeld ?_
  case p110y => ((intro w _hSw; (try dsimp only at _hSw); go_simp); try (with_reducible rfl))
  try simp only [Act.put, List.setIfInBounds_toArray, List.set_cons_zero, List.set_cons_succ]
  refine held_take (i := 10) (v := ?p111v) rfl (by kernel_rfl) (by kernel_rfl) (by kernel_rfl) (fun _ _ _ h => h) (by rfl) ?p111y hHeld ?_
  case p111y => ((intro w _hSw; (try dsimp only at _hSw); go_simp); try (with_reducible rfl))
  try simp only [Act.put, List.setIfInBounds_toArray, List.set_cons_zero, List.set_cons_succ]
  refine wpAnyH_done (by kernel_rfl) ?_ _
  clear hHeld
  go_wp2_with fail
  have HB := Lib.hid (below_then HB.out HB.out.size (refl_drewN _ 1))
  refine wp_region_held_drew (S := (fun w' => w'.cell? ⟨ga, 5, none⟩ = some (.int .i64 (ah : Nat)) ∧ w'.cell? ⟨gb, 5, none⟩ = some (.int .i64 (bh : Nat)))) (by kernel_rfl) ?p6s0 (fun hHeld => ?_)
  case p6s0 => exact HTS.out _ HB.out
  refine held_take (i := 0) (v := ?p61v) rfl (by kernel_rfl) (by kernel_rfl) (by kernel_rfl) (fun _ _ _ h => h) (by rfl) ?p61y hHeld ?_
  case p61y => ((intro w _hSw; (try dsimp only at _hSw); go_simp); try (with_reducible rfl))
  try simp only [Act.put, List.setIfInBounds_toArray, List.set_cons_zero, List.set_cons_succ]
  refine held_take (i := 1) (v := ?p62v) rfl (by kernel_rfl) (by kernel_rfl) (by kernel_rfl) (fun _ _ _ h => h) (by rfl) ?p62y hHeld ?_
  case p62y => ((intro w _hSw; (try dsimp only at _hSw); go_simp); try (with_reducible rfl))
  try simp only [Act.put, List.setIfInBounds_toArray, List.set_cons_zero, List.set_cons_succ]
  refine held_take (i := 2) (v := ?p63v) rfl (by kernel_rfl) (by kernel_rfl) (by kernel_rfl) (fun _ _ _ h => h) (by rfl) ?p63y hHeld ?_
  case p63y => ((intro w _hSw; (try dsimp only at _hSw); go_simp); try (with_reducible rfl))
  try simp only [Act.put, List.setIfInBounds_toArray, List.set_cons_zero, List.set_cons_succ]
  refine held_take (i := 3) (v := ?p64v) rfl (by kernel_rfl) (by kernel_rfl) (by kernel_rfl) (fun _ _ _ h => h) (by rfl) ?p64y hHeld ?_
  case p64y => ((intro w _hSw; (try dsimp only at _hSw); go_simp); try (with_reducible rfl))
  try simp only [Act.put, List.setIfInBounds_toArray, List.set_cons_zero, List.set_cons_succ]
  refine held_take (i := 4) (v := ?p65v) rfl (by kernel_rfl) (by kernel_rfl) (by kernel_rfl) (fun _ _ _ h => h) (by rfl) ?p65y hHeld ?_
  case p65y => ((intro w _hSw; (try dsimp only at _hSw); go_simp); try (with_reducible rfl))
  try simp only [Act.put, List.setIfInBounds_toArray, List.set_cons_zero, List.set_cons_succ]
  refine held_take (i := 5) (v := ?p66v) rfl (by kernel_rfl) (by kernel_rfl) (by kernel_rfl) (fun _ _ _ h => h) (by rfl) ?p66y hHeld ?_
  case p66y => ((intro w _hSw; (try dsimp only at _hSw); go_simp); try (with_reducible rfl))
  try simp only [Act.put, List.setIfInBounds_toArray, List.set_cons_zero, List.set_cons_succ]
  refine held_take (i := 6) (v := ?p67v) rfl (by kernel_rfl) (by kernel_rfl) (by kernel_rfl) (fun _ _ _ h => h) (by rfl) ?p67y hHeld ?_
  case p67y => ((intro w _hSw; (try dsimp only at _hSw); go_simp); try (with_reducible rfl))
  try simp only [Act.put, List.setIfInBounds_toArray, List.set_cons_zero, List.set_cons_succ]
  refine held_take (i := 7) (v := ?p68v) rfl (by kernel_rfl) (by kernel_rfl) (by kernel_rfl) (fun _ _ _ h => h) (by rfl) ?p68y hHeld ?_
  case p68y => ((intro w _hSw; (try dsimp only at _hSw); go_simp); try (with_reducible rfl))
  try simp only [Act.put, List.setIfInBounds_toArray, List.set_cons_zero, List.set_cons_succ]
  refine held_take (i := 8) (v := (.int .i64 ((ah1 : Nat) : Int))) rfl (by kernel_rfl) (by kernel_rfl) (by kernel_rfl) (fun _ _ _ h => h) (by rfl) ?p69y hHeld ?_
  case p69y => (intro w _hSw; (try dsimp only at _hSw); go_simp; try rw [HW.out.2])
  try simp only [Act.put, List.setIfInBounds_toArray, List.set_cons_zero, List.set_cons_succ]
  refine held_take (i := 9) (v := ?p610v) rfl (by kernel_rfl) (by kernel_rfl) (by kernel_rfl) (fun _ _ _ h => h) (by rfl) ?p610y hHeld ?_
  case p610y => ((intro w _hSw; (try dsimp only at _hSw); go_simp); try (with_reducible rfl))
  try simp only [Act.put, List.setIfInBounds_toArray, List.set_cons_zero, List.set_cons_succ]
  refine held_take (i := 10) (v := ?p611v) rfl (by kernel_rfl) (by kernel_rfl) (by kernel_rfl) (fun _ _ _ h => h) (by rfl) ?p611y hHeld ?_
  case p611y => ((intro w _hSw; (try dsimp only at _hSw); go_simp); try (with_reducible rfl))
  try simp only [Act.put, List.setIfInBounds_toArray, List.set_cons_zero, List.set_cons_succ]
  refine wpAnyH_done (by kernel_rfl) ?_ _
  clear hHeld
  go_wp2_with fail
  refine (node_to a b ga gb _ (HT.out.1.below HB.out) (HT.out.2.1.below HB.out) (by have := HM.out; omega) (HT.out.2.2.below HB.out HT.out.2.2.lt)).mono ?_
  rintro e wc ⟨p1, rfl, hn, hb⟩
  have HB := Lib.hid (And.intro hn (below_then HB.out HB.out.size hb))
  clear hn hb
  go_wp2
  go_ret
  exact ⟨_, rfl, HB.out.1, HB.out.2⟩
theorem right_any (a b : Av) (ga gb : Nat) (w : World) (ha : TreeAt w a ga) (hb : TreeAt w b gb) (hm : a.many + b.many ≤ 1000000) (ht : TabLaid w) :
    Calls Tryd.prog 76 #[Ptr ga, Ptr gb] w fun e w' => ∃ g, e = .returned (Ptr g) ∧ TreeAt w' (Av.right a b) g ∧ Below w.heap.size w w' := by
  by_cases h1 : b.height + 1 < a.height
  · cases a with
    | leaf k v => have := b.height_pos; simp only [Av.height] at h1; omega
    | node x y =>
      by_cases h2 : x.height < y.height
      · cases y with
        | leaf k v => have := x.height_pos; simp only [Av.height] at h2; omega
        | node y1 y2 => rw [Av.right_aa x y1 y2 b h1 h2]; exact rt_aa x y1 y2 b ga gb w ha hb hm ⟨h1, h2⟩ ht
      · rw [Av.right_ab x y b h1 h2]; exact rt_ab x y b ga gb w ha hb hm ⟨h1, h2⟩ ht
  · by_cases h3 : a.height + 1 < b.height
    · cases b with
      | leaf k v => have := a.height_pos; simp only [Av.height] at h3; omega
      | node x y =>
        by_cases h2 : y.height < x.height
        · cases x with
          | leaf k v => have := y.height_pos; simp only [Av.height] at h2; omega
          | node x1 x2 => rw [Av.right_ba a x1 x2 y h1 h3 h2]; exact rt_ba a x1 x2 y ga gb w ha hb hm ⟨h1, h3, h2⟩ ht
        · rw [Av.right_bb a x y h1 h3 h2]; exact rt_bb a x y ga gb w ha hb hm ⟨h1, h3, h2⟩ ht
    · rw [Av.right_cc a b h1 h3]; exact rt_cc a b ga gb w ha hb hm ⟨h1, h3⟩ ht
end Go.Proofs.YtdekealpachhmaaDoor
