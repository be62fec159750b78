/- Layer 7: leaf, isLeaf, least by their contracts. -/
import Derived.Test.YtdekealpachhmaaDoorFill
import Derived.Test.YtdekealpachhmaaDoorAvT
namespace Go.Isth
def Av.isLeaf : Av → Bool
  | .leaf _ _ => true
  | .node _ _ => false
def Av.val : Av → Str
  | .leaf _ v => v
  | .node _ _ => []
/-- A node's key: its own, or its second part's first. -/
def Av.key : Av → Str
  | .leaf k _ => k
  | .node _ b => b.least
end Go.Isth
namespace Go.Proofs.YtdekealpachhmaaDoor
open Go Go.RowKit Go.Isth

theorem built_tree (k : ByteArray) (f s : Option Addr) (m h : Int) (cs : List Value) (hl : cs.length = 32) :
    Tryd.prog.built 127 [(0, .string k), (2, .pointer f), (3, .pointer s), (4, .int .i64 m), (5, .int .i64 h), (6, .agg cs.toArray)] = some ([.string k, S8 [], .pointer f, .pointer s, .int .i64 m, .int .i64 h] ++ cs).toArray := by
  rw [built_struct (P := Tryd.prog) (t := 127) (zs := [S8 [], S8 [], .pointer none, .pointer none, .int .i64 0, .int .i64 0] ++ List.replicate 32 (B 0)) (by kernel_rfl) Tryd.underlying127 (places := [(0, 1), (1, 1), (2, 1), (3, 1), (4, 1), (5, 1), (6, 32)]) (by kernel_rfl)]
  refine (fill_part _ 0 0 (.string k) [.string k] [] [S8 []] (S8 [] :: .pointer none :: .pointer none :: .int .i64 0 :: .int .i64 0 :: List.replicate 32 (B 0)) _ rfl rfl rfl rfl).trans ?_
  refine (fill_part _ 2 2 (.pointer f) [.pointer f] [.string k, S8 []] [.pointer none] (.pointer none :: .int .i64 0 :: .int .i64 0 :: List.replicate 32 (B 0)) _ rfl rfl rfl rfl).trans ?_
  refine (fill_part _ 3 3 (.pointer s) [.pointer s] [.string k, S8 [], .pointer f] [.pointer none] (.int .i64 0 :: .int .i64 0 :: List.replicate 32 (B 0)) _ rfl rfl rfl rfl).trans ?_
  refine (fill_part _ 4 4 (.int .i64 m) [.int .i64 m] [.string k, S8 [], .pointer f, .pointer s] [.int .i64 0] (.int .i64 0 :: List.replicate 32 (B 0)) _ rfl rfl rfl rfl).trans ?_
  refine (fill_part _ 5 5 (.int .i64 h) [.int .i64 h] [.string k, S8 [], .pointer f, .pointer s, .int .i64 m] [.int .i64 0] (List.replicate 32 (B 0)) _ rfl rfl rfl rfl).trans ?_
  refine (fill_part _ 6 6 (.agg cs.toArray) cs [.string k, S8 [], .pointer f, .pointer s, .int .i64 m, .int .i64 h] (List.replicate 32 (B 0)) [] _ (by rw [hl]; rfl) rfl rfl (by rw [hl]; rfl)).trans ?_
  rw [fill_nil, List.append_nil]
theorem built_leaf (k v : ByteArray) (m h : Int) (cs : List Value) (hl : cs.length = 32) :
    Tryd.prog.built 127 [(0, .string k), (1, .string v), (4, .int .i64 m), (5, .int .i64 h), (6, .agg cs.toArray)] = some (([.string k, .string v, .pointer none, .pointer none, .int .i64 m, .int .i64 h] : List Value) ++ cs).toArray := by
  rw [built_struct (P := Tryd.prog) (t := 127) (zs := [S8 [], S8 [], .pointer none, .pointer none, .int .i64 0, .int .i64 0] ++ List.replicate 32 (B 0)) (by kernel_rfl) Tryd.underlying127 (places := [(0, 1), (1, 1), (2, 1), (3, 1), (4, 1), (5, 1), (6, 32)]) (by kernel_rfl)]
  refine (fill_part _ 0 0 (.string k) [.string k] [] [S8 []] (S8 [] :: .pointer none :: .pointer none :: .int .i64 0 :: .int .i64 0 :: List.replicate 32 (B 0)) _ rfl rfl rfl rfl).trans ?_
  refine (fill_part _ 1 1 (.string v) [.string v] [.string k] [S8 []] (.pointer none :: .pointer none :: .int .i64 0 :: .int .i64 0 :: List.replicate 32 (B 0)) _ rfl rfl rfl rfl).trans ?_
  refine (fill_part _ 4 4 (.int .i64 m) [.int .i64 m] [.string k, .string v, .pointer none, .pointer none] [.int .i64 0] (.int .i64 0 :: List.replicate 32 (B 0)) _ rfl rfl rfl rfl).trans ?_
  refine (fill_part _ 5 5 (.int .i64 h) [.int .i64 h] [.string k, .string v, .pointer none, .pointer none, .int .i64 m] [.int .i64 0] (List.replicate 32 (B 0)) _ rfl rfl rfl rfl).trans ?_
  refine (fill_part _ 6 6 (.agg cs.toArray) cs [.string k, .string v, .pointer none, .pointer none, .int .i64 m, .int .i64 h] (List.replicate 32 (B 0)) [] _ (by rw [hl]; rfl) rfl rfl (by rw [hl]; rfl)).trans ?_
  rw [fill_nil, List.append_nil]
set_option maxRecDepth 100000 in
set_option maxHeartbeats 400000 in
theorem newleaf_any (k v : Str) (ks vs : ByteArray) (w : World) (hk : ks = ⟨k.toArray⟩) (hv : vs = ⟨v.toArray⟩) (hkl : k.length ≤ 2000000) (hvl : v.length ≤ 2000000) (ht : TabLaid w) :
    Calls Tryd.prog 74 #[.string ks, .string vs] w fun e w' => ∃ g, e = .returned (Ptr g) ∧ TreeAt w' (.leaf k v) g ∧ w.heap.size ≤ g ∧ Below w.heap.size w w' := by
  obtain ⟨cs, hcs⟩ : ∃ cs, cs = (avLeaf k v).map B := ⟨_, rfl⟩
  have hcl : cs.length = 32 := by rw [hcs, List.length_map, avLeaf_length]
  have HC := Lib.hid (And.intro hcs (And.intro hk (And.intro hv (And.intro hkl (And.intro hvl ht)))))
  have HBU := Lib.hid (built_leaf ks vs 1 1 cs hcl)
  clear hcl hcs hk hv hkl hvl ht
  go_enter Tryd.func74, Tryd.ntmps74
  go_wp2_with fail
  refine (avleaf_any k v ks vs cs w HC.out.2.1 HC.out.2.2.1 HC.out.1 HC.out.2.2.2.1 HC.out.2.2.2.2.1 HC.out.2.2.2.2.2).mono ?_
  rintro e w1 ⟨rfl, hb1⟩
  have HB := Lib.hid hb1
  clear hb1
  go_wp2_with (refine wpList_built rfl 127 _ rfl _ _ HBU.out (by rfl) ?_)
  go_ret
  refine ⟨w1.heap.size, rfl, ?_, HB.out.size, HB.out.alloc HB.out.size _⟩
  show Blk _ _ _ _
  have h := Blk_new w1 ([.string ks, .string vs, .pointer none, .pointer none, .int .i64 1, .int .i64 1] ++ cs) 127
  rw [HC.out.2.1, HC.out.2.2.1, HC.out.1] at h
  rw [HC.out.2.1, HC.out.2.2.1, HC.out.1]
  exact h
theorem tree_row (k v : Str) (f s : Option Nat) (m h : Nat) (sum : List UInt8) (j : Nat) : (treeCells k v f s m h sum)[6 + j]? = (sum.map B)[j]? := by
  unfold treeCells
  rw [List.getElem?_append_right (by simp)]
  congr 1
  simp
theorem tree_lt {w : World} {t : Av} {g : Nat} (h : TreeAt w t g) : g < w.heap.size := by
  cases t with
  | leaf k v => exact Blk.lt h
  | node a b => obtain ⟨_, _, h, _⟩ := h; exact h.lt
/-- The numbers, the key of a tree. -/
theorem tree_cells {w : World} {t : Av} {g : Nat} (h : TreeAt w t g) : w.cell? ⟨g, 0, none⟩ = some (S8 t.key) ∧ w.cell? ⟨g, 1, none⟩ = some (S8 t.val) ∧ w.cell? ⟨g, 4, none⟩ = some (.int .i64 (t.many : Nat)) ∧ w.cell? ⟨g, 5, none⟩ = some (.int .i64 (t.height : Nat)) ∧ ∃ cs, cs = t.sum.map B ∧ w.rangeAt g 6 cs := by
  cases t with
  | leaf k v =>
    exact ⟨Blk.cellD h 0 _ rfl, Blk.cellD h 1 _ rfl, Blk.cellD h 4 _ rfl, Blk.cellD h 5 _ rfl, _, rfl, fun j u hu => Blk.cellD h (6 + j) _ (by rw [tree_row]; exact hu)⟩
  | node a b =>
    obtain ⟨ga, gb, h, _⟩ := h
    exact ⟨Blk.cellD h 0 _ rfl, Blk.cellD h 1 _ rfl, Blk.cellD h 4 _ rfl, Blk.cellD h 5 _ rfl, _, rfl, fun j u hu => Blk.cellD h (6 + j) _ (by rw [tree_row]; exact hu)⟩
theorem leaf_cells {w : World} {k v : Str} {g : Nat} (h : TreeAt w (.leaf k v) g) : w.cell? ⟨g, 2, none⟩ = some (.pointer none) := Blk.cellD h 2 _ rfl
theorem node_cells {w : World} {a b : Av} {g : Nat} (h : TreeAt w (.node a b) g) : ∃ ga gb, w.cell? ⟨g, 2, none⟩ = some (Ptr ga) ∧ w.cell? ⟨g, 3, none⟩ = some (Ptr gb) ∧ TreeAt w a ga ∧ TreeAt w b gb := by
  obtain ⟨ga, gb, h, ha, hb⟩ := h
  exact ⟨ga, gb, Blk.cellD h 2 _ rfl, Blk.cellD h 3 _ rfl, ha, hb⟩
theorem isleaf_any (t : Av) (g : Nat) (w : World) (h : TreeAt w t g) :
    Calls Tryd.prog 63 #[Ptr g] w fun e w' => e = .returned (.bool t.isLeaf) ∧ w' = w := by
  cases t with
  | leaf k v =>
    have c := leaf_cells h
    go_enter Tryd.func63, Tryd.ntmps63
    go_wp2
    go_ret
    exact ⟨rfl, rfl⟩
  | node a b =>
    obtain ⟨ga, gb, c, _⟩ := node_cells h
    go_enter Tryd.func63, Tryd.ntmps63
    go_wp2
    go_ret
    exact ⟨rfl, rfl⟩
/-- A tree's height as it lies in memory: what a way down lessens. -/
def hAt (w : World) (v : Value) : Nat :=
  match v with
  | .pointer (some a) => (match w.cell? ⟨a.block, 5, none⟩ with | some (.int _ n) => n.toNat | _ => 0)
  | _ => 0
theorem hAt_tree {w : World} {t : Av} {g : Nat} (h : TreeAt w t g) : hAt w (Ptr g) = t.height := by
  have h5 := (tree_cells h).2.2.2.1
  simp only [hAt, h5, Int.toNat_natCast]
def LeastInv (w : World) (t : Av) (v : Value) (wr : World) : Prop := ∃ (t' : Av) (g' : Nat), v = Ptr g' ∧ TreeAt w t' g' ∧ t'.least = t.least ∧ wr = w
theorem least_any (t : Av) (g : Nat) (w : World) (h : TreeAt w t g) :
    Calls Tryd.prog 98 #[Ptr g] w fun e w' => e = .returned (S8 t.least) ∧ w' = w := by
  have HT := Lib.hid h
  go_enter Tryd.func98, Tryd.ntmps98
  clear h
  go_wp2_with fail
  go_loopw [0] (fun v wr => LeastInv w t v wr) (fun v wr => hAt wr v)
  case atStart => exact ⟨t, g, rfl, HT.out, rfl, rfl⟩
  case round =>
    obtain ⟨t', g', rfl, ht', hl, hw⟩ := hrel
    obtain rfl : w = wr := hw.symm
    have HL := Lib.hid (And.intro ht' hl)
    cases t' with
    | leaf k v =>
      have c0 := (tree_cells ht').1
      clear ht' hl hw
      go_wp2_with fail
      refine (isleaf_any _ g' w HL.out.1).mono ?_
      rintro e w1 ⟨rfl, rfl⟩
      have hnot : Av.isLeaf (.leaf k v) = true := rfl
      go_wp2
      go_ret
      exact ⟨by rw [← HL.out.2]; rfl, rfl⟩
    | node a b =>
      obtain ⟨ga, gb, c2, _, ha, hb⟩ := node_cells ht'
      have HA := Lib.hid ha
      clear ht' hl hw ha hb
      go_wp2_with fail
      refine (isleaf_any _ g' w HL.out.1).mono ?_
      rintro e w1 ⟨rfl, rfl⟩
      have hnot : Av.isLeaf (.node a b) = false := rfl
      go_wp2
      go_roundw
      case rel => exact ⟨a, ga, rfl, HA.out, by rw [← HL.out.2]; rfl, rfl⟩
      case measure =>
        show hAt w1 (Ptr ga) < hAt w1 (Ptr g')
        rw [hAt_tree HA.out, hAt_tree HL.out.1]
        simp only [Av.height]; omega
end Go.Proofs.YtdekealpachhmaaDoor
