/- Layer 7: Len, Height, Get, Find by their contracts. -/
import Derived.Test.YtdekealpachhmaaDoorAvU
namespace Go.Proofs.YtdekealpachhmaaDoor
open Go Go.RowKit Go.Isth

theorem len_any (t : Option Av) (v : Value) (w : World) (h : TreeO w t v) :
    Calls Tryd.prog 24 #[v] w fun e w' => e = .returned (.int .i64 (manyO t : Nat)) ∧ w' = w := by
  cases t with
  | none =>
    obtain rfl : v = .pointer none := h
    go_enter Tryd.func24, Tryd.ntmps24
    go_wp2
    go_ret
    exact ⟨rfl, rfl⟩
  | some t =>
    obtain ⟨g, rfl, h⟩ := h
    have c := (tree_cells h).2.2.1
    go_enter Tryd.func24, Tryd.ntmps24
    go_wp2
    go_ret
    exact ⟨rfl, rfl⟩
theorem height_any (t : Option Av) (v : Value) (w : World) (h : TreeO w t v) :
    Calls Tryd.prog 31 #[v] w fun e w' => e = .returned (.int .i64 (heightO t : Nat)) ∧ w' = w := by
  cases t with
  | none =>
    obtain rfl : v = .pointer none := h
    go_enter Tryd.func31, Tryd.ntmps31
    go_wp2
    go_ret
    exact ⟨rfl, rfl⟩
  | some t =>
    obtain ⟨g, rfl, h⟩ := h
    have c := (tree_cells h).2.2.2.1
    go_enter Tryd.func31, Tryd.ntmps31
    go_wp2
    go_ret
    exact ⟨rfl, rfl⟩
def GetInv (w : World) (t : Av) (key : Str) (v : Value) (wr : World) : Prop := ∃ (t' : Av) (g' : Nat), v = Ptr g' ∧ TreeAt w t' g' ∧ t'.get key = t.get key ∧ wr = w
def getVal (r : Option Str) : Value := match r with | none => .tuple #[S8 [], .bool false] | some v => .tuple #[S8 v, .bool true]
theorem get_any (t : Option Av) (v : Value) (key : Str) (w : World) (h : TreeO w t v) :
    Calls Tryd.prog 18 #[v, S8 key] w fun e w' => e = .returned (getVal (getO key t)) ∧ w' = w := by
  cases t with
  | none =>
    obtain rfl : v = .pointer none := h
    go_enter Tryd.func18, Tryd.ntmps18
    go_wp2
    go_ret2
    exact ⟨rfl, rfl⟩
  | some t =>
    obtain ⟨g, rfl, h⟩ := h
    have HT := Lib.hid h
    clear h
    go_enter Tryd.func18, Tryd.ntmps18
    go_wp2_with fail
    go_loopw [0] (fun v wr => GetInv w t key v wr) (fun v wr => hAt wr v)
    case atStart => exact ⟨t, g, rfl, HT.out, rfl, rfl⟩
    case round =>
      obtain ⟨t', g', rfl, ht', hl, hw⟩ := hrel
      obtain rfl : w = wr := hw.symm
      have HL := Lib.hid (And.intro ht' hl)
      cases t' with
      | leaf k v =>
        have c0 := (tree_cells ht').1
        have c1 := (tree_cells ht').2.1
        clear ht' hl hw
        go_wp2_with fail
        refine (isleaf_any _ g' w HL.out.1).mono ?_
        rintro e w1 ⟨rfl, rfl⟩
        have hnot : Av.isLeaf (.leaf k v) = true := rfl
        have hk : Av.key (.leaf k v) = k := rfl
        have hv : Av.val (.leaf k v) = v := rfl
        rw [hk] at c0
        rw [hv] at c1
        go_wp2
        · rename_i hne
          have hne' : k ≠ key := by simpa using hne
          go_ret2
          refine ⟨?_, rfl⟩
          show _ = Ending.returned (getVal (t.get key))
          rw [← HL.out.2, Av.get, if_neg hne']
          rfl
        · rename_i heq
          have heq' : k = key := by simpa using heq
          go_ret2
          refine ⟨?_, rfl⟩
          show _ = Ending.returned (getVal (t.get key))
          rw [← HL.out.2, Av.get, if_pos heq']
          rfl
      | node a b =>
        obtain ⟨ga, gb, c2, c3, ha, hb⟩ := node_cells ht'
        have HA := Lib.hid (And.intro ha hb)
        have c0 := (tree_cells ht').1
        clear ht' hl hw ha hb
        have hk : Av.key (.node a b) = b.least := rfl
        rw [hk] at c0
        go_wp2_with fail
        refine (isleaf_any _ g' w HL.out.1).mono ?_
        rintro e w1 ⟨rfl, rfl⟩
        have hnot : Av.isLeaf (.node a b) = false := rfl
        go_wp2
        · rename_i hlt
          refine ⟨⟨a, ga, rfl, HA.out.1, by rw [← HL.out.2, Av.get, if_pos hlt], rfl⟩, ?_⟩
          rw [hAt_tree HA.out.1, hAt_tree HL.out.1]
          simp only [Av.height]; omega
        · rename_i hlt
          refine ⟨⟨b, gb, rfl, HA.out.2, by rw [← HL.out.2, Av.get, if_neg (by rw [hlt]; simp)], rfl⟩, ?_⟩
          rw [hAt_tree HA.out.2, hAt_tree HL.out.1]
          simp only [Av.height]; omega
def FindInv (w : World) (t : Av) (key : Str) (v n : Value) (wr : World) : Prop := ∃ (t' : Av) (g' m : Nat), v = Ptr g' ∧ n = .int .i64 (m : Nat) ∧ TreeAt w t' g' ∧ m + t'.find key = t.find key ∧ m + t'.many ≤ t.many ∧ wr = w
theorem find_any (t : Option Av) (v : Value) (key : Str) (w : World) (h : TreeO w t v) (hm : manyO t ≤ 1000000) :
    Calls Tryd.prog 22 #[v, S8 key] w fun e w' => e = .returned (.int .i64 (findO key t : Nat)) ∧ w' = w := by
  cases t with
  | none =>
    obtain rfl : v = .pointer none := h
    go_enter Tryd.func22, Tryd.ntmps22
    go_wp2
    go_ret
    exact ⟨rfl, rfl⟩
  | some t =>
    obtain ⟨g, rfl, h⟩ := h
    have HT := Lib.hid (And.intro h (show t.many ≤ 1000000 from hm))
    clear h hm
    go_enter Tryd.func22, Tryd.ntmps22
    go_wp2_with fail
    go_loopw [0, 5] (fun v n wr => FindInv w t key v n wr) (fun v _ wr => hAt wr v)
    case atStart => exact ⟨t, g, 0, rfl, rfl, HT.out.1, Nat.zero_add _, by omega, rfl⟩
    case round =>
      obtain ⟨t', g', m, rfl, rfl, ht', hl, hle, hw⟩ := hrel
      obtain rfl : w = wr := hw.symm
      have HL := Lib.hid (And.intro ht' (And.intro hl hle))
      cases t' with
      | leaf k v =>
        have c0 := (tree_cells ht').1
        have h64 : wrap64 ((m : Int) + 1) = ((m + 1 : Nat) : Int) := by have := HT.out.2; simp only [Av.many] at hle; rw [IntWalk.wrap64_in _ ⟨by omega, by omega⟩]; omega
        have H64 := Lib.hid h64
        clear ht' hl hw hle h64
        go_wp2_with fail
        refine (isleaf_any _ g' w HL.out.1).mono ?_
        rintro e w1 ⟨rfl, rfl⟩
        have hnot : Av.isLeaf (.leaf k v) = true := rfl
        have hk : Av.key (.leaf k v) = k := rfl
        rw [hk] at c0
        go_wp2
        · rename_i hlt
          go_ret
          refine ⟨?_, rfl⟩
          rw [H64.out]
          show _ = Ending.returned (.int .i64 (t.find key : Nat))
          rw [← HL.out.2.1, Av.find, if_pos hlt]
          rfl
        · rename_i hlt
          go_ret
          refine ⟨?_, rfl⟩
          show _ = Ending.returned (.int .i64 (t.find key : Nat))
          rw [← HL.out.2.1, Av.find, if_neg (by rw [hlt]; simp)]
          rfl
      | node a b =>
        obtain ⟨ga, gb, c2, c3, ha, hb⟩ := node_cells ht'
        have HA := Lib.hid (And.intro ha hb)
        have c0 := (tree_cells ht').1
        have cm := (tree_cells ha).2.2.1
        have h64 : wrap64 ((m : Int) + (a.many : Int)) = ((m + a.many : Nat) : Int) := by have := HT.out.2; simp only [Av.many] at hle; rw [IntWalk.wrap64_in _ ⟨by omega, by omega⟩]; omega
        have H64 := Lib.hid h64
        clear ht' hl hw ha hb hle h64
        have hk : Av.key (.node a b) = b.least := rfl
        rw [hk] at c0
        go_wp2_with fail
        refine (isleaf_any _ g' w HL.out.1).mono ?_
        rintro e w1 ⟨rfl, rfl⟩
        have hnot : Av.isLeaf (.node a b) = false := rfl
        go_wp2
        · rename_i hlt
          refine ⟨⟨a, ga, m, rfl, rfl, HA.out.1, by rw [← HL.out.2.1, Av.find, if_pos hlt], by have := HL.out.2.2; simp only [Av.many] at this; omega, rfl⟩, ?_⟩
          rw [hAt_tree HA.out.1, hAt_tree HL.out.1]
          simp only [Av.height]; omega
        · rename_i hlt
          refine ⟨⟨b, gb, m + a.many, rfl, by rw [H64.out], HA.out.2, by rw [← HL.out.2.1, Av.find, if_neg (by rw [hlt]; simp)]; omega, by have := HL.out.2.2; simp only [Av.many] at this; omega, rfl⟩, ?_⟩
          rw [hAt_tree HA.out.2, hAt_tree HL.out.1]
          simp only [Av.height]; omega
end Go.Proofs.YtdekealpachhmaaDoor
