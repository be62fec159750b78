/- Layer 7, plain: what lies between two keys. No program. A loop over an iterator that counts in a variable of its own, which lay ahead of the loop. Over any program. Layer 7: from, its iterator by their contracts. Layer 7: Range by its contract. -/
import Derived.Test.YtdekealpachhmaaDoorAvQ
import Derived.RangeFuncBox
import Derived.RangeFuncLeaves
import Derived.Below
import Derived.Test.YtdekealpachhmaaDoorAvAt2
import Derived.Shelf.Abstract
import Derived.WalkKit
import Derived.OwnWalkIn
import Derived.TacticsInMore
import Derived.LoopNIn
import Derived.LoopIn
import Derived.Test.YtdekealpachhmaaDoorRvT

namespace Go.Isth
open Go Go.Op

def below (til : Str) (x : Str × Str) : Bool := til.isEmpty || bytesLess x.1 til
def between (frm til : Str) (l : List (Str × Str)) : List (Str × Str) := l.filter fun x => !bytesLess x.1 frm && below til x
theorem drop_filter (key : Str) : ∀ l : List (Str × Str), Sorted l → l.drop (l.filter fun x => bytesLess x.1 key).length = l.filter fun x => !bytesLess x.1 key
  | [], _ => rfl
  | x :: l, hs => by
    obtain ⟨h1, h2⟩ := List.pairwise_cons.1 hs
    cases hx : bytesLess x.1 key with
    | true => rw [List.filter_cons_of_pos (by simpa using hx), List.filter_cons_of_neg (by simp [hx]), List.length_cons, List.drop_succ_cons, drop_filter key l h2]
    | false =>
      have hn : ∀ y ∈ x :: l, bytesLess y.1 key = false := fun y hy => by
        rcases List.mem_cons.1 hy with rfl | hy
        · exact hx
        · cases hk : bytesLess y.1 key with
          | false => rfl
          | true => rw [less_trans (h1 y hy) hk] at hx; cases hx
      rw [List.filter_eq_nil_iff.2 (fun y hy => by rw [hn y hy]; simp), List.filter_eq_self.2 (fun y hy => by rw [hn y hy]; rfl)]
      rfl
theorem while_filter (til : Str) : ∀ l : List (Str × Str), Sorted l → l.takeWhile (below til) = l.filter (below til)
  | [], _ => rfl
  | x :: l, hs => by
    obtain ⟨h1, h2⟩ := List.pairwise_cons.1 hs
    cases hx : below til x with
    | true => rw [List.takeWhile_cons_of_pos hx, List.filter_cons_of_pos hx, while_filter til l h2]
    | false =>
      rw [List.takeWhile_cons_of_neg (by simp [hx]), Eq.comm, List.filter_eq_nil_iff]
      intro y hy
      unfold below at hx ⊢
      simp only [Bool.or_eq_false_iff] at hx
      rcases List.mem_cons.1 hy with rfl | hy
      · rw [hx.1, hx.2]; simp
      · cases hk : bytesLess y.1 til with
        | false => rw [hx.1]; simp
        | true => rw [less_trans (h1 y hy) hk] at hx; cases hx.2
theorem sorted_drop {l : List (Str × Str)} (h : Sorted l) (k : Nat) : Sorted (l.drop k) := List.Pairwise.sublist (List.drop_sublist k l) h
theorem between_eq {l : List (Str × Str)} (h : Sorted l) (frm til : Str) : (l.drop (l.filter fun x => bytesLess x.1 frm).length).takeWhile (below til) = between frm til l := by
  rw [while_filter til _ (sorted_drop h _), drop_filter frm l h, List.filter_filter]
  unfold between
  congr 1
  funext x
  rw [Bool.and_comm]
theorem between_all (l : List (Str × Str)) : between [] [] l = l := by
  unfold between
  refine List.filter_eq_self.2 fun x _ => ?_
  have : bytesLess x.1 ([] : Str) = false := by cases x.1 <;> rfl
  rw [this]; rfl
theorem while_all {p : Str × Str → Bool} : ∀ l : List (Str × Str), (∀ x ∈ l, p x = true) → l.takeWhile p = l
  | [], _ => rfl
  | x :: l, h => by rw [List.takeWhile_cons_of_pos (h x (by simp)), while_all l (fun y hy => h y (by simp [hy]))]
theorem while_stop {p : Str × Str → Bool} (pre : List (Str × Str)) (x : Str × Str) (post : List (Str × Str)) (h : ∀ y ∈ pre, p y = true) (hx : p x = false) : (pre ++ x :: post).takeWhile p = pre := by
  induction pre with
  | nil => rw [List.nil_append, List.takeWhile_cons_of_neg (by simp [hx])]
  | cons y pre ih => rw [List.cons_append, List.takeWhile_cons_of_pos (h y (by simp)), ih (fun z hz => h z (by simp [hz]))]
def rangeO (frm til : Str) (t : Option Av) : List (Str × Str) := between frm til (pairsO t)
theorem findO_pairs {t : Option Av} (hg : Isth.Good t) (key : Str) : findO key t = ((pairsO t).filter fun x => bytesLess x.1 key).length := by
  cases t with
  | none => rfl
  | some t => exact find_pairs t key hg.2
theorem sorted_good {t : Option Av} (hg : Isth.Good t) : Sorted (pairsO t) := by
  cases t with
  | none => exact List.Pairwise.nil
  | some t => exact hg.2
theorem range_list {t : Option Av} (hg : Isth.Good t) (frm til : Str) : ((pairsO t).drop (findO frm t)).takeWhile (below til) = rangeO frm til t := by
  rw [findO_pairs hg]
  exact between_eq (sorted_good hg) frm til
theorem findO_le {t : Option Av} (hg : Isth.Good t) (key : Str) : findO key t ≤ manyO t := by
  have h1 := List.length_filter_le (fun x : Str × Str => bytesLess x.1 key) (pairsO t)
  rw [← findO_pairs hg] at h1
  have h2 : (pairsO t).length = manyO t := by cases t with | none => rfl | some t => exact t.pairs_length
  omega
theorem rangeO_le (frm til : Str) (t : Option Av) : (rangeO frm til t).length ≤ manyO t := by
  have h1 : (rangeO frm til t).length ≤ (pairsO t).length := List.length_filter_le _ _
  have h2 : (pairsO t).length = manyO t := by cases t with | none => rfl | some t => exact t.pairs_length
  omega
#print axioms between_eq
#print axioms range_list
end Go.Isth

namespace Go.Isth
open Go Go.RowKit

/-- What the law lays beside the loop: block B for deferred calls, block B + 1 for the loop's record. -/
structure Books (B : Nat) (o : Obj) (W : World) : Prop where
  book : W.heap[B + 1]? = some o
  ds : W.heap[B]? = some (.deferred (some []))
theorem Books.lt {B : Nat} {o : Obj} {W : World} (h : Books B o W) : B + 1 < W.heap.size := (Array.getElem?_eq_some_iff.1 h.book).1
theorem Books.grown {B bx : Nat} {o : Obj} {X Y : World} (h : Books B o X) (hb : bx < B) (hg : X.grownBy Y (some bx)) : Books B o Y := by
  have hl := h.lt
  exact ⟨(hg.block _ hl (by intro e; injection e with e; omega)).trans h.book, (hg.block _ (by omega) (by intro e; injection e with e; omega)).trans h.ds⟩
theorem Books.keeps {B : Nat} {o : Obj} {X Y : World} (h : Books B o X) (ho : o.isCells = false) (hk : KeepsFrom B X Y) : Books B o Y :=
  ⟨hk.same _ _ (by omega) h.book ho, hk.same _ _ (Nat.le_refl _) h.ds rfl⟩
theorem Books.put {B : Nat} {o o' : Obj} {W : World} (h : Books B o W) : Books B o' (W.putObj (B + 1) o') :=
  ⟨World.putObj_heap_same h.lt, (World.putObj_heap_other (by omega)).trans h.ds⟩

/-- It stands whatever the iterator does to its own variable. -/
def Lets {α : Type} (bx : Nat) (J : List α → World → Prop) : Prop := ∀ s X Y, J s X → X.grownBy Y (some bx) → J s Y
/-- It stands whatever becomes of blocks from B on that hold no cells. -/
def Books.Lets {α : Type} (B : Nat) (J : List α → World → Prop) : Prop := ∀ s X k o o', J s X → B ≤ k → X.heap[k]? = some o → o.isCells = false → J s (X.putObj k o')
/-- These blocks lie as they lay. -/
structure Same (D : Nat → Prop) (X Y : World) : Prop where
  os : Y.os = X.os
  tape : Y.tape = X.tape
  output : Y.output = X.output
  size : X.heap.size ≤ Y.heap.size
  block : ∀ k, D k → Y.heap[k]? = X.heap[k]?
theorem Same.trans {D : Nat → Prop} {X Y Z : World} (h : Same D X Y) (k : Same D Y Z) : Same D X Z := ⟨k.os.trans h.os, k.tape.trans h.tape, k.output.trans h.output, Nat.le_trans h.size k.size, fun i hi => (k.block i hi).trans (h.block i hi)⟩
theorem Same.put {D : Nat → Prop} {B : Nat} (hD : ∀ k, D k → k < B) (X : World) (j : Nat) (o : Obj) (hj : B ≤ j) : Same D X (X.putObj j o) := ⟨rfl, rfl, rfl, by simp, fun k hk => World.putObj_heap_other (by have := hD k hk; omega)⟩
theorem Same.below {D : Nat → Prop} {X Y : World} {n : Nat} (h : Same D X Y) (hD : ∀ k, k < n → D k) : Below n X Y := ⟨h.os, h.tape, h.output, h.size, fun k hk => h.block k (hD k hk)⟩
theorem Same.of_grown {D : Nat → Prop} {X Y : World} {r : Option Nat} (h : X.grownBy Y r) (hD : ∀ k, D k → k < X.heap.size ∧ some k ≠ r) : Same D X Y := ⟨h.os, h.tape, h.output, h.size, fun k hk => h.block k (hD k hk).1 (hD k hk).2⟩
theorem Same.refl (D : Nat → Prop) (X : World) : Same D X X := ⟨rfl, rfl, rfl, Nat.le_refl _, fun _ _ => rfl⟩

/-- What an iterator promises that writes a variable of its own in block bx: it hands on some elements, one by one, while the body keeps the blocks D. -/
def Gives {α : Type} (P : Program) (gf : Nat) (lb : Array Value) (encs : α → Array Value) (D : Nat → Prop) (bx N : Nat) (S Sp : List α → Prop) (w : World) : Prop :=
  ∀ (l : Nat) (J Jx : List α → World → Prop) (W : World), Below w.heap.size w W → Isth.Lets bx J → Isth.Lets bx Jx →
    (∀ pre x W1, J pre W1 → pre.length < N → YieldAt Fence.wide 0 P l (encs x) W1 fun e W' => (e = .returned (.bool true) ∧ J (pre ++ [x]) W' ∧ Same D W1 W') ∨ (e = .returned (.bool false) ∧ Jx (pre ++ [x]) W')) →
    J [] W → CallsIn Fence.wide 0 P gf (#[.func (.yield l) #[] #[]] ++ lb) W fun e W' => (∃ v, e = .returned v) ∧ ((∃ xs, S xs ∧ J xs W') ∨ (∃ pre, Sp pre ∧ Jx pre W'))

theorem range_box {α : Type} {P : Program} {g : Operand} {ps : Array Tmp} {assign body : Code} {Q : Exit → Act → World → Prop} {a : Act} {w : World}
    {gf : Nat} {lb : Array Value} (hg : a.eval g = .func (.func gf) #[] lb) (eg : ∀ args w, (callFunc gf args).run P w = .ok (.enter gf args) w)
    {encs : α → Array Value} (hps : ∀ x, (encs x).size = ps.size) {D : Nat → Prop} (hD : ∀ k, D k → k < w.heap.size) {bx N : Nat} (hbx : bx < w.heap.size) {S Sp : List α → Prop}
    (hit : Gives P gf lb encs D bx N S Sp w)
    (I : List α → World → Prop) (Ix : Code → List α → World → Prop) (hI : Isth.Lets bx I) (hIx : ∀ c, Isth.Lets bx (Ix c)) (hB : Books.Lets w.heap.size I) (hBx : ∀ c, Books.Lets w.heap.size (Ix c)) (h0 : I [] w)
    (Ax : α → Act → World → Prop) (hAx : ∀ x a' X k o o', Ax x a' X → w.heap.size ≤ k → X.heap[k]? = some o → o.isCells = false → Ax x a' (X.putObj k o'))
    (hassign : ∀ (l : Nat) (pre : List α) (x : α) (W : World) (K : Act → World → Prop), I pre W → (∀ a' W', KeepsFrom w.heap.size W W' → Same D W W' → I pre W' → Ax x a' W' → K a' W') →
      assign.wpIn (Fence.wide.inRound l) 0 P (Exit.then K (fun _ _ _ => False)) { tmps := (ps.zip (encs x)).foldl (fun t (p, v) => t.setIfInBounds p v) a.tmps, defers := [] } W)
    (hbody : ∀ (l : Nat) (pre : List α) (x : α) (a' : Act) (W : World), I pre W → Ax x a' W → pre.length < N → body.wpIn (Fence.wide.inRound l) 0 P (ownPostG w.heap.size (Same D) I Ix (pre ++ [x]) W) a' W)
    (hdone : ∀ (xs : List α) (W : World), S xs → I xs W → W.heap[w.heap.size]? = some (.deferred (some [])) → Q .normal { a with defers := { target := .collected w.heap.size, args := #[] } :: a.defers } W)
    (hstop : ∀ (c : Code) (pre : List α) (W : World), Sp pre → Ix c pre W → W.heap[w.heap.size]? = some (.deferred (some [])) → c.wpIn Fence.wide 0 P Q { a with defers := { target := .collected w.heap.size, args := #[] } :: a.defers } W) :
    (Code.rangeFunc g ps assign body).wpIn Fence.wide 0 P Q a w := by
  refine wpIn_rangeFunc fun fn hfn => ?_
  obtain ⟨mk, hmk⟩ : ∃ mk : LoopState → Option Code → Loop, mk = fun st pe => { state := st, pending := pe, fn, tmps := a.tmps, params := ps, assign, body, defers := w.heap.size } := ⟨_, rfl⟩
  have hpar : ∀ st pe, (mk st pe).params = ps := fun st pe => by rw [hmk]
  obtain ⟨B, hBe⟩ : ∃ B, B = w.heap.size := ⟨_, rfl⟩
  have hent : (Instr.enterLoop fn a.tmps ps assign body none).run P w = .ok (B + 1, [{ target := .collected B, args := #[] }]) ((w.alloc (.deferred (some []))).alloc (.loop (mk .ready none))) := by
    rw [hBe, hmk]; exact run_enterLoop_outer fn a.tmps ps assign body
  obtain ⟨V, hV⟩ : ∃ V, V = (w.alloc (.deferred (some []))).alloc (.loop (mk .ready none)) := ⟨_, rfl⟩
  have hbooks : Books B (.loop (mk .ready none)) V := by
    have h1 := World.alloc_heap_new (w.alloc (.deferred (some []))) (.loop (mk .ready none))
    rw [World.size_alloc, ← hBe, ← hV] at h1
    refine ⟨h1, ?_⟩
    have h2 : (w.alloc (.deferred (some []))).heap[B]? = some (.deferred (some [])) := by rw [hBe]; exact World.alloc_heap_new w _
    have h3 := (World.grownBy_alloc (w.alloc (.deferred (some []))) (.loop (mk .ready none)) none).block B (by rw [World.size_alloc]; omega) (by simp)
    rw [hV]; exact h3.trans h2
  have hIV : I [] V := by
    rw [hV]
    exact hI _ _ _ (hI _ _ _ h0 (World.grownBy_alloc _ _ _)) (World.grownBy_alloc _ _ _)
  have hbV : Below w.heap.size w V := by
    rw [hV]
    exact ((Below.refl _ w).alloc (Nat.le_refl _) _).alloc (by simp) _
  rw [← hV] at hent
  refine ⟨B + 1, [{ target := .collected B, args := #[] }], V, { target := .fn (.func gf) lb, args := #[.func (.yield (B + 1)) #[] #[]] }, V, gf, #[.func (.yield (B + 1)) #[] #[]] ++ lb, V, hent, ?_, ?_, ?_, fun h => (by cases h), ?_⟩
  · simp only [resolve, hg]
    simp [go_sem]
  · intro f' _
    trivial
  · simp [invoke, go_sem, eg]
  have hloop : ∀ o' : Loop, (Obj.loop o').isCells = false := fun _ => rfl
  refine (hit (B + 1) (fun pre W => I pre W ∧ Books B (.loop (mk .ready none)) W) (fun pre W => ∃ c, Ix c pre W ∧ Books B (.loop (mk .done (some c))) W) V hbV
    (fun s X Y h hg => ⟨hI s X Y h.1 hg, h.2.grown (by omega) hg⟩) (fun s X Y h hg => by obtain ⟨c, h1, h2⟩ := h; exact ⟨c, hIx c s X Y h1 hg, h2.grown (by omega) hg⟩) ?_ ⟨hIV, hbooks⟩).mono ?_
  · rintro pre x W ⟨hi, hb⟩ hN
    have hy := run_yield (P := P) (args := encs x) hb.book (by rw [hpar]; exact hps x)
    rw [hmk] at hy
    refine ⟨fn, _, assign, body, hy, roundIn_of_wpIn hfn (hassign _ pre x W _ hi ?_)⟩
    clear hy
    intro a' Wa hka hsa hia hax
    replace hb := hb.keeps rfl (by rw [hBe]; exact hka)
    clear hi
    revert hka hsa
    generalize W = W0
    intro hka hsa
    obtain ⟨W, rfl⟩ : ∃ W, W = Wa := ⟨_, rfl⟩
    have hbusy : Books B (.loop (mk .busy none)) (W.putObj (B + 1) (.loop (mk .busy none))) := hb.put
    have hbeg : (Instr.beginRound (B + 1)).run P W = .ok () (W.putObj (B + 1) (.loop (mk .busy none))) := by
      have := run_beginRound (P := P) hb.book (by rw [hmk])
      rw [hmk] at this ⊢
      exact this
    refine ⟨_, hbeg, wpIn_mono (hbody _ pre x a' _ (by refine hB _ _ _ _ _ hia ?_ hb.book rfl; omega) (by refine hAx _ _ _ _ _ _ hax ?_ hb.book rfl; omega) hN) ?_⟩
    have hs1 : Same D W0 (W.putObj (B + 1) (.loop (mk .busy none))) := hsa.trans (Same.put hD W _ _ (by omega))
    have fin : ∀ (j : Option Code) (W3 : World), KeepsFrom w.heap.size (W.putObj (B + 1) (.loop (mk .busy none))) W3 →
        ∃ W4, (Instr.endRound (B + 1) j).run P W3 = .ok (.bool j.isNone) W4 ∧ W4 = W3.putObj (B + 1) (.loop (mk (if j.isNone then .ready else .done) j)) ∧ Books B (.loop (mk (if j.isNone then .ready else .done) j)) W4 ∧ W3.heap[B + 1]? = some (.loop (mk .busy none)) := fun j W3 hk => by
      have hb3 := hbusy.keeps rfl (by rw [← hBe] at hk; exact hk)
      have := run_endRound (P := P) j hb3.book
      refine ⟨_, ?_, rfl, hb3.put, hb3.book⟩
      rw [hmk] at this ⊢
      exact this
    rintro e a3 W3 hp
    cases e with
    | normal =>
      obtain ⟨hk, hs, hi3⟩ := hp
      obtain ⟨W4, hr, h4, hb4, ho⟩ := fin none W3 hk
      refine ⟨_, _, hr, .inl ⟨rfl, ⟨?_, hb4⟩, ?_⟩⟩
      · rw [h4]; refine hB _ _ _ _ _ hi3 ?_ ho rfl; omega
      · rw [h4]; exact (hs1.trans hs).trans (Same.put hD W3 _ _ (by omega))
    | ret =>
      obtain ⟨hk, hi3⟩ := hp
      obtain ⟨W4, hr, h4, hb4, ho⟩ := fin (some .ret) W3 hk
      refine ⟨_, _, hr, .inr ⟨rfl, .ret, ?_, hb4⟩⟩
      rw [h4]; refine hBx _ _ _ _ _ _ hi3 ?_ ho rfl; omega
    | exit id =>
      obtain ⟨hk, hi3⟩ := hp
      obtain ⟨W4, hr, h4, hb4, ho⟩ := fin (some (.exit id)) W3 hk
      refine ⟨_, _, hr, .inr ⟨rfl, .exit id, ?_, hb4⟩⟩
      rw [h4]; refine hBx _ _ _ _ _ _ hi3 ?_ ho rfl; omega
    | goto t =>
      obtain ⟨hk, hi3⟩ := hp
      obtain ⟨W4, hr, h4, hb4, ho⟩ := fin (some (.goto t)) W3 hk
      refine ⟨_, _, hr, .inr ⟨rfl, .goto t, ?_, hb4⟩⟩
      rw [h4]; refine hBx _ _ _ _ _ _ hi3 ?_ ho rfl; omega
    | panic ch => exact hp.elim
    | outgrown => exact hp.elim
  · rintro e W2 ⟨⟨v, rfl⟩, (⟨xs, hS, hi, hb⟩ | ⟨pre, hSp, c, hi, hb⟩)⟩
    · refine ⟨none, W2.putObj (B + 1) (.loop (mk .exhausted none)), ?_, ?_⟩
      · have := run_endLoop (P := P) hb.book (by rw [hmk]; simp)
        rw [hmk] at this ⊢
        exact this
      · subst hBe
        exact hdone xs _ hS (hB _ _ _ _ _ hi (by omega) hb.book rfl) (hb.put (o' := .loop (mk .exhausted none))).ds
    · refine ⟨some c, W2.putObj (B + 1) (.loop (mk .exhausted (some c))), ?_, ?_⟩
      · have := run_endLoop (P := P) hb.book (by rw [hmk]; simp)
        rw [hmk] at this ⊢
        exact this
      · subst hBe
        exact hstop c pre _ hSp (hBx c _ _ _ _ _ hi (by omega) hb.book rfl) (hb.put (o' := .loop (mk .exhausted (some c)))).ds
#print axioms range_box
end Go.Isth

namespace Go.Proofs.YtdekealpachhmaaDoor
open Go Go.RowKit Go.Isth Go.Shelf
attribute [local go_sem] Oper.semAt_some

theorem from_any (p : Option Addr) (i : Int) (w : World) : Calls Tryd.prog 57 #[.pointer p, .int .i64 i] w fun e w' =>
    e = .returned (.func (.func 88) #[] #[.pointer (some ⟨w.heap.size + 1, 0, none⟩), .pointer (some ⟨w.heap.size, 0, none⟩)]) ∧ w' = (w.alloc (.cells #[.pointer p] 23)).alloc (.cells #[.int .i64 i] 3) := by
  go_enter Tryd.func57, Tryd.ntmps57
  go_wp2
  go_ret
  exact ⟨rfl, rfl⟩
def cntAt (w : World) (b : Nat) : Nat := match w.cell? ⟨b, 0, none⟩ with | some v => (intOf v).toNat | none => 0
theorem cntAt_eq {w : World} {b k : Nat} (h : w.cell? ⟨b, 0, none⟩ = some (.int .i64 (k : Nat))) : cntAt w b = k := by unfold cntAt; rw [h]; rfl
/-- What stands at the begin of a round of the iterator. -/
structure IterIs (w0 : World) (t : Option Av) (p : Option Addr) (k0 bi bt : Nat) (J : List (Str × Str) → World → Prop) (k : Nat) (wr : World) : Prop where
  cnt : wr.cell? ⟨bi, 0, none⟩ = some (.int .i64 (k : Nat))
  frz : wr.frozen? ⟨bi, 0, none⟩ = false
  tre : wr.cell? ⟨bt, 0, none⟩ = some (.pointer p)
  lo : k0 ≤ k
  hi : k ≤ manyO t
  bl : Below w0.heap.size w0 wr
  inv : J (((pairsO t).drop k0).take (k - k0)) wr
theorem grown_of_below {w w' : World} {r : Option Nat} (h : Below w.heap.size w w') : w.grownBy w' r := ⟨h.os, h.tape, h.output, h.size, fun k hk _ => h.block k hk⟩
theorem IterIs.step {w0 : World} {t : Option Av} {p : Option Addr} {k0 bi bt : Nat} {J : List (Str × Str) → World → Prop} {k : Nat} {wr w' : World} (h : IterIs w0 t p k0 bi bt J k wr) (hJ : Isth.Lets bi J) (hb : Below wr.heap.size wr w') : IterIs w0 t p k0 bi bt J k w' := by
  have hib := World.block_lt_of_cell? wr _ h.cnt
  exact ⟨cell_below h.cnt hb, (World.frozen?_of_block (hb.block _ hib)).trans h.frz, cell_below h.tre hb, h.lo, h.hi, below_then h.bl h.bl.size hb, hJ _ _ _ h.inv (grown_of_below hb)⟩
theorem take_drop_next {l : List (Str × Str)} {k0 k : Nat} {x : Str × Str} (hk : k0 ≤ k) (h : l[k]? = some x) : (l.drop k0).take (k + 1 - k0) = (l.drop k0).take (k - k0) ++ [x] := by
  rw [show k + 1 - k0 = (k - k0) + 1 by omega, List.take_add_one, List.getElem?_drop, show k0 + (k - k0) = k by omega, h]
  rfl
set_option maxRecDepth 100000 in
set_option maxHeartbeats 4000000 in
theorem iter_gives (t : Option Av) (p : Option Addr) (w0 w : World) (k0 bi bt : Nat) (ht : TreeO w0 t (.pointer p)) (hb : Below w0.heap.size w0 w) (hm : manyO t ≤ 900000) (hk : k0 ≤ manyO t)
    (h1 : w0.heap.size ≤ bi) (h2 : w0.heap.size ≤ bt) (hne : bi ≠ bt) (hi : w.cell? ⟨bi, 0, none⟩ = some (.int .i64 (k0 : Nat))) (hf : w.frozen? ⟨bi, 0, none⟩ = false) (hc : w.cell? ⟨bt, 0, none⟩ = some (.pointer p)) :
    Gives Tryd.prog 88 #[.pointer (some ⟨bi, 0, none⟩), .pointer (some ⟨bt, 0, none⟩)] (fun x : Str × Str => #[.agg #[S8 x.1, S8 x.2]]) (fun k => k < w0.heap.size ∨ k = bi ∨ k = bt) bi (manyO t) (fun xs => xs = (pairsO t).drop k0) (fun pre => pre <+: (pairsO t).drop k0) w := by
  intro l J Jx W hW hJ hJx hY h0
  have hib := World.block_lt_of_cell? w _ hi
  have hcb := World.block_lt_of_cell? w _ hc
  have HS := Lib.hid (show IterIs w0 t p k0 bi bt J k0 W from ⟨(hW.cell (p := ⟨bi, 0, none⟩) hib).trans hi, (World.frozen?_of_block (hW.block _ hib)).trans hf, (hW.cell (p := ⟨bt, 0, none⟩) hcb).trans hc, Nat.le_refl _, hk, hb.trans (hW.mono hb.size), by rw [Nat.sub_self, List.take_zero]; exact h0⟩)
  have HH := Lib.hid (And.intro ht (And.intro hm (And.intro h1 (And.intro h2 hne))))
  have HY := Lib.hid hY
  have HJ := Lib.hid hJ
  clear hib hcb ht hm h1 h2 hne hW hJ hJx hY h0 hi hf hc hb hk
  refine callsIn_wide.2 ?_
  go_enter Tryd.func88, Tryd.ntmps88
  go_wp2_with fail
  go_loopw [5] (fun v5 wr => ∃ k, IterIs w0 t p k0 bi bt J k wr) (fun _ wr => manyO t - cntAt wr bi)
  case atStart => exact ⟨k0, HS.out⟩
  case round =>
    obtain ⟨k, hI⟩ := hrel
    have c1 := hI.cnt
    have c2 := hI.tre
    have HI := Lib.hid hI
    have HTR := Lib.hid (HH.out.1.below hI.bl)
    clear hI
    go_upto_region 0 with fail
    go_quiet ((go_at_call 24; refine Calls.quiet_of_same (len_any t (.pointer p) _ (TreeO.below (refl_drewN wr _) HTR.out))))
    have HI := Lib.hid (HI.out.step HJ.out (refl_drewN wr nq))
    have HCW := Lib.hid (cntAt_eq c1)
    have c1 := HI.out.cnt
    have c2 := HI.out.tre
    have HTR := Lib.hid (HH.out.1.below HI.out.bl)
    generalize wr.drewN nq = wd at *
    by_cases hlt : k < manyO t
    · have hlt' : (k : Int) < (manyO t : Int) := by omega
      rcases t with _ | t
      · exact absurd hlt (Nat.not_lt_zero _)
      obtain ⟨g, hp, hT⟩ := HTR.out
      injection hp with hp
      subst hp
      have hlt2 : k < t.many := hlt
      have hmm : t.many ≤ 900000 := HH.out.2.1
      obtain ⟨pk, pv, hpp⟩ : ∃ a b, t.at_ k = (a, b) := ⟨_, _, rfl⟩
      have HP := Lib.hid (And.intro hpp (And.intro hlt2 hmm))
      have HT := Lib.hid hT
      have hkk : ((k : Nat) : Int) < ((t.many : Nat) : Int) := by omega
      clear hlt hlt2 hmm hpp hT HTR
      go_wp2_with fail
      refine (at_any t g k _ HT.out HP.out.2.1 HP.out.2.2).mono ?_
      rintro e w5 ⟨rfl, hb5⟩
      rw [HP.out.1, show (pairC (pk, pv)).toArray = #[S8 pk, S8 pv] from rfl]
      have HI := Lib.hid (HI.out.step HJ.out hb5)
      clear hb5 c1 c2
      go_upto_region 3 with fail
      obtain ⟨w6, hw6⟩ : ∃ w6, w6 = w5.alloc (.cells #[S8 pk, S8 pv] 38) := ⟨_, rfl⟩
      obtain ⟨xp, hxp⟩ : ∃ n, n = w5.heap.size := ⟨_, rfl⟩
      have b6 : Below w5.heap.size w5 w6 := by rw [hw6]; exact (Below.refl _ _).alloc (Nat.le_refl _) _
      have z6 : Blk w6 xp 38 [S8 pk, S8 pv] := by rw [hw6, hxp]; exact Blk_new w5 [S8 pk, S8 pv] 38
      rw [← hw6, ← hxp]
      have HI := Lib.hid (HI.out.step HJ.out b6)
      have e0 := z6.cellD 0 _ rfl
      have e1 := z6.cellD 1 _ rfl
      have HX := Lib.hid (show (pairsO (some t))[k]? = some (pk, pv) by rw [← HP.out.1]; exact t.at_pairs k HP.out.2.1)
      obtain ⟨fn, tmps, assign, body, hy, hR⟩ := HY.out _ (pk, pv) w6 HI.out.inv (by rw [List.length_take]; have := HP.out.2.1; have : manyO (some t) = t.many := rfl; omega)
      have HR := Lib.hid hR
      clear hw6 hxp b6 z6 hR
      refine (wpIn_wide (n := 0)).1 ?_
      gi_wp2
      have HE := Lib.hid HI.out
      refine ⟨rfl, HR.out.mono ?_⟩
      rintro e W3 (⟨rfl, hJ3, hk3⟩ | ⟨rfl, hJx3⟩)
      · have d1 := (World.cell?_of_block (hk3.block bi (.inr (.inl rfl)))).trans HE.out.cnt
        have d2 := (World.frozen?_of_block (hk3.block bi (.inr (.inl rfl)))).trans HE.out.frz
        have d3 := (World.cell?_of_block (hk3.block bt (.inr (.inr rfl)))).trans HE.out.tre
        have hbl : Below w0.heap.size w0 W3 := HE.out.bl.trans (hk3.below fun j hj => .inl hj)
        have h64 : wrap64 ((k : Int) + 1) = ((k + 1 : Nat) : Int) := by have := HP.out.2; rw [IntWalk.wrap64_in _ ⟨by omega, by omega⟩]; omega
        have H3 := Lib.hid (And.intro hJ3 (And.intro d1 (And.intro d2 (And.intro d3 (And.intro hbl h64)))))
        clear hk3 hJ3 hbl h64 d3 e0 e1 hy
        gi_wp2
        go_wp2
        go_roundw
        case rel =>
          refine ⟨k + 1, ?_, ?_, ?_, ?_, ?_, ?_, ?_⟩
          · rw [← H3.out.2.2.2.2.2]; exact World.cell?_setCell_same' _ _ _ (by rw [H3.out.2.1]; rfl)
          · rw [World.frozen?_setCell]; exact H3.out.2.2.1
          · exact cell_grown H3.out.2.2.2.1 (grownBy_setCell' W3 bi _) (fun e => HH.out.2.2.2.2 (by injection e))
          · have := HE.out.lo; omega
          · exact HP.out.2.1
          · exact H3.out.2.2.2.2.1.setCell (p := ⟨bi, 0, none⟩) HH.out.2.2.1 _
          · rw [take_drop_next HE.out.lo HX.out]
            exact HJ.out _ _ _ H3.out.1 (grownBy_setCell' W3 bi _)
        case measure =>
          rw [HCW.out, H3.out.2.2.2.2.2, cntAt_eq (World.cell?_setCell_same' _ _ _ (by rw [H3.out.2.1]; rfl))]
          have := HP.out.2.1
          have : manyO (some t) = t.many := rfl
          omega
      · have HJX := Lib.hid hJx3
        clear hJx3 e0 e1 hy
        gi_wp2
        go_wp2
        refine bodyPost_ret (results_none rfl _ _ _) rfl ⟨⟨_, rfl⟩, .inr ⟨_, ?_, HJX.out⟩⟩
        rw [← take_drop_next HE.out.lo HX.out]
        exact List.take_prefix _ _
    · have hlt' : ¬ (k : Int) < (manyO t : Int) := by omega
      have hkm : k = manyO t := by have := HI.out.hi; omega
      have hinv := HI.out.inv
      rw [List.take_of_length_le (by rw [List.length_drop, show (pairsO t).length = manyO t by cases t; rfl; exact Av.pairs_length _]; omega)] at hinv
      have HV := Lib.hid hinv
      clear hlt hkm hinv c1 c2
      go_wp2
      go_end0
      exact ⟨⟨_, rfl⟩, .inl HV.out⟩
end Go.Proofs.YtdekealpachhmaaDoor

namespace Go.Proofs.YtdekealpachhmaaDoor
open Go Go.RowKit Go.Isth Go.Shelf
attribute [local go_sem] Oper.semAt_some

theorem treeO_ptr {w : World} {t : Option Av} {v : Value} (h : TreeO w t v) : ∃ p, v = .pointer p := by
  cases t with
  | none => exact ⟨none, h⟩
  | some t => obtain ⟨g, rfl, _⟩ := h; exact ⟨_, rfl⟩
/-- What stands in Range behind some pairs. -/
structure RngI (w : World) (til : Str) (xl xt base : Nat) (pre : List (Str × Str)) (W : World) : Prop where
  row : ∃ v, Boxed W xl 22 v ∧ W.ownsRow base 38 2 v pre.length (pairsC pre)
  tilb : Boxed W xt 9 (S8 til)
  all : ∀ x ∈ pre, Isth.below til x = true
  bl : Below w.heap.size w W
  sz : base ≤ W.heap.size
theorem RngI.grown {w : World} {til : Str} {xl xt base b : Nat} {pre : List (Str × Str)} {X Y : World} (h : RngI w til xl xt base pre X) (hg : X.grownBy Y (some b)) (h1 : b ≠ xl) (h2 : b ≠ xt) (h3 : w.heap.size ≤ b) (h4 : b < base ∨ ∃ o : Obj, X.heap[b]? = some o ∧ o.isCells = false) : RngI w til xl xt base pre Y := by
  obtain ⟨v, hv, hr⟩ := h.row
  refine ⟨⟨v, hv.kept hg (fun e => h1 (by injection e with e; exact e.symm)), hr.kept hg (.inr fun e => ?_)⟩, h.tilb.kept hg (fun e => h2 (by injection e with e; exact e.symm)), h.all, h.bl.grown hg h.bl.size (fun k e => by injection e with e; omega), Nat.le_trans h.sz hg.size⟩
  rcases h4 with h4 | ⟨o, ho, hc⟩
  · have := (hr.lt b e).1; omega
  · rcases hr.2 with ⟨rfl, _⟩ | ⟨g, cap, cur, rfl, _, hgb, _⟩
    · simp [Value.ownBlock] at e
    · obtain rfl : g = b := by simpa [Value.ownBlock] using e
      rw [ho] at hgb
      injection hgb with hgb
      subst hgb
      cases hc
theorem RngI.below {w : World} {til : Str} {xl xt base : Nat} {pre : List (Str × Str)} {X Y : World} (h : RngI w til xl xt base pre X) (hb : Below X.heap.size X Y) : RngI w til xl xt base pre Y := by
  obtain ⟨v, hv, hr⟩ := h.row
  exact ⟨⟨v, hv.kept (grown_of_below (r := none) hb) (by simp), own_below hr hb⟩, h.tilb.kept (grown_of_below (r := none) hb) (by simp), h.all, below_then h.bl h.bl.size hb, Nat.le_trans h.sz hb.size⟩
theorem RngI.snoc {w W w1 : World} {til : Str} {xl xt base bi bt : Nat} {pre : List (Str × Str)} {x : Str × Str} {v v' : Value} {tmp : Obj} (h : RngI w til xl xt base pre W) (hv : Boxed W xl 22 v) (hr : W.ownsRow base 38 2 v pre.length (pairsC pre))
    (hx : Isth.below til x = true) (h1 : xl < base) (h2 : w.heap.size ≤ xl) (h3 : xt < base ∧ xt ≠ xl) (h4 : bi < base ∧ bi ≠ xl) (h5 : bt < base ∧ bt ≠ xl)
    (hown : w1.ownsRow base 38 2 v' (pre.length + 1) (pairsC pre ++ [S8 x.1, S8 x.2])) (hg : (W.alloc tmp).grownBy w1 v.ownBlock) :
    Boxed w1 xl 22 v ∧ KeepsFrom base W (w1.setCell ⟨xl, 0, none⟩ v') ∧ Same (fun k => k < w.heap.size ∨ k = bi ∨ k = bt) W (w1.setCell ⟨xl, 0, none⟩ v') ∧ RngI w til xl xt base (pre ++ [x]) (w1.setCell ⟨xl, 0, none⟩ v') := by
  have hlt : ∀ k, k < base → some k ≠ v.ownBlock := fun k hk e => by have := (hr.lt k e.symm).1; omega
  have hb1 : Boxed w1 xl 22 v := (hv.alloc tmp).kept hg (hlt _ h1)
  have hs1 : (W.alloc tmp).heap.size = W.heap.size + 1 := World.size_alloc _ _
  have hsz := h.sz
  have hg1 := hg.size
  refine ⟨hb1, ?_, ?_, ⟨v', hb1.set v', ?_⟩, ?_, ?_, ?_, ?_⟩
  · refine ((KeepsOthers.alloc W tmp).trans (KeepsOthers.of_grownBy hg fun j o ej hj => ?_)).trans (KeepsOthers.setCell _ _ _) |>.from _
    rcases (hr.alloc tmp).2 with ⟨rfl, _⟩ | ⟨g, cap, cur, rfl, _, hgb, _⟩
    · simp [Value.ownBlock] at ej
    · obtain rfl : g = j := by simpa [Value.ownBlock] using ej
      rw [hgb] at hj; cases hj; rfl
  · have hD : ∀ k, (k < w.heap.size ∨ k = bi ∨ k = bt) → k < base ∧ k ≠ xl := fun k hk => by rcases hk with hk | rfl | rfl <;> omega
    refine ((Same.of_grown (World.grownBy_alloc W tmp none) fun k hk => ⟨by have := hD k hk; omega, by simp⟩).trans (Same.of_grown hg fun k hk => ⟨by have := hD k hk; omega, hlt k (hD k hk).1⟩)).trans (Same.of_grown (grownBy_setCell' w1 xl v') fun k hk => ⟨by have := hD k hk; omega, fun e => (hD k hk).2 (by injection e)⟩)
  · have e1 : (pre ++ [x]).length = pre.length + 1 := by simp
    have e2 : pairsC (pre ++ [x]) = pairsC pre ++ [S8 x.1, S8 x.2] := by rw [pairsC_append]; rfl
    rw [e1, e2]
    exact hown.kept (grownBy_setCell' w1 xl v') (.inr (hb1.not_row (by decide) hown).symm)
  · exact ((h.tilb.alloc tmp).kept hg (hlt _ h3.1)).kept (grownBy_setCell' w1 xl v') (fun e => h3.2 (by injection e))
  · intro y hy
    rcases List.mem_append.1 hy with hy | hy
    · exact h.all y hy
    · obtain rfl : y = x := by simpa using hy
      exact hx
  · exact ((h.bl.alloc h.bl.size tmp).grown hg (by have := h.bl.size; omega) (fun k e => by have := (hr.lt k e).1; omega)).setCell (p := ⟨xl, 0, none⟩) h2 _
  · have := (grownBy_setCell' w1 xl v').size
    omega
set_option maxRecDepth 100000 in
set_option maxHeartbeats 4000000 in
theorem range_any (t : Option Av) (v : Value) (frm til : Str) (w : World) (h : TreeO w t v) (hg : Isth.Good t) (hm : manyO t ≤ 900000) :
    Calls Tryd.prog 12 #[v, S8 frm, S8 til] w fun e w' => ∃ r, e = .returned r ∧ w'.ownsRow w.heap.size 38 2 r (rangeO frm til t).length (pairsC (rangeO frm til t)) ∧ Below w.heap.size w w' := by
  obtain ⟨p, rfl⟩ := treeO_ptr h
  have H := Lib.hid (And.intro h (And.intro hg hm))
  clear h hg hm
  obtain ⟨w1, hw1⟩ : ∃ w1, w1 = w.alloc (.cells #[S8 til] 9) := ⟨_, rfl⟩
  obtain ⟨w2, hw2⟩ : ∃ w2, w2 = w1.alloc (.cells #[.slice none 0 0] 22) := ⟨_, rfl⟩
  obtain ⟨w3, hw3⟩ : ∃ w3, w3 = w2.alloc (.cells #[.pointer p] 23) := ⟨_, rfl⟩
  obtain ⟨w4, hw4⟩ : ∃ w4, w4 = w3.alloc (.cells #[.int .i64 ((findO frm t : Nat) : Int)] 3) := ⟨_, rfl⟩
  have s1 : w1.heap.size = w.heap.size + 1 := by rw [hw1, World.size_alloc]
  have s2 : w2.heap.size = w.heap.size + 1 + 1 := by rw [hw2, World.size_alloc, s1]
  have s3 : w3.heap.size = w.heap.size + 1 + 1 + 1 := by rw [hw3, World.size_alloc, s2]
  have s4 : w4.heap.size = w.heap.size + 1 + 1 + 1 + 1 := by rw [hw4, World.size_alloc, s3]
  have b1 : Below w.heap.size w w1 := by rw [hw1]; exact (Below.refl _ _).alloc (Nat.le_refl _) _
  have b2 : Below w.heap.size w w2 := by rw [hw2]; exact b1.alloc b1.size _
  have b3 : Below w.heap.size w w3 := by rw [hw3]; exact b2.alloc b2.size _
  have b4 : Below w.heap.size w w4 := by rw [hw4]; exact b3.alloc b3.size _
  have z1 : Boxed w4 w.heap.size 9 (S8 til) := by rw [hw4, hw3, hw2, hw1]; exact (((Boxed.new w _ _).alloc _).alloc _).alloc _
  have z2 : Boxed w4 (w.heap.size + 1) 22 (.slice none 0 0) := by rw [← s1, hw4, hw3, hw2]; exact ((Boxed.new w1 _ _).alloc _).alloc _
  have z3 : Boxed w4 (w.heap.size + 1 + 1) 23 (.pointer p) := by rw [← s2, hw4, hw3]; exact (Boxed.new w2 _ _).alloc _
  have z4 : Boxed w4 (w.heap.size + 1 + 1 + 1) 3 (.int .i64 ((findO frm t : Nat) : Int)) := by rw [← s3, hw4]; exact Boxed.new w3 _ _
  have H4 := Lib.hid (And.intro b4 (And.intro z1 (And.intro z2 (And.intro z3 (And.intro z4 s4)))))
  have H2 := Lib.hid (And.intro b2 s2)
  refine callsIn_wide.1 (callsIn_of_wp_marks (n := 0) Tryd.func12 rfl trivial (wpIn_wide.2 ?_) rfl)
  simp only [Tryd.ntmps12, List.size_toArray, List.length_cons, List.length_nil, Nat.reduceAdd, Nat.reduceSub, Array.replicate_succ, Array.replicate_zero, List.push_toArray, List.append_toArray, List.nil_append, List.cons_append]
  clear b1 b2 b3 b4 z1 z2 z3 z4 s1 s2 s3 s4
  go_wp2_with fail
  rw [← hw1, ← hw2]
  refine (find_any t (.pointer p) frm _ (H.out.1.below H2.out.1) (by have := H.out.2.2; omega)).mono ?_
  rintro e wq ⟨rfl, hq⟩
  rw [hq]
  go_wp2_with fail
  refine (from_any p _ _).mono ?_
  rintro e wr ⟨rfl, hr⟩
  rw [← hw1, ← hw2, ← hw3, ← hw4] at hr
  rw [hr, ← hw1, ← hw2, H2.out.2]
  clear hw1 hw2 hw3 hw4 hq hr
  go_wp2_with fail
  refine (wpIn_wide (n := 0)).1 ?_
  refine range_box (α := Str × Str) (w := w4) rfl (enters_of Tryd.func88 (by kernel_rfl) rfl) (encs := fun x => #[.agg #[S8 x.1, S8 x.2]]) (fun _ => rfl) (D := fun k => k < w.heap.size ∨ k = w.heap.size + 1 + 1 + 1 ∨ k = w.heap.size + 1 + 1) ?hD (bx := w.heap.size + 1 + 1 + 1) ?hbx
    (iter_gives t p w w4 (findO frm t) (w.heap.size + 1 + 1 + 1) (w.heap.size + 1 + 1) H.out.1 H4.out.1 H.out.2.2 (findO_le H.out.2.1 frm) (by omega) (by omega) (by omega) H4.out.2.2.2.2.1.cell H4.out.2.2.2.2.1.frozen H4.out.2.2.2.1.cell)
    (RngI w til (w.heap.size + 1) w.heap.size w4.heap.size)
    (fun c pre W => ∃ pre' x, c = .exit 0 ∧ pre = pre' ++ [x] ∧ Isth.below til x = false ∧ RngI w til (w.heap.size + 1) w.heap.size w4.heap.size pre' W)
    ?hI ?hIx ?hB ?hBx ?h0
    (fun x a' W => ∃ xp, w4.heap.size ≤ xp ∧ Blk W xp 38 [S8 x.1, S8 x.2] ∧ a' = { tmps := #[.pointer p, S8 frm, S8 til, undef, undef, .pointer (some ⟨w.heap.size, 0, none⟩), .slice none 0 0, .pointer (some ⟨w.heap.size + 1, 0, none⟩), .pointer (some ⟨xp, 0, none⟩), .pointer p, .pointer p, S8 frm, .int .i64 ((findO frm t : Nat) : Int), .func (.func 88) #[] #[.pointer (some ⟨w.heap.size + 1 + 1 + 1, 0, none⟩), .pointer (some ⟨w.heap.size + 1 + 1, 0, none⟩)], .agg #[S8 x.1, S8 x.2], undef, undef, undef, undef, undef, undef, undef, undef, undef, undef, undef, undef, undef], defers := [] })
    ?hAx ?assign ?body ?done ?stop
  case hD => rintro k (h | rfl | rfl) <;> (have := H4.out.2.2.2.2.2; omega)
  case hbx => have := H4.out.2.2.2.2.2; omega
  case hI => exact fun s X Y h hg => h.grown hg (by omega) (by omega) (by omega) (.inl (by have := H4.out.2.2.2.2.2; omega))
  case hIx =>
    rintro c s X Y ⟨pre', x, h1, h2, h3, h⟩ hg
    exact ⟨pre', x, h1, h2, h3, h.grown hg (by omega) (by omega) (by omega) (.inl (by have := H4.out.2.2.2.2.2; omega))⟩
  case hB => exact fun s X k o o' h hk ho hc => h.grown (grownBy_putObj' X k o') (by have := H4.out.2.2.2.2.2; omega) (by have := H4.out.2.2.2.2.2; omega) (by have := H4.out.2.2.2.2.2; omega) (.inr ⟨o, ho, hc⟩)
  case hBx =>
    rintro c s X k o o' ⟨pre', x, h1, h2, h3, h⟩ hk ho hc
    exact ⟨pre', x, h1, h2, h3, h.grown (grownBy_putObj' X k o') (by have := H4.out.2.2.2.2.2; omega) (by have := H4.out.2.2.2.2.2; omega) (by have := H4.out.2.2.2.2.2; omega) (.inr ⟨o, ho, hc⟩)⟩
  case h0 => exact ⟨⟨_, H4.out.2.2.1, World.ownsRow_nil _ _ _ _⟩, H4.out.2.1, by simp, H4.out.1, Nat.le_refl _⟩
  case hAx =>
    rintro x a' X k o o' ⟨xp, h1, h2, h3⟩ hk ho hc
    refine ⟨xp, h1, h2.grown (grownBy_putObj' X k o') (fun e => ?_), h3⟩
    injection e with e
    subst e
    have h := ho.symm.trans h2
    injection h with h
    subst h
    cases hc
  case assign =>
    intro l pre x W K hi hK
    gi_wp2
    have hb : Below W.heap.size W (W.alloc (.cells #[S8 x.1, S8 x.2] 38)) := (Below.refl _ _).alloc (Nat.le_refl _) _
    exact hK _ _ ((KeepsOthers.alloc W _).from _) (Same.of_grown (World.grownBy_alloc W _ none) (fun k hk => ⟨by have := hi.sz; have := H4.out.2.2.2.2.2; rcases hk with hk | rfl | rfl <;> omega, by simp⟩)) (hi.below hb) ⟨_, hi.sz, Blk_new W [S8 x.1, S8 x.2] 38, rfl⟩
  case body =>
    rintro l pre x a' W hi ⟨xp, hxp, hblk, rfl⟩ hN
    have c5 := hi.tilb.cell
    obtain ⟨v, hv, hr⟩ := hi.row
    have cl := hv.cell
    have cf := hv.frozen
    have e0 := hblk.cellD 0 _ rfl
    have e1 := hblk.cellD 1 _ rfl
    have HI := Lib.hid hi
    have hsz := hi.sz
    have hm9 := H.out.2.2
    clear hi
    obtain ⟨i0, hi0, hz0, hs0, hy0⟩ := info_parts tPr.info
    have HBD := Lib.hid (show pre.length + 1 ≤ maxLen ∧ (pre.length + 1) * 32 ≤ 140737488355328 by unfold maxLen; omega)
    have HV := Lib.hid (And.intro hv (And.intro hr hsz))
    have HS4 := Lib.hid H4.out.2.2.2.2.2
    clear hr hv hsz hm9 hN
    by_cases hte : til = []
    · have HBE := Lib.hid (show Isth.below til x = true by unfold Isth.below; rw [hte]; rfl)
      gi_wp2_with (gi_at_builtin; refine wpListIn_append_own _ rfl _ _ 22 rfl w4.heap.size 38 i0 (.agg #[S8 [], S8 []]) 2 32 Tryd.underlying22 hi0 hz0 hs0 hy0 rfl (by decide) v pre.length _ rfl (HV.out.2.1.alloc _) ⟨W.heap.size, 0, none⟩ 1 1 [S8 x.1, S8 x.2] rfl rfl (fun j u hu => by rw [add_plain, Nat.zero_add]; exact (Blk_new W [S8 x.1, S8 x.2] 38).cellD j u hu) (pairC_one x) HBD.out.1 HBD.out.2 (by have := HV.out.2.2; simp; omega) ?_; intro v' w1 hown' hgrow _; obtain ⟨A', c', rfl, -⟩ := own_slice hown'; obtain ⟨hb1, hks⟩ := RngI.snoc (bi := w.heap.size + 1 + 1 + 1) (bt := w.heap.size + 1 + 1) HI.out HV.out.1 HV.out.2.1 HBE.out (by have := HS4.out; omega) (by omega) (by have := HS4.out; omega) (by have := HS4.out; omega) (by have := HS4.out; omega) hown' hgrow; have hc1 := hb1.cell; have hf1 := hb1.frozen; have HKS := Lib.hid hks; clear hb1 hks hown' hgrow)
      exact HKS.out
    · have hemp : List.isEmpty til = false := by cases til with | nil => exact absurd rfl hte | cons => rfl
      rcases hbel : Op.bytesLess x.fst til with _ | _
      · have HBE := Lib.hid (show Isth.below til x = false by unfold Isth.below; rw [hemp, hbel]; rfl)
        clear cl cf
        gi_wp2
        exact ⟨KeepsFrom.refl _ _, pre, x, rfl, rfl, HBE.out, HI.out⟩
      · have HBE := Lib.hid (show Isth.below til x = true by unfold Isth.below; rw [hemp, hbel]; rfl)
        gi_wp2_with (gi_at_builtin; refine wpListIn_append_own _ rfl _ _ 22 rfl w4.heap.size 38 i0 (.agg #[S8 [], S8 []]) 2 32 Tryd.underlying22 hi0 hz0 hs0 hy0 rfl (by decide) v pre.length _ rfl (HV.out.2.1.alloc _) ⟨W.heap.size, 0, none⟩ 1 1 [S8 x.1, S8 x.2] rfl rfl (fun j u hu => by rw [add_plain, Nat.zero_add]; exact (Blk_new W [S8 x.1, S8 x.2] 38).cellD j u hu) (pairC_one x) HBD.out.1 HBD.out.2 (by have := HV.out.2.2; simp; omega) ?_; intro v' w1 hown' hgrow _; obtain ⟨A', c', rfl, -⟩ := own_slice hown'; obtain ⟨hb1, hks⟩ := RngI.snoc (bi := w.heap.size + 1 + 1 + 1) (bt := w.heap.size + 1 + 1) HI.out HV.out.1 HV.out.2.1 HBE.out (by have := HS4.out; omega) (by omega) (by have := HS4.out; omega) (by have := HS4.out; omega) (by have := HS4.out; omega) hown' hgrow; have hc1 := hb1.cell; have hf1 := hb1.frozen; have HKS := Lib.hid hks; clear hb1 hks hown' hgrow)
        exact HKS.out
  case done =>
    rintro xs W rfl hi hD
    obtain ⟨v, hv, hr⟩ := hi.row
    have cl := hv.cell
    obtain ⟨A, c, rfl, _⟩ := own_slice hr
    have HI := Lib.hid (And.intro hi (And.intro hr hD))
    have HR := Lib.hid (show rangeO frm til t = (pairsO t).drop (findO frm t) by rw [← range_list H.out.2.1]; exact while_all _ hi.all)
    clear hi hr hD hv
    go_wp2
    refine ⟨by simp, .inl ⟨_, _, rfl, run_takeDeferred HI.out.2.2, ?_⟩⟩
    refine ⟨_, results_tmp rfl _ _ _, _, rfl, ?_, HI.out.1.bl.trans (belowK_b (w := w4) H4.out.1.size W w4.heap.size _ _ (Nat.le_refl _) HI.out.2.2 rfl rfl)⟩
    rw [HR.out]
    have h := own_mono (ownsRow_putObj HI.out.2.1 (.deferred none) HI.out.2.2 rfl) H4.out.1.size
    simpa using h
  case stop =>
    rintro c pre W hpre ⟨pre', x, rfl, rfl, hx, hi⟩ hD
    obtain ⟨v, hv, hr⟩ := hi.row
    have cl := hv.cell
    obtain ⟨A, c, rfl, _⟩ := own_slice hr
    have HI := Lib.hid (And.intro hi (And.intro hr hD))
    have HR := Lib.hid (show rangeO frm til t = pre' by
      obtain ⟨post, hpo⟩ := hpre
      rw [← range_list H.out.2.1, ← hpo, List.append_assoc]
      exact while_stop pre' x post hi.all hx)
    clear hi hr hD hv hpre hx
    refine (wpIn_wide (n := 0)).2 ?_
    go_wp2
    refine ⟨by simp, .inl ⟨_, _, rfl, run_takeDeferred HI.out.2.2, ?_⟩⟩
    refine ⟨_, results_tmp rfl _ _ _, _, rfl, ?_, HI.out.1.bl.trans (belowK_b (w := w4) H4.out.1.size W w4.heap.size _ _ (Nat.le_refl _) HI.out.2.2 rfl rfl)⟩
    rw [HR.out]
    have h := own_mono (ownsRow_putObj HI.out.2.1 (.deferred none) HI.out.2.2 rfl) H4.out.1.size
    exact h
end Go.Proofs.YtdekealpachhmaaDoor
