/- A loop over an iterator that counts in a variable of its own, which lay ahead of the loop. Over any program. -/
import Derived.RangeFuncBox
import Derived.RangeFuncLeaves
import Derived.Below
namespace Go.Isth
open Go Go.RowKit

/-- What the law lays beside the loop: block B for deferred calls, block B + 1 for the loop's record. -/
structure Books (B : Nat) (o : Obj) (W : World) : Prop where
  book : W.heap[B + 1]? = some o
  ds : W.heap[B]? = some (.deferred (some []))
theorem Books.lt {B : Nat} {o : Obj} {W : World} (h : Books B o W) : B + 1 < W.heap.size := (Array.getElem?_eq_some_iff.1 h.book).1
theorem Books.grown {B bx : Nat} {o : Obj} {X Y : World} (h : Books B o X) (hb : bx < B) (hg : X.grownBy Y (some bx)) : Books B o Y := by
  have hl := h.lt
  exact ⟨(hg.block _ hl (by intro e; injection e with e; omega)).trans h.book, (hg.block _ (by omega) (by intro e; injection e with e; omega)).trans h.ds⟩
theorem Books.keeps {B : Nat} {o : Obj} {X Y : World} (h : Books B o X) (ho : o.isCells = false) (hk : KeepsFrom B X Y) : Books B o Y :=
  ⟨hk.same _ _ (by omega) h.book ho, hk.same _ _ (Nat.le_refl _) h.ds rfl⟩
theorem Books.put {B : Nat} {o o' : Obj} {W : World} (h : Books B o W) : Books B o' (W.putObj (B + 1) o') :=
  ⟨World.putObj_heap_same h.lt, (World.putObj_heap_other (by omega)).trans h.ds⟩

/-- It stands whatever the iterator does to its own variable. -/
def Lets {α : Type} (bx : Nat) (J : List α → World → Prop) : Prop := ∀ s X Y, J s X → X.grownBy Y (some bx) → J s Y
/-- It stands whatever becomes of blocks from B on that hold no cells. -/
def Books.Lets {α : Type} (B : Nat) (J : List α → World → Prop) : Prop := ∀ s X k o o', J s X → B ≤ k → X.heap[k]? = some o → o.isCells = false → J s (X.putObj k o')
/-- These blocks lie as they lay. -/
structure Same (D : Nat → Prop) (X Y : World) : Prop where
  os : Y.os = X.os
  tape : Y.tape = X.tape
  output : Y.output = X.output
  size : X.heap.size ≤ Y.heap.size
  block : ∀ k, D k → Y.heap[k]? = X.heap[k]?
theorem Same.trans {D : Nat → Prop} {X Y Z : World} (h : Same D X Y) (k : Same D Y Z) : Same D X Z := ⟨k.os.trans h.os, k.tape.trans h.tape, k.output.trans h.output, Nat.le_trans h.size k.size, fun i hi => (k.block i hi).trans (h.block i hi)⟩
theorem Same.put {D : Nat → Prop} {B : Nat} (hD : ∀ k, D k → k < B) (X : World) (j : Nat) (o : Obj) (hj : B ≤ j) : Same D X (X.putObj j o) := ⟨rfl, rfl, rfl, by simp, fun k hk => World.putObj_heap_other (by have := hD k hk; omega)⟩
theorem Same.below {D : Nat → Prop} {X Y : World} {n : Nat} (h : Same D X Y) (hD : ∀ k, k < n → D k) : Below n X Y := ⟨h.os, h.tape, h.output, h.size, fun k hk => h.block k (hD k hk)⟩
theorem Same.of_grown {D : Nat → Prop} {X Y : World} {r : Option Nat} (h : X.grownBy Y r) (hD : ∀ k, D k → k < X.heap.size ∧ some k ≠ r) : Same D X Y := ⟨h.os, h.tape, h.output, h.size, fun k hk => h.block k (hD k hk).1 (hD k hk).2⟩
theorem Same.refl (D : Nat → Prop) (X : World) : Same D X X := ⟨rfl, rfl, rfl, Nat.le_refl _, fun _ _ => rfl⟩

/-- What an iterator promises that writes a variable of its own in block bx: it hands on some elements, one by one, while the body keeps the blocks D. -/
def Gives {α : Type} (P : Program) (gf : Nat) (lb : Array Value) (encs : α → Array Value) (D : Nat → Prop) (bx N : Nat) (S Sp : List α → Prop) (w : World) : Prop :=
  ∀ (l : Nat) (J Jx : List α → World → Prop) (W : World), Below w.heap.size w W → Isth.Lets bx J → Isth.Lets bx Jx →
    (∀ pre x W1, J pre W1 → pre.length < N → YieldAt Fence.wide 0 P l (encs x) W1 fun e W' => (e = .returned (.bool true) ∧ J (pre ++ [x]) W' ∧ Same D W1 W') ∨ (e = .returned (.bool false) ∧ Jx (pre ++ [x]) W')) →
    J [] W → CallsIn Fence.wide 0 P gf (#[.func (.yield l) #[] #[]] ++ lb) W fun e W' => (∃ v, e = .returned v) ∧ ((∃ xs, S xs ∧ J xs W') ∨ (∃ pre, Sp pre ∧ Jx pre W'))

theorem range_box {α : Type} {P : Program} {g : Operand} {ps : Array Tmp} {assign body : Code} {Q : Exit → Act → World → Prop} {a : Act} {w : World}
    {gf : Nat} {lb : Array Value} (hg : a.eval g = .func (.func gf) #[] lb) (eg : ∀ args w, (callFunc gf args).run P w = .ok (.enter gf args) w)
    {encs : α → Array Value} (hps : ∀ x, (encs x).size = ps.size) {D : Nat → Prop} (hD : ∀ k, D k → k < w.heap.size) {bx N : Nat} (hbx : bx < w.heap.size) {S Sp : List α → Prop}
    (hit : Gives P gf lb encs D bx N S Sp w)
    (I : List α → World → Prop) (Ix : Code → List α → World → Prop) (hI : Isth.Lets bx I) (hIx : ∀ c, Isth.Lets bx (Ix c)) (hB : Books.Lets w.heap.size I) (hBx : ∀ c, Books.Lets w.heap.size (Ix c)) (h0 : I [] w)
    (Ax : α → Act → World → Prop) (hAx : ∀ x a' X k o o', Ax x a' X → w.heap.size ≤ k → X.heap[k]? = some o → o.isCells = false → Ax x a' (X.putObj k o'))
    (hassign : ∀ (l : Nat) (pre : List α) (x : α) (W : World) (K : Act → World → Prop), I pre W → (∀ a' W', KeepsFrom w.heap.size W W' → Same D W W' → I pre W' → Ax x a' W' → K a' W') →
      assign.wpIn (Fence.wide.inRound l) 0 P (Exit.then K (fun _ _ _ => False)) { tmps := (ps.zip (encs x)).foldl (fun t (p, v) => t.setIfInBounds p v) a.tmps, defers := [] } W)
    (hbody : ∀ (l : Nat) (pre : List α) (x : α) (a' : Act) (W : World), I pre W → Ax x a' W → pre.length < N → body.wpIn (Fence.wide.inRound l) 0 P (ownPostG w.heap.size (Same D) I Ix (pre ++ [x]) W) a' W)
    (hdone : ∀ (xs : List α) (W : World), S xs → I xs W → W.heap[w.heap.size]? = some (.deferred (some [])) → Q .normal { a with defers := { target := .collected w.heap.size, args := #[] } :: a.defers } W)
    (hstop : ∀ (c : Code) (pre : List α) (W : World), Sp pre → Ix c pre W → W.heap[w.heap.size]? = some (.deferred (some [])) → c.wpIn Fence.wide 0 P Q { a with defers := { target := .collected w.heap.size, args := #[] } :: a.defers } W) :
    (Code.rangeFunc g ps assign body).wpIn Fence.wide 0 P Q a w := by
  refine wpIn_rangeFunc fun fn hfn => ?_
  obtain ⟨mk, hmk⟩ : ∃ mk : LoopState → Option Code → Loop, mk = fun st pe => { state := st, pending := pe, fn, tmps := a.tmps, params := ps, assign, body, defers := w.heap.size } := ⟨_, rfl⟩
  have hpar : ∀ st pe, (mk st pe).params = ps := fun st pe => by rw [hmk]
  obtain ⟨B, hBe⟩ : ∃ B, B = w.heap.size := ⟨_, rfl⟩
  have hent : (Instr.enterLoop fn a.tmps ps assign body none).run P w = .ok (B + 1, [{ target := .collected B, args := #[] }]) ((w.alloc (.deferred (some []))).alloc (.loop (mk .ready none))) := by
    rw [hBe, hmk]; exact run_enterLoop_outer fn a.tmps ps assign body
  obtain ⟨V, hV⟩ : ∃ V, V = (w.alloc (.deferred (some []))).alloc (.loop (mk .ready none)) := ⟨_, rfl⟩
  have hbooks : Books B (.loop (mk .ready none)) V := by
    have h1 := World.alloc_heap_new (w.alloc (.deferred (some []))) (.loop (mk .ready none))
    rw [World.size_alloc, ← hBe, ← hV] at h1
    refine ⟨h1, ?_⟩
    have h2 : (w.alloc (.deferred (some []))).heap[B]? = some (.deferred (some [])) := by rw [hBe]; exact World.alloc_heap_new w _
    have h3 := (World.grownBy_alloc (w.alloc (.deferred (some []))) (.loop (mk .ready none)) none).block B (by rw [World.size_alloc]; omega) (by simp)
    rw [hV]; exact h3.trans h2
  have hIV : I [] V := by
    rw [hV]
    exact hI _ _ _ (hI _ _ _ h0 (World.grownBy_alloc _ _ _)) (World.grownBy_alloc _ _ _)
  have hbV : Below w.heap.size w V := by
    rw [hV]
    exact ((Below.refl _ w).alloc (Nat.le_refl _) _).alloc (by simp) _
  rw [← hV] at hent
  refine ⟨B + 1, [{ target := .collected B, args := #[] }], V, { target := .fn (.func gf) lb, args := #[.func (.yield (B + 1)) #[] #[]] }, V, gf, #[.func (.yield (B + 1)) #[] #[]] ++ lb, V, hent, ?_, ?_, ?_, fun h => (by cases h), ?_⟩
  · simp only [resolve, hg]
    simp [go_sem]
  · intro f' _
    trivial
  · simp [invoke, go_sem, eg]
  have hloop : ∀ o' : Loop, (Obj.loop o').isCells = false := fun _ => rfl
  refine (hit (B + 1) (fun pre W => I pre W ∧ Books B (.loop (mk .ready none)) W) (fun pre W => ∃ c, Ix c pre W ∧ Books B (.loop (mk .done (some c))) W) V hbV
    (fun s X Y h hg => ⟨hI s X Y h.1 hg, h.2.grown (by omega) hg⟩) (fun s X Y h hg => by obtain ⟨c, h1, h2⟩ := h; exact ⟨c, hIx c s X Y h1 hg, h2.grown (by omega) hg⟩) ?_ ⟨hIV, hbooks⟩).mono ?_
  · rintro pre x W ⟨hi, hb⟩ hN
    have hy := run_yield (P := P) (args := encs x) hb.book (by rw [hpar]; exact hps x)
    rw [hmk] at hy
    refine ⟨fn, _, assign, body, hy, roundIn_of_wpIn hfn (hassign _ pre x W _ hi ?_)⟩
    clear hy
    intro a' Wa hka hsa hia hax
    replace hb := hb.keeps rfl (by rw [hBe]; exact hka)
    clear hi
    revert hka hsa
    generalize W = W0
    intro hka hsa
    obtain ⟨W, rfl⟩ : ∃ W, W = Wa := ⟨_, rfl⟩
    have hbusy : Books B (.loop (mk .busy none)) (W.putObj (B + 1) (.loop (mk .busy none))) := hb.put
    have hbeg : (Instr.beginRound (B + 1)).run P W = .ok () (W.putObj (B + 1) (.loop (mk .busy none))) := by
      have := run_beginRound (P := P) hb.book (by rw [hmk])
      rw [hmk] at this ⊢
      exact this
    refine ⟨_, hbeg, wpIn_mono (hbody _ pre x a' _ (by refine hB _ _ _ _ _ hia ?_ hb.book rfl; omega) (by refine hAx _ _ _ _ _ _ hax ?_ hb.book rfl; omega) hN) ?_⟩
    have hs1 : Same D W0 (W.putObj (B + 1) (.loop (mk .busy none))) := hsa.trans (Same.put hD W _ _ (by omega))
    have fin : ∀ (j : Option Code) (W3 : World), KeepsFrom w.heap.size (W.putObj (B + 1) (.loop (mk .busy none))) W3 →
        ∃ W4, (Instr.endRound (B + 1) j).run P W3 = .ok (.bool j.isNone) W4 ∧ W4 = W3.putObj (B + 1) (.loop (mk (if j.isNone then .ready else .done) j)) ∧ Books B (.loop (mk (if j.isNone then .ready else .done) j)) W4 ∧ W3.heap[B + 1]? = some (.loop (mk .busy none)) := fun j W3 hk => by
      have hb3 := hbusy.keeps rfl (by rw [← hBe] at hk; exact hk)
      have := run_endRound (P := P) j hb3.book
      refine ⟨_, ?_, rfl, hb3.put, hb3.book⟩
      rw [hmk] at this ⊢
      exact this
    rintro e a3 W3 hp
    cases e with
    | normal =>
      obtain ⟨hk, hs, hi3⟩ := hp
      obtain ⟨W4, hr, h4, hb4, ho⟩ := fin none W3 hk
      refine ⟨_, _, hr, .inl ⟨rfl, ⟨?_, hb4⟩, ?_⟩⟩
      · rw [h4]; refine hB _ _ _ _ _ hi3 ?_ ho rfl; omega
      · rw [h4]; exact (hs1.trans hs).trans (Same.put hD W3 _ _ (by omega))
    | ret =>
      obtain ⟨hk, hi3⟩ := hp
      obtain ⟨W4, hr, h4, hb4, ho⟩ := fin (some .ret) W3 hk
      refine ⟨_, _, hr, .inr ⟨rfl, .ret, ?_, hb4⟩⟩
      rw [h4]; refine hBx _ _ _ _ _ _ hi3 ?_ ho rfl; omega
    | exit id =>
      obtain ⟨hk, hi3⟩ := hp
      obtain ⟨W4, hr, h4, hb4, ho⟩ := fin (some (.exit id)) W3 hk
      refine ⟨_, _, hr, .inr ⟨rfl, .exit id, ?_, hb4⟩⟩
      rw [h4]; refine hBx _ _ _ _ _ _ hi3 ?_ ho rfl; omega
    | goto t =>
      obtain ⟨hk, hi3⟩ := hp
      obtain ⟨W4, hr, h4, hb4, ho⟩ := fin (some (.goto t)) W3 hk
      refine ⟨_, _, hr, .inr ⟨rfl, .goto t, ?_, hb4⟩⟩
      rw [h4]; refine hBx _ _ _ _ _ _ hi3 ?_ ho rfl; omega
    | panic ch => exact hp.elim
    | outgrown => exact hp.elim
  · rintro e W2 ⟨⟨v, rfl⟩, (⟨xs, hS, hi, hb⟩ | ⟨pre, hSp, c, hi, hb⟩)⟩
    · refine ⟨none, W2.putObj (B + 1) (.loop (mk .exhausted none)), ?_, ?_⟩
      · have := run_endLoop (P := P) hb.book (by rw [hmk]; simp)
        rw [hmk] at this ⊢
        exact this
      · subst hBe
        exact hdone xs _ hS (hB _ _ _ _ _ hi (by omega) hb.book rfl) (hb.put (o' := .loop (mk .exhausted none))).ds
    · refine ⟨some c, W2.putObj (B + 1) (.loop (mk .exhausted (some c))), ?_, ?_⟩
      · have := run_endLoop (P := P) hb.book (by rw [hmk]; simp)
        rw [hmk] at this ⊢
        exact this
      · subst hBe
        exact hstop c pre _ hSp (hBx c _ _ _ _ _ hi (by omega) hb.book rfl) (hb.put (o' := .loop (mk .exhausted (some c)))).ds
#print axioms range_box
end Go.Isth
