/- A drawing region, by hand: three operations that are ready beside each other. Over any program. -/
import Derived.Test.YtdekealpachhmaaDoorReg2
namespace Go.Isth
open Go Go.RowKit
section
variable {P : Program} {Q : Exit → Act → World → Prop} {md : Region.Mode} {S : World → Prop}
theorem held_three {l : List Oper} {i j k : Nat} {o o' o'' : Oper} {fuel : Nat} {listed : Array Bool} {a : Act} {w : World} (hi : l[i]? = some o) (hj : l[j]? = some o') (hk : l[k]? = some o'') (hr : Region.ready md l.toArray listed = [i, j, k])
    (hw : Region.wanted o (yielded l.toArray a.tmps) = true) (hw' : Region.wanted o' (yielded l.toArray a.tmps) = true) (hw'' : Region.wanted o'' (yielded l.toArray a.tmps) = true)
    (h : ∀ K' : Act → World → Prop, Shut (∀ a w, S w → wpAnyH P md l.toArray Q S fuel (listed.setIfInBounds i true) a w → K' a w) → Oper.wp P o a w K' Q)
    (h' : ∀ K' : Act → World → Prop, Shut (∀ a w, S w → wpAnyH P md l.toArray Q S fuel (listed.setIfInBounds j true) a w → K' a w) → Oper.wp P o' a w K' Q)
    (h'' : ∀ K' : Act → World → Prop, Shut (∀ a w, S w → wpAnyH P md l.toArray Q S fuel (listed.setIfInBounds k true) a w → K' a w) → Oper.wp P o'' a w K' Q) : wpAnyH P md l.toArray Q S (fuel + 1) listed a w := by
  refine wpAnyH_ready (rs := [i, j, k]) hr (by simp) (AllReadyH.cons (o := o) (by simpa using hi) (fun K hK => ?_) (AllReadyH.cons (o := o') (by simpa using hj) (fun K hK => ?_) (AllReadyH.cons (o := o'') (by simpa using hk) (fun K hK => ?_) AllReadyH.nil)))
  · rw [if_pos hw]
    exact h K (fun a w hS hA => hK.out a w hS (fun _ => hA))
  · rw [if_pos hw']
    exact h' K (fun a w hS hA => hK.out a w hS (fun _ => hA))
  · rw [if_pos hw'']
    exact h'' K (fun a w hS hA => hK.out a w hS (fun _ => hA))
end
end Go.Isth
