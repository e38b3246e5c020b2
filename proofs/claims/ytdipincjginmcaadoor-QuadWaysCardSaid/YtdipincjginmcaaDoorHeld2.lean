/- A drawn region walked in the order of its text: where two operations may come up. -/
import Derived.Test.YtdipincjginmcaaDoorHeld
namespace Go.Proofs.YtdipincjginmcaaDoor
open Go.RowKit

section
variable {P : Program} {ops : Array Oper} {Q : Exit → Act → World → Prop} {md : Region.Mode} {S : World → Prop}
theorem held_two {i j : Nat} {d : Option Tmp} {op : Op} {t : TypeId} {p : String} {af : Array Edge} {g : Option (Nat × Bool)} {d' : Option Tmp} {op' : Op} {t' : TypeId} {p' : String} {af' : Array Edge} {g' : Option (Nat × Bool)} {fuel : Nat} {listed : Array Bool} {a : Act} {w : World}
    (hr : Region.ready md ops listed = [i, j]) (hi : ops[i]? = some ⟨d, op, t, p, af, g⟩) (hj : ops[j]? = some ⟨d', op', t', p', af', g'⟩)
    (h : ∀ K' : Act → World → Prop, Shut (∀ a w, S w → (S w → wpAnyH P md ops Q S fuel (listed.setIfInBounds i true) a w) → K' a w) → if Region.wanted ⟨d, op, t, p, af, g⟩ (yielded ops a.tmps) = true then Oper.wp P ⟨d, op, t, p, af, g⟩ a w K' Q else K' (a.put d undef) w)
    (h' : ∀ K' : Act → World → Prop, Shut (∀ a w, S w → (S w → wpAnyH P md ops Q S fuel (listed.setIfInBounds j true) a w) → K' a w) → if Region.wanted ⟨d', op', t', p', af', g'⟩ (yielded ops a.tmps) = true then Oper.wp P ⟨d', op', t', p', af', g'⟩ a w K' Q else K' (a.put d' undef) w) : wpAnyH P md ops Q S (fuel + 1) listed a w :=
  wpAnyH_ready hr (by simp) (AllReadyH.cons hi h (AllReadyH.cons hj h' AllReadyH.nil))
end
end Go.Proofs.YtdipincjginmcaaDoor
