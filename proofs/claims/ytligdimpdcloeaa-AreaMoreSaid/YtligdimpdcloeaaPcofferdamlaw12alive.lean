/- Proved here: what the functions named below compute (or, in a text Law.., that the law holds), at every argument that the theorems' own premises allow. Written by a program of this session over the kit's printer; Lean checks it. -/
import Derived.Test.YtligdimpdcloeaaP0
import Derived.Test.YtligdimpdcloeaaAlive1
namespace Go.Proofs.Ytligdimpdcloeaa.P
open Go.RowKit Go.Proofs.YtligdimpdcloeaaW.PrintWords Go.Proofs.YtligdimpdcloeaaW.PrintLast Go.Proofs.YtligdimpdcloeaaW.PrintMore
attribute [local go_sem] max2_int min2_int max_two min_two max_three min_three max_four min_four   -- for this text's walks alone
set_option linter.unusedVariables false
set_option linter.unusedSimpArgs false

/-! ### cofferdamlaw12_alive: function 14 -/
-- IMPORTS Derived.Test.YtligdimpdcloeaaAlive1
def cofferdamlaw12_alive.f : Option Bool := some true
theorem cofferdamlaw12_alive.calls (r : Bool) (w : World) (h : cofferdamlaw12_alive.f = some r) :
    Calls Try.prog 14 #[] w fun e w' => e = .returned (.bool r) ∧ Below w.heap.size w w' := by
  obtain rfl := Option.some.inj h
  exact alive12_calls w

end Go.Proofs.Ytligdimpdcloeaa.P
