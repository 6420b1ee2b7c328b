/- Proved here: what the functions named below compute (or, in a text Law.., that the law holds), at every argument that the theorems' own premises allow. Written by a program of this session over the kit's printer; Lean checks it. -/
import Derived.Test.YtligdimpdcloeaaP0
import Derived.Test.YtligdimpdcloeaaLevels2
namespace Go.Proofs.Ytligdimpdcloeaa.P
open Go.RowKit Go.Proofs.YtligdimpdcloeaaW.PrintWords Go.Proofs.YtligdimpdcloeaaW.PrintLast Go.Proofs.YtligdimpdcloeaaW.PrintMore
attribute [local go_sem] max2_int min2_int max_two min_two max_three min_three max_four min_four   -- for this text's walks alone
set_option linter.unusedVariables false
set_option linter.unusedSimpArgs false

/-! ### merkle_Levels: function 17 -/
-- IMPORTS Derived.Test.YtligdimpdcloeaaLevels2
def merkle_Levels.f (a0 : Int) : Option (List Int) := some ((levZ a0).map (fun x => ((x.2 : Nat) : Int)))
theorem merkle_Levels.calls (a0 : Int) (r : List Int) (w : World) (h : merkle_Levels.f a0 = some r) :
    Calls Try.prog 17 #[.int .i64 a0] w fun e w' => ∃ v0_ : Value, e = .returned (v0_) ∧ Kd.R (Kd.int .i64) 3 w' w.heap.size (fun _ => True) v0_ r ∧ Below w.heap.size w w' := by
  obtain rfl := Option.some.inj h
  refine (callsIn_wide (n := 3)).1 ?_
  refine (Levels_in _ 3 trivial trivial trivial rfl (by decide) a0 w).mono ?_
  rintro e w' ⟨v, rfl, ho, hb⟩
  refine ⟨v, rfl, Kd.R_of_own (enc := Value.int .i64) (h1 := fun _ => rfl) ?_ (fun _ _ => trivial), hb⟩
  have : encs (Value.int .i64) ((levZ a0).map (fun x => ((x.2 : Nat) : Int))) = (levZ a0).map (fun x => Value.int .i64 (x.2 : Nat)) := by
    unfold encs
    rw [List.map_map]
    rfl
  rw [this, List.length_map]
  exact ho

end Go.Proofs.Ytligdimpdcloeaa.P
