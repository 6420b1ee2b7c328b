/- Proved here: what the functions named below compute (or, in a text Law.., that the law holds), at every argument that the theorems' own premises allow. Written by a program of this session over the kit's printer; Lean checks it. -/
import Derived.Test.YtocclfjddihmbaaP0
import Derived.Test.YtocclfjddihmbaaShelf
namespace Go.Proofs.Ytocclfjddihmbaa.P
open Go.RowKit Go.Proofs.YtocclfjddihmbaaW.PrintWords Go.Proofs.YtocclfjddihmbaaW.PrintLast Go.Proofs.YtocclfjddihmbaaW.PrintMore
attribute [local go_sem] max2_int min2_int max_two min_two max_three min_three max_four min_four   -- for this text's walks alone
set_option linter.unusedVariables false
set_option linter.unusedSimpArgs false

/-! ### strings_IndexByte: function 45 -/
-- IMPORTS Derived.Test.YtocclfjddihmbaaShelf
def strings_IndexByte.f (a0 : ByteArray) (a1 : Int) : Option (Int) := some (Lib.indexByte a0.data.toList a1.toNat.toUInt8)
theorem strings_IndexByte.calls (a0 : ByteArray) (a1 : Int) (r : Int) (w : World) (h : strings_IndexByte.f a0 a1 = some r) :
    Calls Try.prog 45 #[.string a0, .int .u8 a1] w fun e w' => e = .returned (.int .i64 r) ∧ Drawn0 w w' := by
  obtain rfl := Option.some.inj h
  refine (Try.strings_IndexByte a0 a1 w).mono ?_
  rintro e w' ⟨rfl, rfl⟩
  exact ⟨rfl, Drawn0.refl _⟩

end Go.Proofs.Ytocclfjddihmbaa.P
