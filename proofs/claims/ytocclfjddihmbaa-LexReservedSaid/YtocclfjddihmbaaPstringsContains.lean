/- Proved here: what the functions named below compute (or, in a text Law.., that the law holds), at every argument that the theorems' own premises allow. Written by a program of this session over the kit's printer; Lean checks it. -/
import Derived.Test.YtocclfjddihmbaaP0
import Derived.Test.YtocclfjddihmbaaShelf
import Derived.Lib.IndexMore
import Derived.Lib.IndexBytes
namespace Go.Proofs.Ytocclfjddihmbaa.P
open Go.RowKit Go.Proofs.YtocclfjddihmbaaW.PrintWords Go.Proofs.YtocclfjddihmbaaW.PrintLast Go.Proofs.YtocclfjddihmbaaW.PrintMore
attribute [local go_sem] max2_int min2_int max_two min_two max_three min_three max_four min_four   -- for this text's walks alone
set_option linter.unusedVariables false
set_option linter.unusedSimpArgs false

/-! ### strings_Contains: function 39 -/
-- IMPORTS Derived.Test.YtocclfjddihmbaaShelf Derived.Lib.IndexMore Derived.Lib.IndexBytes
def strings_Contains.f (a0 a1 : ByteArray) : Option Bool := if a1.size = 1 ∨ a0.size < 4294967281 then some (Lib.contains a0.data.toList a1.data.toList) else none
theorem strings_Contains.calls (a0 a1 : ByteArray) (r : Bool) (w : World) (h : strings_Contains.f a0 a1 = some r) (m_ : Int) (hm_ : w.cell? ⟨0, 0, none⟩ = some (.int .i64 m_)) :
    Calls Try.prog 39 #[.string a0, .string a1] w fun e w' => e = .returned (.bool r) ∧ Drawn0 w w' := by
  unfold strings_Contains.f at h
  by_cases h1 : a1.size = 1
  · rw [if_pos (Or.inl h1)] at h
    obtain rfl := Option.some.inj h
    obtain ⟨⟨l⟩⟩ := a1
    cases l with
    | nil => cases h1
    | cons c l =>
      cases l with
      | nil =>
        refine (Try.strings_Contains_one a0 c w).mono fun e w' ⟨he, hw⟩ => ?_
        refine ⟨?_, by rw [hw]; exact Drawn0.refl _⟩
        rw [he]
        unfold Lib.contains
        rw [show (⟨⟨[c]⟩⟩ : ByteArray).data.toList = [c] from rfl, Lib.index_one]
      | cons d l =>
        have h2 : (c :: d :: l).length = 1 := h1
        simp at h2
  · by_cases h2 : a0.size < 4294967281
    · rw [if_pos (Or.inr h2)] at h
      obtain rfl := Option.some.inj h
      exact (Try.strings_Contains a0 a1 m_ w h2 hm_).mono fun e w' ⟨he, hw⟩ => ⟨he, by rw [hw]; exact Drawn0.refl _⟩
    · rw [if_neg (by intro h; rcases h with h | h <;> contradiction)] at h
      cases h
theorem mlen_below {w w' : World} {m : Int} (hm : w.cell? ⟨0, 0, none⟩ = some (.int .i64 m)) (hb : Below w.heap.size w w') : w'.cell? ⟨0, 0, none⟩ = some (.int .i64 m) := by
  rw [hb.cell (p := ⟨0, 0, none⟩) (by first | exact World.block_lt_of_cell? _ hm | exact World.block_lt_of_cell? _ _ hm)]; exact hm
theorem mlen_drewN {w : World} {n : Nat} {m : Int} (hm : w.cell? ⟨0, 0, none⟩ = some (.int .i64 m)) : (w.drewN n).cell? ⟨0, 0, none⟩ = some (.int .i64 m) := hm
theorem mlen_drew {w : World} {m : Int} (hm : w.cell? ⟨0, 0, none⟩ = some (.int .i64 m)) : w.drew.cell? ⟨0, 0, none⟩ = some (.int .i64 m) := hm

end Go.Proofs.Ytocclfjddihmbaa.P
