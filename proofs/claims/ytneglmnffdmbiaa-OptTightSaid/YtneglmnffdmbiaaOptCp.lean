import Derived.Test.YtneglmnffdmbiaaOptWr
import Derived.Test.YtneglmnffdmbiaaPcofferdamlaw16copied
namespace Go.Proofs.Ytneglmnffdmbiaa.P
open Go.RowKit Go.Proofs.YtneglmnffdmbiaaW.PrintWords Go.Proofs.YtneglmnffdmbiaaW.PrintLast Go.Proofs.YtneglmnffdmbiaaW.PrintMore
set_option linter.unusedVariables false
set_option linter.unusedSimpArgs false

/-! a plan in lists of its own reads as it did -/
def Lens (L : List S34) : Prop := L.length ≤ 1000 ∧ ∀ p : Int, 0 ≤ p → p < (L.length : Int) → (rd_T34 L p).f3.length ≤ 100000 ∧ (rd_T34 L p).f4.length ≤ 100000 ∧ (rd_T34 L p).f8.length ≤ 100000 ∧ (rd_T34 L p).f9.length ≤ 100000
theorem drop_T34 (L : List S34) (i : Nat) (hi : i < L.length) : L.drop i = rd_T34 L (i : Int) :: L.drop (i + 1) := by
  rw [List.drop_eq_getElem_cons hi]
  simp [rd_T34, List.getD, hi]
theorem copied_l0 (L : List S34) (root : Int) (ro : Bool) (hL : Lens L) : ∀ (m i k : Nat) (acc : List S34), i ≤ L.length → L.length - i ≤ m → m < k → acc.length = i → cofferdamlaw16_copied.l0 k (i : Int) L root ro acc root ro = some (acc ++ L.drop i, root, ro)
  | m, i, 0, acc, _, _, h, _ => absurd h (Nat.not_lt_zero _)
  | m, i, k + 1, acc, h0, h1, h2, h3 => by
    have hn := hL.1
    rw [cofferdamlaw16_copied.l0]
    by_cases hc : (i : Int) < (L.length : Int)
    · have hi0 : (0 : Int) ≤ (i : Int) := Int.natCast_nonneg i
      have hil : i < L.length := by omega
      obtain ⟨l3, l4, l8, l9⟩ := hL.2 (i : Int) hi0 hc
      have ih := copied_l0 L root ro hL (m - 1) (i + 1) k (acc ++ [rd_T34 L (i : Int)]) hil (by clear l3 l4 l8 l9; omega) (by clear l3 l4 l8 l9; omega) (by rw [List.length_append, List.length_singleton, h3])
      have e1 : wrap64 ((i : Int) + 1) = ((i + 1 : Nat) : Int) := by clear l3 l4 l8 l9 ih; unfold wrap64; omega
      rw [List.append_assoc, List.singleton_append] at ih
      rw [if_pos hc, if_pos hi0, drop_T34 L i hil]
      generalize rd_T34 L (i : Int) = t at *
      have hacc : acc.length < 977343669134 := by clear ih l3 l4 l8 l9; omega
      have b3 : ([] : List S36).length + t.f3.length < 4398046511104 := by clear ih; rw [List.length_nil]; omega
      have b4 : ([] : List Int).length + t.f4.length < 17592186044416 := by clear ih; rw [List.length_nil]; omega
      have b8 : ([] : List Int).length + t.f8.length < 140737488355328 := by clear ih; rw [List.length_nil]; omega
      have b9 : ([] : List Int).length + t.f9.length < 140737488355328 := by clear ih; rw [List.length_nil]; omega
      rw [Option.bind_some, if_pos b4, Option.bind_some, if_pos b3, Option.bind_some, if_pos b8, Option.bind_some, if_pos b9, if_pos hacc, e1]
      exact ih
    · rw [if_neg hc, List.drop_eq_nil_of_le (by omega), List.append_nil]
theorem copied_same (L : List S34) (root : Int) (ro : Bool) (hL : Lens L) : cofferdamlaw16_copied.f 2000 L root ro = some (L, root, ro) := by
  unfold cofferdamlaw16_copied.f
  have hn := hL.1
  have := copied_l0 L root ro hL L.length 0 2000 [] (Nat.zero_le _) (by omega) (by omega) rfl
  rw [List.nil_append, List.drop_zero] at this
  exact this
theorem Lens.of {L : List S34} {root : Int} (h : BdOk L root) : Lens L := by
  obtain ⟨h60, hl, hr⟩ := h
  refine ⟨by omega, fun p p0 p1 => ?_⟩
  have a := hl p p0 p1
  have b := (hr.2.2.2 p p0 p1).2.2.2
  omega
end Go.Proofs.Ytneglmnffdmbiaa.P
