/- How many sectors are left for data, and how many the rest has, is as the document says; at all numbers. -/
import Derived.Test.YtligdimpdcloeaaPcofferdamlaw12AreaSizes
import Derived.Test.YtligdimpdcloeaaAreaRef
namespace Go.Proofs.Ytligdimpdcloeaa.Pure
open Go.RowKit Go.Proofs.Ytligdimpdcloeaa.P Go.Proofs.YtligdimpdcloeaaW.PrintWords Go.Proofs.YtligdimpdcloeaaW.PrintLast
set_option linter.unusedVariables false
set_option linter.unusedSimpArgs false

theorem integ_some (x : Int) : ∃ v, area_Integrity.f x = some v := by
  unfold area_Integrity.f
  by_cases h : x < 0 ∨ 8192 < x
  · rw [if_pos h]; exact ⟨_, rfl⟩
  · rw [if_neg h]; exact ⟨_, rfl⟩
theorem verity_some (x : Int) : ∃ v, area_Verity.f x = some v := by
  unfold area_Verity.f
  by_cases h : x < 0 ∨ 8192 < x
  · rw [if_pos h]; exact ⟨_, rfl⟩
  · rw [if_neg h]; exact ⟨_, rfl⟩
theorem store_some (n o c : Int) : ∃ v, area_Store.f (19999 + 1) n o c = some v := by
  by_cases h : stBad n o c
  · exact ⟨_, store_bad 19999 n o c h⟩
  · have h' := h
    unfold stBad at h'
    obtain ⟨n, rfl⟩ : ∃ m : Nat, n = m := ⟨n.toNat, by omega⟩
    obtain ⟨o, rfl⟩ : ∃ m : Nat, o = m := ⟨o.toNat, by omega⟩
    obtain ⟨c, rfl⟩ : ∃ m : Nat, c = m := ⟨c.toNat, by omega⟩
    exact ⟨_, store_good 19999 n o c h⟩
theorem AreaSizes : cofferdamlaw12_AreaSizes.Pure := by
  intro a o c ha ho hc
  refine ⟨19999 + 1, ?_⟩
  obtain ⟨u, hu⟩ := integ_some a
  obtain ⟨v, hv⟩ := verity_some a
  obtain ⟨w, hw⟩ := store_some a o c
  unfold cofferdamlaw12_AreaSizes.f cofferdamlaw12_alive.f
  rw [ref_integ _ (Nat.le_refl _), ref_ver _ (Nat.le_refl _), ref_store _ (Nat.le_refl _), hu, hv, hw]
  simp only [Option.bind_some]
  simp
end Go.Proofs.Ytligdimpdcloeaa.Pure
