/- What area.Integrity, area.Verity and area.Store answer, in plain numbers. -/
import Derived.Test.YtligdimpdcloeaaAreaPure
import Derived.Test.YtligdimpdcloeaaAreaStore
namespace Go.Proofs.Ytligdimpdcloeaa.Pure
open Go.RowKit Go.Proofs.Ytligdimpdcloeaa.P Go.Proofs.YtligdimpdcloeaaW.PrintWords Go.Proofs.YtligdimpdcloeaaW.PrintLast
set_option linter.unusedVariables false
set_option linter.unusedSimpArgs false

theorem integ_v (n : Nat) (hn : n ≤ 8192) : area_Integrity.f n = some (((bestF (fun d => (d + 3) / 4) 8192 n : Nat) : Int), (((bestF (fun d => (d + 3) / 4) 8192 n + 3) / 4 : Nat) : Int)) := by
  unfold area_Integrity.f
  have c1 : ¬ ((n : Int) < 0 ∨ 8192 < (n : Int)) := by omega
  rw [if_neg c1, Int.toNat_natCast]
theorem integ_bad (x : Int) (h : x < 0 ∨ 8192 < x) : area_Integrity.f x = some (0, 0) := by
  unfold area_Integrity.f
  rw [if_pos h]
theorem verity_v (n : Nat) (hn : n ≤ 8192) : area_Verity.f n = some (((bestF hashN 2048 n : Nat) : Int), ((hashN (bestF hashN 2048 n) : Nat) : Int)) := by
  unfold area_Verity.f
  have c1 : ¬ ((n : Int) < 0 ∨ 8192 < (n : Int)) := by omega
  rw [if_neg c1, Int.toNat_natCast]
  by_cases h : bestF hashN 2048 n = 0
  · rw [if_pos h, h]; rfl
  · rw [if_neg h]
theorem verity_bad (x : Int) (h : x < 0 ∨ 8192 < x) : area_Verity.f x = some (0, 0) := by
  unfold area_Verity.f
  rw [if_pos h]
/-- With one sector more there is as much room, or one more. -/
theorem best_more (N : Nat → Nat) (lim n : Nat) (mono : ∀ a b, 1 ≤ a → a ≤ b → b ≤ lim → N a ≤ N b) :
    bestF N lim n ≤ bestF N lim (n + 1) ∧ bestF N lim (n + 1) ≤ bestF N lim n + 1 := by
  have h := bestF_spec N lim n mono
  have g := bestF_spec N lim (n + 1) mono
  generalize bestF N lim n = D at *
  generalize bestF N lim (n + 1) = D' at *
  constructor
  · by_cases hlt : D' < D
    · have := mono (D' + 1) D (by omega) (by omega) h.1
      omega
    · omega
  · by_cases hlt : D + 2 ≤ D'
    · have := mono (D + 1) D' (by omega) (by omega) g.1
      omega
    · omega
def stBad (n o c : Int) : Prop := n < 1 ∨ 8192 < n ∨ o < 1 ∨ 8192 < o ∨ c < 1 ∨ 16 < c
instance (n o c : Int) : Decidable (stBad n o c) := by unfold stBad; infer_instance
theorem store_bad (k : Nat) (n o c : Int) (h : stBad n o c) : area_Store.f (k + 1) n o c = some (0, 0) := by
  unfold stBad at h
  unfold area_Store.f
  by_cases h1 : n < 1
  · rw [if_pos h1, store_true]
  rw [if_neg h1]
  by_cases h2 : n > 8192
  · rw [if_pos h2, store_true]
  rw [if_neg h2]
  by_cases h3 : o < 1
  · rw [if_pos h3, store_true]
  rw [if_neg h3]
  by_cases h4 : o > 8192
  · rw [if_pos h4, store_true]
  rw [if_neg h4]
  by_cases h5 : c < 1
  · rw [if_pos h5, store_true]
  rw [if_neg h5, decide_eq_true (by omega), store_true]
theorem store_good (k n o c : Nat) (h : ¬ stBad n o c) :
    area_Store.f (k + 1) n o c = some (if stS n o c < 1 then (0, 0) else (((stT o c : Nat) : Int), ((stS n o c : Nat) : Int))) := by
  unfold stBad at h
  rw [← store_j0 n o c k (by omega) (by omega) (by omega) (by omega) (by omega)]
  have h1 : ¬ (n : Int) < 1 := by omega
  have h2 : ¬ (n : Int) > 8192 := by omega
  have h3 : ¬ (o : Int) < 1 := by omega
  have h4 : ¬ (o : Int) > 8192 := by omega
  have h5 : ¬ (c : Int) < 1 := by omega
  have h6 : ¬ (c : Int) > 16 := by omega
  unfold area_Store.f
  rw [if_neg h1, if_neg h2, if_neg h3, if_neg h4, if_neg h5, decide_eq_false h6]
theorem stS_more (n o c : Nat) (hc : 1 ≤ c) : stS n o c ≤ stS (n + 1) o c ∧ stS (n + 1) o c ≤ stS n o c + 1 := by
  unfold stS
  generalize stT o c = T
  generalize stC o c = C
  have h1 : (n - T) / c ≤ (n + 1 - T) / c := Nat.div_le_div_right (by omega)
  have h2 : (n + 1 - T) / c ≤ (n - T + c) / c := Nat.div_le_div_right (by omega)
  rw [Nat.add_div_right _ (by omega)] at h2
  omega
theorem stS_one (o c : Nat) (ho : 1 ≤ o) (hc : 1 ≤ c) : stS 1 o c = 0 := by
  have := stT_pos o c ho hc
  unfold stS
  rw [show 1 - stT o c = 0 by omega, Nat.zero_div]
  omega
/-- Store with one sector more: as many slots, or one more; the same table. -/
theorem store_more (k n : Nat) (hn : n ≤ 8191) (o c : Int) : ∃ (t s u v : Nat), area_Store.f (k + 1) n o c = some ((t : Int), (s : Int)) ∧ area_Store.f (k + 1) ((n + 1 : Nat) : Int) o c = some ((u : Int), (v : Int)) ∧ s ≤ v ∧ v ≤ s + 1 ∧ (s = 0 ∨ t = u) ∧ s ≤ 10000 := by
  by_cases hb : o < 1 ∨ 8192 < o ∨ c < 1 ∨ 16 < c
  · refine ⟨0, 0, 0, 0, store_bad k _ _ _ (by unfold stBad; omega), store_bad k _ _ _ (by unfold stBad; omega), by omega, by omega, Or.inl rfl, by omega⟩
  · obtain ⟨o, rfl⟩ : ∃ m : Nat, o = m := ⟨o.toNat, by omega⟩
    obtain ⟨c, rfl⟩ : ∃ m : Nat, c = m := ⟨c.toNat, by omega⟩
    have hv := store_good k (n + 1) o c (by unfold stBad; omega)
    have hm := stS_more n o c (by omega)
    have hC := stC_le o c (by omega) (by omega) (by omega)
    have hS : stS n o c ≤ 10000 := Nat.le_trans (Nat.min_le_left _ _) (by omega)
    by_cases hn0 : n = 0
    · subst hn0
      have h1 := stS_one o c (by omega) (by omega)
      rw [Nat.zero_add, h1, if_pos (by omega)] at hv
      exact ⟨0, 0, 0, 0, store_bad k _ _ _ (by unfold stBad; omega), hv, by omega, by omega, Or.inl rfl, by omega⟩
    · have hu := store_good k n o c (by unfold stBad; omega)
      by_cases h1 : stS n o c < 1
      · rw [if_pos h1] at hu
        by_cases h2 : stS (n + 1) o c < 1
        · rw [if_pos h2] at hv
          exact ⟨0, 0, 0, 0, hu, hv, by omega, by omega, Or.inl rfl, by omega⟩
        · rw [if_neg h2] at hv
          exact ⟨0, 0, _, _, hu, hv, by omega, by omega, Or.inl rfl, by omega⟩
      · rw [if_neg h1] at hu
        rw [if_neg (by omega)] at hv
        exact ⟨_, _, _, _, hu, hv, hm.1, hm.2, Or.inr rfl, hS⟩
end Go.Proofs.Ytligdimpdcloeaa.Pure
