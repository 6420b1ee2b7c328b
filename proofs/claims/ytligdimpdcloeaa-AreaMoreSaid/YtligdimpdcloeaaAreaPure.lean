import Derived.Test.YtligdimpdcloeaaPareaVerity
import Derived.Test.YtligdimpdcloeaaPareaIntegrity
namespace Go.Proofs.Ytligdimpdcloeaa.Pure
open Go.RowKit Go.Proofs.Ytligdimpdcloeaa.P Go.Proofs.YtligdimpdcloeaaW.PrintWords Go.Proofs.YtligdimpdcloeaaW.PrintLast
set_option linter.unusedVariables false
set_option linter.unusedSimpArgs false

/-- The binary search's answer, at a test that stays true once it is. -/
theorem bsF_spec (P : Nat → Bool) (lim : Nat) (mono : ∀ a b, a ≤ b → b < lim → P a = true → P b = true) : ∀ (f i j : Nat), i ≤ j → j ≤ lim → j - i ≤ f → (∀ h, h < i → P h = false) → (j < lim → P j = true) →
    (∀ h, h < bsF P f i j → P h = false) ∧ (bsF P f i j < lim → P (bsF P f i j) = true)
  | 0, i, j, hij, hjl, hf, h1, h2 => by
    obtain rfl : i = j := by omega
    exact ⟨h1, h2⟩
  | f + 1, i, j, hij, hjl, hf, h1, h2 => by
    unfold bsF
    by_cases hlt : i < j
    · rw [if_pos hlt]
      by_cases hP : P ((i + j) / 2) = true
      · rw [if_pos hP]
        exact bsF_spec P lim mono f i ((i + j) / 2) (by omega) (by omega) (by omega) h1 (fun _ => hP)
      · rw [if_neg hP]
        refine bsF_spec P lim mono f ((i + j) / 2 + 1) j (by omega) hjl (by omega) (fun h hh => ?_) h2
        cases hb : P h
        · rfl
        · exact absurd (mono h ((i + j) / 2) (by omega) (by omega) hb) hP
    · rw [if_neg hlt]
      obtain rfl : i = j := by omega
      exact ⟨h1, h2⟩
theorem bestF_spec (N : Nat → Nat) (lim n : Nat) (mono : ∀ a b, 1 ≤ a → a ≤ b → b ≤ lim → N a ≤ N b) :
    bestF N lim n ≤ lim ∧ (bestF N lim n = 0 ∨ bestF N lim n + N (bestF N lim n) ≤ n) ∧ (bestF N lim n = lim ∨ n < bestF N lim n + 1 + N (bestF N lim n + 1)) := by
  have hle := (bsF_le (fun h => decide (n < h + 1 + N (h + 1))) lim 0 lim (Nat.zero_le _)).2
  have hs := bsF_spec (fun h => decide (n < h + 1 + N (h + 1))) lim (fun a b hab hbl ha => by
    have := mono (a + 1) (b + 1) (by omega) (by omega) (by omega)
    have ha := of_decide_eq_true ha
    exact decide_eq_true (by omega)) lim 0 lim (Nat.zero_le _) (Nat.le_refl _) (Nat.le_refl _) (fun h hh => by omega) (fun hh => by omega)
  unfold bestF
  generalize bsF (fun h => decide (n < h + 1 + N (h + 1))) lim 0 lim = D at *
  refine ⟨hle, ?_, ?_⟩
  · cases D with
    | zero => exact Or.inl rfl
    | succ d =>
      have := of_decide_eq_false (hs.1 d (by omega))
      exact Or.inr (by omega)
  · by_cases h : D = lim
    · exact Or.inl h
    · exact Or.inr (of_decide_eq_true (hs.2 (by omega)))
theorem levF_mono : ∀ (a b f g : Nat), 1 ≤ a → a ≤ b → ∀ (s t : Nat), ((levF a a s).map (fun x => x.2)).sum ≤ ((levF b b t).map (fun x => x.2)).sum := by
  intro a
  induction a using Nat.strongRecOn with
  | _ a ih =>
    intro b f g ha hab s t
    rw [levF_step a s ha, levF_step b t (by omega)]
    by_cases h1 : (a + 1) / 2 = 1
    · rw [if_pos h1]
      simp only [List.map_cons, List.map_nil, List.sum_cons, List.sum_nil]
      omega
    · rw [if_neg h1, if_neg (by omega)]
      have := ih ((a + 1) / 2) (by omega) ((b + 1) / 2) 0 0 (by omega) (by omega) (s + (a + 1) / 2) (t + (b + 1) / 2)
      simp only [List.map_cons, List.sum_cons]
      omega
theorem hashN_at (d : Nat) (h1 : 1 ≤ d) (h2 : d ≤ 2048) : hashN d = ((levF d d 0).map (fun x => x.2)).sum := by
  unfold hashN levZ
  rw [if_neg (by omega), Int.toNat_natCast]
theorem hashN_mono (a b : Nat) (ha : 1 ≤ a) (hab : a ≤ b) (hb : b ≤ 2048) : hashN a ≤ hashN b := by
  rw [hashN_at a ha (by omega), hashN_at b (by omega) hb]
  exact levF_mono a b 0 0 ha hab 0 0
theorem integ_spec (n : Nat) : bestF (fun d => (d + 3) / 4) 8192 n ≤ 8192 ∧ (bestF (fun d => (d + 3) / 4) 8192 n = 0 ∨ bestF (fun d => (d + 3) / 4) 8192 n + (bestF (fun d => (d + 3) / 4) 8192 n + 3) / 4 ≤ n) ∧ (bestF (fun d => (d + 3) / 4) 8192 n = 8192 ∨ n < bestF (fun d => (d + 3) / 4) 8192 n + 1 + (bestF (fun d => (d + 3) / 4) 8192 n + 1 + 3) / 4) :=
  bestF_spec (fun d => (d + 3) / 4) 8192 n (fun a b _ h _ => by show (a + 3) / 4 ≤ (b + 3) / 4; omega)
theorem verity_spec (n : Nat) : bestF hashN 2048 n ≤ 2048 ∧ (bestF hashN 2048 n = 0 ∨ bestF hashN 2048 n + hashN (bestF hashN 2048 n) ≤ n) ∧ (bestF hashN 2048 n = 2048 ∨ n < bestF hashN 2048 n + 1 + hashN (bestF hashN 2048 n + 1)) :=
  bestF_spec hashN 2048 n hashN_mono
end Go.Proofs.Ytligdimpdcloeaa.Pure
