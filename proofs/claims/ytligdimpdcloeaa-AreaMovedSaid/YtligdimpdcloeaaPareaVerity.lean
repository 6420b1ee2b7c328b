/- Proved here: what the functions named below compute (or, in a text Law.., that the law holds), at every argument that the theorems' own premises allow. Written by a program of this session over the kit's printer; Lean checks it. -/
import Derived.Test.YtligdimpdcloeaaP0
import Derived.Test.YtligdimpdcloeaaPareaIntegrity
import Derived.Test.YtligdimpdcloeaaPareaVerity1
import Derived.Test.YtligdimpdcloeaaPmerkleLevels
import Derived.Test.YtligdimpdcloeaaBest1
import Derived.Test.YtligdimpdcloeaaPareaVerity1
import Derived.Test.YtligdimpdcloeaaPareaIntegrity
namespace Go.Proofs.Ytligdimpdcloeaa.P
open Go.RowKit Go.Proofs.YtligdimpdcloeaaW.PrintWords Go.Proofs.YtligdimpdcloeaaW.PrintLast Go.Proofs.YtligdimpdcloeaaW.PrintMore
attribute [local go_sem] max2_int min2_int max_two min_two max_three min_three max_four min_four   -- for this text's walks alone
set_option linter.unusedVariables false
set_option linter.unusedSimpArgs false

/-! ### area_Verity: function 10 -/
-- IMPORTS Derived.Test.YtligdimpdcloeaaBest1 Derived.Test.YtligdimpdcloeaaPareaVerity1 Derived.Test.YtligdimpdcloeaaPareaIntegrity
/-- The sectors of all levels over d sectors. -/
def hashN (d : Nat) : Nat := ((levZ d).map (fun x => x.2)).sum
theorem levF_sum : ∀ (n first : Nat), 1 ≤ n → ∀ f, n ≤ f → ((levF f n first).map (fun x => x.2)).sum ≤ 2 * n := by
  intro n
  induction n using Nat.strongRecOn with
  | _ n ih =>
    intro first h1 f hf
    rw [levF_more f n n first hf (Nat.le_refl _) h1, levF_step n first h1]
    by_cases h : (n + 1) / 2 = 1
    · rw [if_pos h]; simp; omega
    · rw [if_neg h]
      have := ih ((n + 1) / 2) (by omega) (first + (n + 1) / 2) (by omega) ((n + 1) / 2) (Nat.le_refl _)
      simp only [List.map_cons, List.sum_cons]
      omega
theorem hashN_le (d : Nat) : hashN d ≤ 2 * d := by
  unfold hashN levZ
  by_cases h : (d : Int) < 1 ∨ 2048 < (d : Int)
  · rw [if_pos h]; simp
  · rw [if_neg h, Int.toNat_natCast]
    exact levF_sum d 0 (by omega) d (Nat.le_refl _)
theorem sum_drop (l : List (Nat × Nat)) (i : Nat) (h : i < l.length) : ((l.drop i).map (fun x => x.2)).sum = l[i].2 + ((l.drop (i + 1)).map (fun x => x.2)).sum := by
  rw [List.drop_eq_getElem_cons h]; rfl
theorem sum_le_drop : ∀ (l : List (Nat × Nat)) (i : Nat), ((l.drop i).map (fun x => x.2)).sum ≤ (l.map (fun x => x.2)).sum
  | [], i => by simp
  | x :: l, 0 => by simp
  | x :: l, i + 1 => by
    have := sum_le_drop l i
    simp only [List.drop_succ_cons, List.map_cons, List.sum_cons]
    omega
theorem verity_sum (l : List (Nat × Nat)) (hl : l.length ≤ 100000) (hs : (l.map (fun x => x.2)).sum ≤ 1000000) : ∀ (d i k s : Nat), l.length - i ≤ d → i ≤ l.length → d < k → s + ((l.drop i).map (fun x => x.2)).sum = (l.map (fun x => x.2)).sum →
    area_Verity_1.l0 k s (l.map (fun x => ((x.2 : Nat) : Int))) (l.length : Int) i = some (((l.map (fun x => x.2)).sum : Nat) : Int) := by
  intro d
  induction d with
  | zero =>
    intro i k s hd hi hk hsum
    obtain ⟨k, rfl⟩ : ∃ m, k = m + 1 := ⟨k - 1, by omega⟩
    rw [area_Verity_1.l0, if_neg (by omega)]
    rw [List.drop_of_length_le (by omega)] at hsum
    rw [← hsum]; rfl
  | succ d ih =>
    intro i k s hd hi hk hsum
    obtain ⟨k, rfl⟩ : ∃ m, k = m + 1 := ⟨k - 1, by omega⟩
    by_cases hlt : i < l.length
    · have hx := sum_drop l i hlt
      have hget : rd (l.map (fun x => ((x.2 : Nat) : Int))) (i : Int) = ((l[i].2 : Nat) : Int) := by
        unfold rd
        rw [Int.toNat_natCast, List.getD_eq_getElem?_getD, List.getElem?_map, List.getElem?_eq_getElem hlt]
        rfl
      have c1 : ((i : Nat) : Int) < (l.length : Int) := by omega
      have c2 : ((i : Nat) : Int) < ((l.map (fun x => ((x.2 : Nat) : Int))).length : Int) := by rw [List.length_map]; exact c1
      have c3 : s + l[i].2 ≤ 1000000 := by omega
      have c4 : i ≤ 1000000 := by omega
      have e1 : wrap64 ((s : Int) + ((l[i].2 : Nat) : Int)) = ((s + l[i].2 : Nat) : Int) := by unfold wrap64; omega
      have e2 : wrap64 ((i : Int) + 1) = ((i + 1 : Nat) : Int) := by unfold wrap64; omega
      rw [area_Verity_1.l0, if_pos c1, if_pos (Int.natCast_nonneg _), if_pos c2, hget, e1, e2]
      clear e1 e2
      exact ih (i + 1) k (s + l[i].2) (by omega) (by omega) (by omega) (by omega)
    · rw [area_Verity_1.l0, if_neg (by omega)]
      rw [List.drop_of_length_le (by omega)] at hsum
      rw [← hsum]; rfl
theorem levF_len : ∀ (n first : Nat), 1 ≤ n → ∀ f, n ≤ f → (levF f n first).length ≤ n := by
  intro n
  induction n using Nat.strongRecOn with
  | _ n ih =>
    intro first h1 f hf
    rw [levF_more f n n first hf (Nat.le_refl _) h1, levF_step n first h1]
    by_cases h : (n + 1) / 2 = 1
    · rw [if_pos h]; simp; omega
    · rw [if_neg h]
      have := ih ((n + 1) / 2) (by omega) (first + (n + 1) / 2) (by omega) ((n + 1) / 2) (Nat.le_refl _)
      simp only [List.length_cons]
      omega
theorem levZ_len (a : Int) : (levZ a).length ≤ 2048 := by
  unfold levZ
  by_cases h : a < 1 ∨ 2048 < a
  · rw [if_pos h]; simp
  · rw [if_neg h]
    have := levF_len a.toNat 0 (by omega) a.toNat (Nat.le_refl _)
    omega
theorem verity1_run (d : Nat) (hd : d ≤ 2048) : ∃ k, area_Verity_1.f k d = some ((hashN d : Nat) : Int) := by
  refine ⟨3000, ?_⟩
  have hlen := levZ_len d
  have hsum := hashN_le d
  unfold area_Verity_1.f merkle_Levels.f
  simp only [Option.bind_some, List.length_map]
  have := verity_sum (levZ d) (by omega) (by unfold hashN at hsum; omega) (levZ d).length 0 3000 0 (by omega) (by omega) (by omega) (by simp)
  exact this
theorem verity1_num : numP 20 hashN 2048 := by
  intro d w h1 h2
  obtain ⟨k, hk⟩ := verity1_run d h2
  exact area_Verity_1.calls k d _ w hk
def area_Verity.f (a0 : Int) : Option (Int × Int) :=
  if a0 < 0 ∨ 8192 < a0 then some (0, 0) else some (((bestF hashN 2048 a0.toNat : Nat) : Int), ((if bestF hashN 2048 a0.toNat = 0 then 0 else hashN (bestF hashN 2048 a0.toNat) : Nat) : Int))
set_option maxHeartbeats 2000000 in
theorem area_Verity.calls (a0 : Int) (r1 r2 : Int) (w : World) (h : area_Verity.f a0 = some (r1, r2)) :
    Calls Try.prog 10 #[.int .i64 a0] w fun e w' => e = .returned (.tuple #[.int .i64 r1, .int .i64 r2]) ∧ Below w.heap.size w w' := by
  have HC : Aside0 (∀ w, Calls Try.prog 18 #[.int .i64 a0, .int .i64 2048, .func (.func 20) #[] #[]] w fun e w' => e = .returned (.tuple #[.int .i64 r1, .int .i64 r2]) ∧ Below w.heap.size w w') := by
    refine ⟨fun w => ?_⟩
    unfold area_Verity.f at h
    by_cases hc : a0 < 0 ∨ 8192 < a0
    · rw [if_pos hc] at h
      obtain ⟨rfl, rfl⟩ := Prod.mk.inj (Option.some.inj h)
      exact best_out 20 2048 a0 hc w
    · rw [if_neg hc] at h
      obtain ⟨rfl, rfl⟩ := Prod.mk.inj (Option.some.inj h)
      have := best_calls 20 (enters_of Try.func20 (by kernel_rfl) rfl) hashN 2048 verity1_num (by decide) (fun d hd => by have := hashN_le d; omega) a0.toNat _ (by omega) rfl w
      rw [Int.toNat_of_nonneg (by omega)] at this
      exact this
  clear h
  go_enter Try.func10, Try.ntmps10
  go_wp2_with (go_at_call 18; refine (HC.out _).mono ?_; rintro e w1 ⟨rfl, hb⟩; have HB := Aside0.mk hb; clear hb)
  go_ret2
  exact ⟨rfl, HB.out⟩

end Go.Proofs.Ytligdimpdcloeaa.P
