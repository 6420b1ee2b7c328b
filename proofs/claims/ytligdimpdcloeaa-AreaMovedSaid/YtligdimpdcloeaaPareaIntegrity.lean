/- Proved here: what the functions named below compute (or, in a text Law.., that the law holds), at every argument that the theorems' own premises allow. Written by a program of this session over the kit's printer; Lean checks it. -/
import Derived.Test.YtligdimpdcloeaaP0
import Derived.Test.YtligdimpdcloeaaBest1
namespace Go.Proofs.Ytligdimpdcloeaa.P
open Go.RowKit Go.Proofs.YtligdimpdcloeaaW.PrintWords Go.Proofs.YtligdimpdcloeaaW.PrintLast Go.Proofs.YtligdimpdcloeaaW.PrintMore
attribute [local go_sem] max2_int min2_int max_two min_two max_three min_three max_four min_four   -- for this text's walks alone
set_option linter.unusedVariables false
set_option linter.unusedSimpArgs false

/-! ### area_Integrity: function 8 -/
-- IMPORTS Derived.Test.YtligdimpdcloeaaBest1
set_option maxHeartbeats 2000000 in
theorem best_out (g : Nat) (lim : Nat) (n : Int) (hn : n < 0 ∨ 8192 < n) (w : World) :
    Calls Try.prog 18 #[.int .i64 n, .int .i64 lim, .func (.func g) #[] #[]] w fun e w' => e = .returned (.tuple #[.int .i64 0, .int .i64 0]) ∧ Below w.heap.size w w' := by
  rcases hn with hn | hn
  · have c1 : decide (n < 0) = true := decide_eq_true hn
    go_enter Try.func18, Try.ntmps18
    go_wp2
    go_ret2
    exact ⟨rfl, alloc2_below _ _ _⟩
  · have c1 : decide (n < 0) = false := decide_eq_false (by omega)
    have c2 : decide (n > 8192) = true := decide_eq_true hn
    have c3 : decide (8192 < n) = true := decide_eq_true hn
    go_enter Try.func18, Try.ntmps18
    go_wp2
    go_ret2
    exact ⟨rfl, alloc2_below _ _ _⟩
set_option maxHeartbeats 2000000 in
theorem integ1 (lim : Nat) (hlim : lim ≤ 100000) : numP 19 (fun d => (d + 3) / 4) lim := by
  intro d w h1 h2
  have c1 : ((d : Int) + 3) / 4 = (((d + 3) / 4 : Nat) : Int) := by omega
  go_enter Try.func19, Try.ntmps19
  go_wp2
  go_ret
  exact ⟨by simp only [← c1]; rfl, Below.refl _ _⟩
def area_Integrity.f (a0 : Int) : Option (Int × Int) :=
  if a0 < 0 ∨ 8192 < a0 then some (0, 0) else some (((bestF (fun d => (d + 3) / 4) 8192 a0.toNat : Nat) : Int), (((bestF (fun d => (d + 3) / 4) 8192 a0.toNat + 3) / 4 : Nat) : Int))
set_option maxHeartbeats 2000000 in
theorem area_Integrity.calls (a0 : Int) (r1 r2 : Int) (w : World) (h : area_Integrity.f a0 = some (r1, r2)) :
    Calls Try.prog 8 #[.int .i64 a0] w fun e w' => e = .returned (.tuple #[.int .i64 r1, .int .i64 r2]) ∧ Below w.heap.size w w' := by
  have HC : Aside0 (∀ w, Calls Try.prog 18 #[.int .i64 a0, .int .i64 8192, .func (.func 19) #[] #[]] w fun e w' => e = .returned (.tuple #[.int .i64 r1, .int .i64 r2]) ∧ Below w.heap.size w w') := by
    refine ⟨fun w => ?_⟩
    unfold area_Integrity.f at h
    by_cases hc : a0 < 0 ∨ 8192 < a0
    · rw [if_pos hc] at h
      obtain ⟨rfl, rfl⟩ := Prod.mk.inj (Option.some.inj h)
      exact best_out 19 8192 a0 hc w
    · rw [if_neg hc] at h
      obtain ⟨rfl, rfl⟩ := Prod.mk.inj (Option.some.inj h)
      have := best_calls 19 (enters_of Try.func19 (by kernel_rfl) rfl) (fun d => (d + 3) / 4) 8192 (integ1 8192 (by decide)) (by decide) (fun d hd => by show (d + 3) / 4 ≤ 1000000; omega) a0.toNat _ (by omega) rfl w
      rw [Int.toNat_of_nonneg (by omega)] at this
      refine this.mono fun e w' ⟨he, hb⟩ => ⟨?_, hb⟩
      rw [he]
      generalize bestF (fun d => (d + 3) / 4) 8192 a0.toNat = D
      by_cases hD : D = 0
      · subst hD; rfl
      · rw [if_neg hD]
  clear h
  go_enter Try.func8, Try.ntmps8
  go_wp2_with (go_at_call 18; refine (HC.out _).mono ?_; rintro e w1 ⟨rfl, hb⟩; have HB := Aside0.mk hb; clear hb)
  go_ret2
  exact ⟨rfl, HB.out⟩

end Go.Proofs.Ytligdimpdcloeaa.P
