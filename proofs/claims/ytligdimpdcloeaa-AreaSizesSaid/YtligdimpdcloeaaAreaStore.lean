/- What area.Store answers, in plain numbers. -/
import Derived.Test.YtligdimpdcloeaaPareaStore
namespace Go.Proofs.Ytligdimpdcloeaa.Pure
open Go.RowKit Go.Proofs.Ytligdimpdcloeaa.P Go.Proofs.YtligdimpdcloeaaW.PrintWords Go.Proofs.YtligdimpdcloeaaW.PrintLast
set_option linter.unusedVariables false
set_option linter.unusedSimpArgs false

theorem wrapS {x : Int} (h : -9223372036854775808 ≤ x) (h2 : x ≤ 9223372036854775807) : wrap64 x = x := by unfold wrap64; omega
theorem sw1 (a b : Nat) (h : a + b ≤ 1000000) : wrap64 ((a : Int) + (b : Int)) = ((a + b : Nat) : Int) := by unfold wrap64; omega
theorem sw2 (a : Nat) (h : a ≤ 1000000) (h1 : 1 ≤ a) : wrap64 ((a : Int) - 1) = ((a - 1 : Nat) : Int) := by unfold wrap64; omega
theorem sw3 (a : Nat) (h : a ≤ 1000000) : wrap64 (a : Int) = (a : Int) := by unfold wrap64; omega
theorem sw4 (a : Nat) (h : a ≤ 1000000) : wrap64 ((a : Int) + 15) = ((a + 15 : Nat) : Int) := by unfold wrap64; omega
theorem sw5 (a b : Nat) (h : a ≤ 1000000) (h2 : b ≤ 1000000) : wrap64 ((a : Int) - (b : Int)) = (a : Int) - (b : Int) := by unfold wrap64; omega
/-- How many chunks; how many sectors the table has; how many slots there are. -/
def stC (o c : Nat) : Nat := (o + c - 1) / c
def stT (o c : Nat) : Nat := (stC o c + 15) / 16
def stS (n o c : Nat) : Nat := min (stC o c) ((n - stT o c) / c)
theorem stC_le (o c : Nat) (ho : o ≤ 8192) (hc : 1 ≤ c) (hc2 : c ≤ 16) : stC o c ≤ 8208 := Nat.le_trans (Nat.div_le_self _ _) (by omega)
theorem stC_pos (o c : Nat) (ho : 1 ≤ o) (hc : 1 ≤ c) : 1 ≤ stC o c := (Nat.le_div_iff_mul_le hc).2 (by omega)
theorem stT_pos (o c : Nat) (ho : 1 ≤ o) (hc : 1 ≤ c) : 1 ≤ stT o c := by
  have := stC_pos o c ho hc
  unfold stT
  omega
theorem tdiv_nat (a b : Nat) : Int.tdiv (a : Int) (b : Int) = ((a / b : Nat) : Int) := rfl
theorem tdiv16 (a : Nat) : Int.tdiv (a : Int) 16 = ((a / 16 : Nat) : Int) := rfl
theorem store_j0 (n o c k : Nat) (hn : n ≤ 8192) (ho : 1 ≤ o) (ho2 : o ≤ 8192) (hc : 1 ≤ c) (hc2 : c ≤ 16) :
    area_Store.j0 (k + 1) n o c false = some (if stS n o c < 1 then (0, 0) else (((stT o c : Nat) : Int), ((stS n o c : Nat) : Int))) := by
  have hC := stC_le o c ho2 hc hc2
  have hT : stT o c ≤ 600 := by unfold stT; omega
  have e1 := sw1 o c (by omega)
  have e2 := sw2 (o + c) (by clear e1; omega) (by clear e1; omega)
  have e3 : Int.tdiv ((o + c - 1 : Nat) : Int) (c : Int) = ((stC o c : Nat) : Int) := rfl
  have e4 := sw3 (stC o c) (by clear e1 e2 e3; omega)
  have e5 := sw4 (stC o c) (by clear e1 e2 e3 e4; omega)
  have e6 : Int.tdiv ((stC o c + 15 : Nat) : Int) 16 = ((stT o c : Nat) : Int) := rfl
  have e7 := sw3 (stT o c) (by clear e1 e2 e3 e4 e5 e6; omega)
  have e8 := sw5 n (stT o c) (by clear e1 e2 e3 e4 e5 e6 e7; omega) (by clear e1 e2 e3 e4 e5 e6 e7; omega)
  have hc0 : ¬ (c : Int) = 0 := by clear e1 e2 e3 e4 e5 e6 e7 e8; omega
  rw [area_Store.j0, if_neg (by decide), if_neg hc0, e1, e2, e3, e4, e5, e6, e7, e8]
  clear e1 e2 e3 e4 e5 e6 e7 e8
  have hS : stS n o c = min (stC o c) ((n - stT o c) / c) := rfl
  generalize stS n o c = S at *
  generalize stC o c = C at *
  generalize stT o c = T at *
  by_cases hnt : T ≤ n
  · have f1 : (n : Int) - (T : Int) = ((n - T : Nat) : Int) := by omega
    have hq : (n - T) / c ≤ n - T := Nat.div_le_self _ _
    have f2 := sw3 ((n - T) / c) (by omega)
    rw [f1, tdiv_nat, f2]
    clear f1 f2
    generalize (n - T) / c = q at *
    have f3 : mn (C : Int) (q : Int) = (S : Int) := by unfold mn; omega
    rw [f3]
    by_cases h1 : S < 1
    · have d1 : (S : Int) < 1 := by omega
      rw [if_pos d1, if_pos h1]
    · have d1 : ¬ (S : Int) < 1 := by omega
      have d2 : ¬ (n : Int) < (T : Int) := by omega
      rw [if_neg d1, if_neg d2, if_neg h1]
  · have f0 : n - T = 0 := by omega
    rw [f0, Nat.zero_div] at hS
    have hS0 : S < 1 := by omega
    have f1 : (n : Int) - (T : Int) = -((T - n : Nat) : Int) := by omega
    have hq : (T - n) / c ≤ T - n := Nat.div_le_self _ _
    have f2 : Int.tdiv (-((T - n : Nat) : Int)) (c : Int) = -(((T - n) / c : Nat) : Int) := by rw [Int.neg_tdiv, tdiv_nat]
    rw [f1, f2]
    generalize (T - n) / c = q at *
    have f3 : wrap64 (-(q : Int)) = -(q : Int) := wrapS (by omega) (by omega)
    rw [f3]
    clear f3
    have d1 : mn (C : Int) (-(q : Int)) < 1 := by unfold mn; omega
    rw [if_pos d1, if_pos hS0]
theorem store_true (k : Nat) (x y z : Int) : area_Store.j0 (k + 1) x y z true = some (0, 0) := by rw [area_Store.j0, if_pos rfl]
end Go.Proofs.Ytligdimpdcloeaa.Pure
