import Derived.RangeFuncBox
import Derived.RangeFuncLeaves
import Derived.RangeFuncFrom
import Derived.Shelf.Abstract
import Derived.WalkKit
import Derived.OwnWalkIn
import Derived.TacticsInMore
import Derived.LoopNIn
import Derived.LoopIn
import Derived.Maps.AppendAt
import Derived.Test.YtligdimpdcloeaaProg
namespace Go.Proofs.Ytligdimpdcloeaa.P
open Go.RowKit Go.Shelf
attribute [local go_sem] Oper.semAt_some
set_option linter.unusedVariables false
set_option linter.unusedSimpArgs false

/-- The levels over n sectors: where each begins, how many it has. -/
def levF : Nat → Nat → Nat → List (Nat × Nat)
  | 0, _, _ => []
  | f + 1, n, first => (first, (n + 1) / 2) :: (if (n + 1) / 2 = 1 then [] else levF f ((n + 1) / 2) (first + (n + 1) / 2))
theorem levF_more : ∀ (f g n first : Nat), n ≤ f → n ≤ g → 1 ≤ n → levF f n first = levF g n first
  | 0, g, n, first, h, _, h1 => by omega
  | f + 1, 0, n, first, _, h, h1 => by omega
  | f + 1, g + 1, n, first, hf, hg, h1 => by
    unfold levF
    by_cases h : (n + 1) / 2 = 1
    · rw [if_pos h, if_pos h]
    · rw [if_neg h, if_neg h, levF_more f g ((n + 1) / 2) _ (by omega) (by omega) (by omega)]
theorem levF_step (c first : Nat) (h : 1 ≤ c) : levF c c first = (first, (c + 1) / 2) :: (if (c + 1) / 2 = 1 then [] else levF ((c + 1) / 2) ((c + 1) / 2) (first + (c + 1) / 2)) := by
  obtain ⟨f, rfl⟩ : ∃ f, c = f + 1 := ⟨c - 1, by omega⟩
  conv => lhs; unfold levF
  by_cases h2 : (f + 1 + 1) / 2 = 1
  · rw [if_pos h2, if_pos h2]
  · rw [if_neg h2, if_neg h2, levF_more f ((f + 1 + 1) / 2) ((f + 1 + 1) / 2) _ (by omega) (by omega) (by omega)]
/-- The number that a cell holds. -/
def cellNat (W : World) (b : Nat) : Nat := match W.cell? ⟨b, 0, none⟩ with | some (.int _ c) => c.toNat | _ => 0

set_option maxRecDepth 100000 in
set_option maxHeartbeats 2000000 in
theorem levels_iter (F : Fence) (n : Nat) (h91 : F.fn 29) (hro : F.round = none) (hn : 1 ≤ n) (l Bn N : Nat) (hN1 : 1 ≤ N) (hN2 : N ≤ 2048) (J : List (Nat × Nat) → Nat → World → Prop)
    (hJcell : ∀ pre v W, J pre v W → Boxed W Bn 3 (.int .i64 v))
    (hJset : ∀ pre v v' W, J pre v W → J pre v' (W.setCell ⟨Bn, 0, none⟩ (.int .i64 v')))
    (hY : ∀ pre first m W, J pre m W → pre.length < 2100 → YieldAt F (n - 1) Try.prog l #[.int .i64 (first : Nat), .int .i64 (m : Nat)] W fun e W' => e = .returned (.bool true) ∧ J (pre ++ [(first, m)]) m W')
    (W : World) (h0 : J [] N W) :
    CallsIn F n Try.prog 29 #[.func (.yield l) #[] #[], .pointer (some ⟨Bn, 0, none⟩)] W fun e W' => (∃ v, e = .returned v) ∧ ∃ v, J (levF N N 0) v W' := by
  have hb0 := hJcell _ _ _ h0
  have hc0 := hb0.cell
  have d1 : decide ((N : Int) < 1) = false := decide_eq_false (by omega)
  have d2 : decide ((N : Int) > 2048) = false := decide_eq_false (by omega)
  refine callsIn_of_wp Try.func29 rfl h91 ?_ hro
  simp only [Try.ntmps29, List.size_toArray, List.length_cons, List.length_nil, Nat.reduceAdd, Nat.reduceSub, Array.replicate_succ, Array.replicate_zero, List.push_toArray, List.append_toArray, List.nil_append, List.cons_append]
  gi_wp2
  clear d1 d2 hc0 hb0
  gi_loopw [3] (fun p wr => ∃ (pre : List (Nat × Nat)) (c first : Nat), p = .int .i64 first ∧ levF N N 0 = pre ++ levF c c first ∧ J pre c wr ∧ 1 ≤ c ∧ pre.length + c ≤ 2048 ∧ first + 2 * c ≤ 10000)
    (fun p wr => cellNat wr Bn)
  case atStart => exact ⟨[], N, 0, rfl, rfl, h0, hN1, by simpa using hN2, by omega⟩
  case round =>
    obtain ⟨pre, c, first, rfl, hL, hJ, hc1, hc2, hfst⟩ := hrel
    have hb := hJcell _ _ _ hJ
    have hcell := hb.cell
    have hfrz := hb.frozen
    have hm : (((c + 1) / 2 : Nat) : Int) = ((c : Int) + 1) / 2 := by omega
    have hJ2 := hJset pre c ((c + 1) / 2) wr hJ
    have hY2 := hY pre first ((c + 1) / 2) _ hJ2 (by omega)
    rw [hm] at hY2
    have hcell2 : (wr.setCell ⟨Bn, 0, none⟩ (.int .i64 (((c : Int) + 1) / 2))).cell? ⟨Bn, 0, none⟩ = some (.int .i64 (((c : Int) + 1) / 2)) := by
      rw [← hm]; exact (hJcell _ _ _ hJ2).cell
    obtain ⟨fn, tmps, assign, body, hy, hR⟩ := hY2
    gi_wp2
    refine hR.mono ?_
    rintro e W3 ⟨rfl, hJ3⟩
    have hb3 := hJcell _ _ _ hJ3
    have hc3 : W3.cell? ⟨Bn, 0, none⟩ = some (.int .i64 (((c : Int) + 1) / 2)) := by rw [← hm]; exact hb3.cell
    have hstep := levF_step c first hc1
    by_cases h1 : (c + 1) / 2 = 1
    · have hd : ((((c : Int) + 1) / 2) == 1) = true := by rw [beq_iff_eq]; omega
      have hd2 : ((c : Int) + 1) / 2 = 1 := by omega
      rw [if_pos h1] at hstep
      rw [hd2] at hc3
      clear hcell hfrz hcell2 hy
      gi_wp2
      refine bodyPost_ret (results_none rfl _ _ _) rfl ?_
      refine ⟨⟨_, rfl⟩, (c + 1) / 2, ?_⟩
      rw [hL, hstep]
      exact hJ3
    · have hd : ((((c : Int) + 1) / 2) == 1) = false := by rw [beq_eq_false_iff_ne]; omega
      rw [if_neg h1] at hstep
      have hw : ((first + (c + 1) / 2 : Nat) : Int) = (first : Int) + ((c : Int) + 1) / 2 := by omega
      have hmeas : cellNat W3 Bn < cellNat wr Bn := by
        unfold cellNat
        rw [hc3, hcell]
        simp only
        omega
      clear hcell hfrz hcell2 hy
      gi_wp2
      go_roundw
      case rel => exact ⟨pre ++ [(first, (c + 1) / 2)], (c + 1) / 2, first + (c + 1) / 2, by rw [hw], by rw [hL, hstep]; simp, hJ3, by omega, by simp; omega, by omega⟩
      case measure => exact hmeas
/-- The levels over any number of sectors. -/
def levZ (a : Int) : List (Nat × Nat) := if a < 1 ∨ 2048 < a then [] else levF a.toNat a.toNat 0
set_option maxRecDepth 100000 in
set_option maxHeartbeats 2000000 in
theorem levels_iterZ (F : Fence) (n : Nat) (h91 : F.fn 29) (hro : F.round = none) (hn : 1 ≤ n) (l Bn : Nat) (N : Int) (J : List (Nat × Nat) → Int → World → Prop)
    (hJcell : ∀ pre v W, J pre v W → Boxed W Bn 3 (.int .i64 v))
    (hJset : ∀ pre v v' W, J pre v W → J pre v' (W.setCell ⟨Bn, 0, none⟩ (.int .i64 v')))
    (hY : ∀ pre (first m : Nat) W, J pre m W → pre.length < 2100 → YieldAt F (n - 1) Try.prog l #[.int .i64 (first : Nat), .int .i64 (m : Nat)] W fun e W' => e = .returned (.bool true) ∧ J (pre ++ [(first, m)]) m W')
    (W : World) (h0 : J [] N W) :
    CallsIn F n Try.prog 29 #[.func (.yield l) #[] #[], .pointer (some ⟨Bn, 0, none⟩)] W fun e W' => (∃ v, e = .returned v) ∧ ∃ v, J (levZ N) v W' := by
  unfold levZ
  by_cases hc : N < 1 ∨ 2048 < N
  · rw [if_pos hc]
    have hb0 := hJcell _ _ _ h0
    have hc0 := hb0.cell
    refine callsIn_of_wp Try.func29 rfl h91 ?_ hro
    simp only [Try.ntmps29, List.size_toArray, List.length_cons, List.length_nil, Nat.reduceAdd, Nat.reduceSub, Array.replicate_succ, Array.replicate_zero, List.push_toArray, List.append_toArray, List.nil_append, List.cons_append]
    rcases Int.lt_or_le N 1 with h | h
    · have d1 : decide (N < 1) = true := decide_eq_true h
      gi_wp2
      refine bodyPost_ret (results_none rfl _ _ _) rfl ?_
      exact ⟨⟨_, rfl⟩, N, h0⟩
    · have d1 : decide (N < 1) = false := decide_eq_false (by omega)
      have d2 : decide (N > 2048) = true := decide_eq_true (by omega)
      have d3 : decide (2048 < N) = true := decide_eq_true (by omega)
      gi_wp2
      refine bodyPost_ret (results_none rfl _ _ _) rfl ?_
      exact ⟨⟨_, rfl⟩, N, h0⟩
  · rw [if_neg hc]
    obtain ⟨M, rfl⟩ : ∃ M : Nat, N = M := ⟨N.toNat, by omega⟩
    rw [Int.toNat_natCast]
    refine (levels_iter F n h91 hro hn l Bn M (by omega) (by omega) (fun pre v W => J pre (v : Int) W) (fun pre v W h => hJcell pre v W h) (fun pre v v' W h => hJset pre v v' W h) hY W h0).mono ?_
    rintro e W' ⟨hv, v, hj⟩
    exact ⟨hv, v, hj⟩
end Go.Proofs.Ytligdimpdcloeaa.P
