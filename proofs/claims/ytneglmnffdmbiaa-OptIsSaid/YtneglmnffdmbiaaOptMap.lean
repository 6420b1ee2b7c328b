import Derived.Test.YtneglmnffdmbiaaProg
import Derived.Maps.OwnOps
import Derived.Maps.Views
import Derived.Maps.Keyed
import Derived.KernelRfl
namespace Go.Proofs.Ytneglmnffdmbiaa.P
open Go.Maps (Keyed)
set_option linter.unusedVariables false
set_option linter.unusedSimpArgs false

theorem key3 : Keyed Try.prog 3 := Maps.int_keyed Try.underlying3
/-- How many numbers below N are in the set. -/
def cnt (V : Int → Bool) (N : Nat) : Nat := (List.range N).countP (fun i : Nat => V (i : Int))
theorem cnt_le (V : Int → Bool) (N : Nat) : cnt V N ≤ N := by
  unfold cnt
  exact Nat.le_trans List.countP_le_length (by simp)
def vput (V : Int → Bool) (i : Int) : Int → Bool := fun k => if k = i then true else V k
theorem cnt_put (V : Int → Bool) (i : Int) (hV : V i = false) : ∀ N : Nat, cnt (vput V i) N = cnt V N + (if 0 ≤ i ∧ i < (N : Int) then 1 else 0)
  | 0 => by rw [if_neg (by omega)]; rfl
  | N + 1 => by
    have ih := cnt_put V i hV N
    unfold cnt at ih ⊢
    rw [List.range_succ, List.countP_append, List.countP_append, ih]
    by_cases h : (N : Int) = i
    · have h1 : vput V i (N : Int) = true := by simp [vput, h]
      have h2 : V (N : Int) = false := by rw [h]; exact hV
      rw [if_neg (by omega), if_pos (by omega)]
      simp [h1, h2]
    · have h1 : vput V i (N : Int) = V (N : Int) := by simp [vput, h]
      have h3 : (0 ≤ i ∧ i < ((N + 1 : Nat) : Int)) ↔ (0 ≤ i ∧ i < (N : Int)) := by omega
      simp only [h3, List.countP_cons, List.countP_nil, h1]
      omega
/-- The map at block b says V of every number; it holds no more entries than there are numbers in the set below N. -/
def BMap (w : World) (b N : Nat) (V : Int → Bool) : Prop :=
  ∃ (n : Nat) (D : DataW Unit), n ≤ cnt V N ∧ w.ownsMap Try.prog 3 (plainElem Try.prog 4) b n D ∧ Maps.IsMap D ∧ ∀ i, (Lit.int .i64 i).wf = true → D.atKey (.int .i64 i) (.lit (.bool false)) = .lit (.bool (V i))
/-- The map at block b holds V of every number; it has been stored into at most n times. -/
def IMap (w : World) (b n : Nat) (V : Int → Int) : Prop :=
  ∃ D : DataW Unit, w.ownsMap Try.prog 3 (plainElem Try.prog 3) b n D ∧ Maps.IsMap D ∧ ∀ i, (Lit.int .i64 i).wf = true → D.atKey (.int .i64 i) (.lit (.int .i64 0)) = .lit (.int .i64 (V i))
theorem bmap_made (w : World) (N : Nat) : BMap (w.alloc (.map #[] 0)) w.heap.size N (fun _ => false) := ⟨0, _, Nat.zero_le _, World.ownsMap_made w Try.prog 3 _, Maps.isMap_empty, fun i _ => rfl⟩
theorem imap_made (w : World) : IMap (w.alloc (.map #[] 0)) w.heap.size 0 (fun _ => 0) := ⟨_, World.ownsMap_made w Try.prog 3 _, Maps.isMap_empty, fun i _ => rfl⟩
theorem BMap.kept {w w' : World} {b n : Nat} {V : Int → Bool} {row : Option Nat} (h : BMap w b n V) (hg : w.grownBy w' row) (hne : some b ≠ row) : BMap w' b n V := by
  obtain ⟨n, D, hn, ho, hm, hv⟩ := h
  exact ⟨n, D, hn, ho.kept hg hne, hm, hv⟩
theorem IMap.kept {w w' : World} {b n : Nat} {V : Int → Int} {row : Option Nat} (h : IMap w b n V) (hg : w.grownBy w' row) (hne : some b ≠ row) : IMap w' b n V := by
  obtain ⟨D, ho, hm, hv⟩ := h
  exact ⟨D, ho.kept hg hne, hm, hv⟩
theorem BMap.lt {w : World} {b n : Nat} {V : Int → Bool} (h : BMap w b n V) : b < w.heap.size := by
  obtain ⟨n, D, hn, ho, hm, hv⟩ := h
  exact ho.lt
theorem IMap.lt {w : World} {b n : Nat} {V : Int → Int} (h : IMap w b n V) : b < w.heap.size := by
  obtain ⟨D, ho, hm, hv⟩ := h
  exact ho.lt
theorem IMap.mono {w : World} {b n n' : Nat} {V : Int → Int} (h : IMap w b n V) (hn : n ≤ n') : IMap w b n' V := by
  obtain ⟨D, ho, hm, hv⟩ := h
  exact ⟨D, ho.mono hn, hm, hv⟩
theorem inf4 : (Try.prog.info? 4).map (fun i => i.zero) = some (some (.bool false)) := by kernel_rfl
theorem inf3 : (Try.prog.info? 3).map (fun i => i.zero) = some (some (.int .i64 0)) := by kernel_rfl
theorem zero_of {t : TypeId} {v : Value} (h : (Try.prog.info? t).map (fun i => i.zero) = some (some v)) (w : World) : (zeroValue t).run Try.prog w = .ok v w := by
  obtain ⟨i0, hi, hz⟩ := Option.map_eq_some_iff.1 h
  simp [zeroValue, typeInfo, hi, hz]
theorem BMap.lookup {w : World} {b n : Nat} {V : Int → Bool} (h : BMap w b n V) (i : Int) (hi : (Lit.int .i64 i).wf = true) : (Instr.lookup 43 (.map (some b)) (.int .i64 i) false).run Try.prog w = .ok (.bool (V i)) w := by
  obtain ⟨n, D, hn, ho, hm, hv⟩ := h
  obtain ⟨v, ps, hrun, hR⟩ := ho.lookup key3 Try.underlying43 (zero_of inf4 w) (plainElem_bool Try.underlying4 false) (Maps.keyOf_int_mk Try.underlying3 hi)
  rw [hv i hi] at hR
  rw [hrun]
  have : v = .bool (V i) := by
    cases v <;> simp_all [plainElem, Try.underlying4]
  rw [this]
theorem IMap.lookup {w : World} {b n : Nat} {V : Int → Int} (h : IMap w b n V) (i : Int) (hi : (Lit.int .i64 i).wf = true) : (Instr.lookup 45 (.map (some b)) (.int .i64 i) false).run Try.prog w = .ok (.int .i64 (V i)) w := by
  obtain ⟨D, ho, hm, hv⟩ := h
  obtain ⟨c, hrun, hat, _⟩ := ho.lookup_int key3 Try.underlying45 Try.underlying3 (zero_of inf3 w) (Maps.keyOf_int_mk Try.underlying3 hi)
  rw [hv i hi] at hat
  rw [hrun]
  injection hat with hat
  injection hat with _ hat
  rw [hat]
theorem BMap.store {w : World} {b N : Nat} {V : Int → Bool} (h : BMap w b N V) (i : Int) (hi : (Lit.int .i64 i).wf = true) (h0 : 0 ≤ i) (h1 : i < (N : Int)) (hV : V i = false) (hN : N ≤ 100000) :
    ∃ w', (Instr.mapUpdate 43 (.map (some b)) (.int .i64 i) (.bool true)).run Try.prog w = .ok () w' ∧ BMap w' b N (vput V i) ∧ w.grownBy w' (some b) := by
  obtain ⟨n, D, hn, ho, hm, hv⟩ := h
  have hc := cnt_put V i hV N
  rw [if_pos ⟨h0, h1⟩] at hc
  have hle := cnt_le V N
  obtain ⟨w', hrun, ho', hg⟩ := ho.update key3 Try.underlying43 (by simp only [maxLen]; omega) (Maps.keyOf_int_mk Try.underlying3 hi) (plainElem_bool Try.underlying4 true)
  refine ⟨w', hrun, ⟨n + 1, _, by omega, ho', hm.put _ _, fun k hk => ?_⟩, hg⟩
  by_cases hki : k = i
  · rw [hki, Maps.atKey_put_same hm (by trivial)]
    simp [vput]
  · rw [Maps.atKey_put_other (by intro e; injection e with _ e; exact hki e), hv k hk]
    simp [vput, hki]
theorem IMap.store {w : World} {b n : Nat} {V : Int → Int} (h : IMap w b n V) (i c : Int) (hi : (Lit.int .i64 i).wf = true) (hc : (Lit.int .i64 c).wf = true) (hN : n ≤ 100000) :
    ∃ w', (Instr.mapUpdate 45 (.map (some b)) (.int .i64 i) (.int .i64 c)).run Try.prog w = .ok () w' ∧ IMap w' b (n + 1) (fun k => if k = i then c else V k) ∧ w.grownBy w' (some b) := by
  obtain ⟨D, ho, hm, hv⟩ := h
  obtain ⟨w', hrun, ho', hg⟩ := ho.update key3 Try.underlying45 (by simp only [maxLen]; omega) (Maps.keyOf_int_mk Try.underlying3 hi) (plainElem_int Try.underlying3 hc)
  refine ⟨w', hrun, ⟨_, ho', hm.put _ _, fun k hk => ?_⟩, hg⟩
  by_cases hki : k = i
  · rw [hki, Maps.atKey_put_same hm (by trivial)]
    simp
  · rw [Maps.atKey_put_other (by intro e; injection e with _ e; exact hki e), hv k hk]
    simp [hki]
end Go.Proofs.Ytneglmnffdmbiaa.P
