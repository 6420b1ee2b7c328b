import Derived.Test.YtneglmnffdmbiaaOptPh1
import Derived.Test.YtneglmnffdmbiaaOptWalk
namespace Go.Proofs.Ytneglmnffdmbiaa.P
open Go.RowKit Go.Proofs.YtneglmnffdmbiaaW.PrintWords Go.Proofs.YtneglmnffdmbiaaW.PrintLast Go.Proofs.YtneglmnffdmbiaaW.PrintMore
set_option linter.unusedVariables false
set_option linter.unusedSimpArgs false

/-! what opt.Optimize makes of a plan -/
open Classical in
noncomputable def liveV (L : List S34) (r : Int) : Int → Bool := fun k => decide (Rch L r k)
theorem liveV_iff (L : List S34) (r k : Int) : liveV L r k = true ↔ Rch L r k := by unfold liveV; simp
/-- The new number of a step that stays. -/
def cntI (V : Int → Bool) (k : Int) : Int := (cnt V k.toNat : Int)
def renE (V : Int → Bool) (x : S36) : S36 := { x with f2 := cntI V x.f2 }
def ren (V : Int → Bool) (t : S34) : S34 := { t with f4 := t.f4.map (cntI V), f3 := t.f3.map (renE V) }
def idxV (V : Int → Bool) (n : Nat) : List Nat := (List.range n).filter (fun i : Nat => V (i : Int))
def optG (L : List S34) (V : Int → Bool) : List S34 := (idxV V L.length).map (fun i : Nat => ren V (rd_T34 L (i : Int)))
noncomputable def optV (L0 : List S34) (root : Int) : Int → Bool := liveV (opt1 L0).1 (rd (opt1 L0).2 root)
noncomputable def optL (L0 : List S34) (root : Int) : List S34 := optG (opt1 L0).1 (optV L0 root)
noncomputable def optR (L0 : List S34) (root : Int) : Int := cntI (optV L0 root) (rd (opt1 L0).2 root)
theorem idxV_succ (V : Int → Bool) (n : Nat) : idxV V (n + 1) = if V (n : Int) = true then idxV V n ++ [n] else idxV V n := by
  unfold idxV
  rw [List.range_succ, List.filter_append]
  by_cases h : V (n : Int) = true
  · rw [if_pos h]; simp [h]
  · rw [if_neg h]; simp [h]
theorem idxV_len (V : Int → Bool) (n : Nat) : (idxV V n).length = cnt V n := by
  unfold idxV cnt
  rw [List.countP_eq_length_filter]
/-- What is asked of a plan that is made smaller. -/
structure PlanOk (L0 : List S34) (root : Int) : Prop where
  n : L0.length ≤ 1000
  r0 : 0 ≤ root
  r1 : root < (L0.length : Int)
  add : ∀ i : Nat, i < L0.length → AddOk (opt1 (L0.take i)).1 (opt1 (L0.take i)).2 (rd_T34 L0 (i : Int))
  down : Down (opt1 L0).1
  p0 : 0 ≤ rd (opt1 L0).2 root
  p1 : rd (opt1 L0).2 root < (L0.length : Int)
  l4 : ∀ p : Int, (rd_T34 (opt1 L0).1 p).f4.length ≤ 100000
  l3 : ∀ p : Int, (rd_T34 (opt1 L0).1 p).f3.length ≤ 10000000000
/-- The blocks of opt.Optimize that stay as they are. -/
structure Fr (w W : World) (o rb ov : Nat) (A0 : Option Addr) (n c0 : Nat) (root : Int) (ro : Bool) : Prop where
  p : W.heap[w.heap.size]? = some (.cells #[.slice A0 n c0, .int .i64 root, .bool ro] 24 (0, 0))
  r : W.heap[rb]? = some (.cells #[.slice none 0 0, .int .i64 0, .bool false] 24 (0, 0))
  b : W.heap[ov]? = some (.cells #[.pointer (some ⟨o, 0, none⟩)] 39 (0, 0))
  d : w.heap.size ≠ o ∧ rb ≠ o ∧ ov ≠ o ∧ w.heap.size < rb ∧ w.heap.size < o ∧ w.heap.size < ov ∧ rb ≠ ov
theorem Fr.keep {w W W1 : World} {o rb ov : Nat} {A0 : Option Addr} {n c0 : Nat} {root : Int} {ro : Bool} (h : Fr w W o rb ov A0 n c0 root ro) (hk : ∀ k, k < W.heap.size → k ≠ o → (∀ cells q, W.heap[k]? = some (.cells cells q (0, 0)) → q ≠ 3 ∧ q ≠ 34) → W1.heap[k]? = W.heap[k]?) : Fr w W1 o rb ov A0 n c0 root ro := by
  refine ⟨(hk _ (blk_lt h.p) h.d.1 (fun c q hc => ?_)).trans h.p, (hk _ (blk_lt h.r) h.d.2.1 (fun c q hc => ?_)).trans h.r, (hk _ (blk_lt h.b) h.d.2.2.1 (fun c q hc => ?_)).trans h.b, h.d⟩
  · rw [h.p] at hc
    injection hc with hc
    injection hc with _ hc
    subst hc
    decide
  · rw [h.r] at hc
    injection hc with hc
    injection hc with _ hc
    subst hc
    decide
  · rw [h.b] at hc
    injection hc with hc
    injection hc with _ hc
    subst hc
    decide
theorem Fr.below {w W W1 : World} {o rb ov : Nat} {A0 : Option Addr} {n c0 : Nat} {root : Int} {ro : Bool} (h : Fr w W o rb ov A0 n c0 root ro) (hb : Below W.heap.size W W1) : Fr w W1 o rb ov A0 n c0 root ro := h.keep (fun k hk _ _ => hb.block k hk)
theorem OptS.below {w0 : World} {o : Nat} {W W1 : World} {ps : List (S34 × Lie)} {P : List Int} {sv pv : Value} (h : OptS w0 o W ps P sv pv) (hb : Below W.heap.size W W1) : OptS w0 o W1 ps P sv pv :=
  ⟨blk_below h.at_ hb, h.cs.below hb, pw_own_below h.pl hb, h.st.below hb, h.key, h.nep, h.bel.trans (hb.mono h.bel.size)⟩
end Go.Proofs.Ytneglmnffdmbiaa.P
