/- More sectors are no loss: with one sector more there is as much room for data, or one more, and a store has as many slots, or one more; at every number. -/
import Derived.Test.YtligdimpdcloeaaPcofferdamlaw12AreaMore
import Derived.Test.YtligdimpdcloeaaAreaVal
namespace Go.Proofs.Ytligdimpdcloeaa.Pure
open Go.RowKit Go.Proofs.Ytligdimpdcloeaa.P Go.Proofs.YtligdimpdcloeaaW.PrintWords Go.Proofs.YtligdimpdcloeaaW.PrintLast
set_option linter.unusedVariables false
set_option linter.unusedSimpArgs false

theorem more_w (a : Nat) (h : a ≤ 1000000) : wrap64 ((a : Int) + 1) = ((a + 1 : Nat) : Int) := by unfold wrap64; omega
theorem more_j0 (n k : Nat) (hn : n ≤ 8191) (o c : Int) : cofferdamlaw12_AreaMore.j0 (k + 2) n o c false = some true := by
  have hI := integ_v n (by omega)
  have hI' := integ_v (n + 1) (by omega)
  have hV := verity_v n (by omega)
  have hV' := verity_v (n + 1) (by omega)
  have hi := best_more (fun d => (d + 3) / 4) 8192 n (fun a b _ h _ => by show (a + 3) / 4 ≤ (b + 3) / 4; omega)
  have hv := best_more hashN 2048 n hashN_mono
  have bi := (integ_spec n).1
  have bv := (verity_spec n).1
  obtain ⟨t, s, u, v, hS, hS', hs1, hs2, hs3, hs4⟩ := store_more k n hn o c
  generalize bestF (fun d => (d + 3) / 4) 8192 n = A at *
  generalize bestF (fun d => (d + 3) / 4) 8192 (n + 1) = B at *
  generalize bestF hashN 2048 n = C at *
  generalize bestF hashN 2048 (n + 1) = D at *
  have e1 : (B : Int) ≥ (A : Int) := by clear hI hI' hV hV' hS hS'; omega
  have e2 : (B : Int) ≤ ((A + 1 : Nat) : Int) := by clear hI hI' hV hV' hS hS'; omega
  have e3 : (D : Int) ≥ (C : Int) := by clear hI hI' hV hV' hS hS'; omega
  have e4 : (D : Int) ≤ ((C + 1 : Nat) : Int) := by clear hI hI' hV hV' hS hS'; omega
  have e5 : (v : Int) ≥ (s : Int) := by clear hI hI' hV hV' hS hS'; omega
  have e6 : (v : Int) ≤ ((s + 1 : Nat) : Int) := by clear hI hI' hV hV' hS hS'; omega
  have w1 := more_w n (by clear hI hI' hV hV' hS hS'; omega)
  have w2 := more_w A (by clear hI hI' hV hV' hS hS' w1; omega)
  have w3 := more_w C (by clear hI hI' hV hV' hS hS' w1 w2; omega)
  have w4 := more_w s (by clear hI hI' hV hV' hS hS' w1 w2 w3; omega)
  rw [cofferdamlaw12_AreaMore.j0, if_neg (by decide), w1, hI, hI', hV, hV', hS, hS']
  unfold cofferdamlaw12_alive.f
  simp only [Option.bind_some]
  rw [w2, w3, w4, if_pos True.intro, if_pos e1, if_pos e2, if_pos e3, if_pos e4, if_pos e5, if_pos e6]
  clear w1 w2 w3 w4
  by_cases h0 : (s : Int) = 0
  · rw [if_pos h0]
  · rw [if_neg h0]
    have : t = u := by omega
    subst this
    rw [beq_self_eq_true]
theorem AreaMore : cofferdamlaw12_AreaMore.Pure := by
  intro a o c ha ho hc
  refine ⟨2, ?_⟩
  unfold cofferdamlaw12_AreaMore.f
  by_cases h : a < 0
  · rw [if_pos h]
    rfl
  · rw [if_neg h]
    by_cases h2 : a > 8191
    · rw [decide_eq_true h2]
      rfl
    · rw [decide_eq_false h2]
      obtain ⟨n, rfl⟩ : ∃ m : Nat, a = m := ⟨a.toNat, by omega⟩
      exact more_j0 n 0 (by omega) o c
end Go.Proofs.Ytligdimpdcloeaa.Pure
