/- Proved here: a plan whose root is laid into a Concat that is all of it, or one that is cut into two pieces of it, becomes what it becomes without, whatever the plan, the devices and the cut. No condition. -/
import Derived.Test.YtneglmnffdmbiaaRows
import Derived.Test.YtneglmnffdmbiaaOptLw
import Derived.Test.YtneglmnffdmbiaaOptOpen
import Derived.Test.YtneglmnffdmbiaaAgain
import Derived.WalkKit
import Derived.ProofKit
import Derived.OpenShut
import Derived.ShutString
import Derived.ChangeOld
import Derived.Below
import Derived.SizedLaws
namespace Go.Proofs.Ytneglmnffdmbiaa.optWrapped
open Go.ChangeShapes Go.WideShapes Go.ChangeAt Go.RowKit
set_option linter.unusedVariables false
theorem own : ownKnob Try.prog.godebug = none := by kernel_rfl
set_option maxRecDepth 100000 in
theorem lifted (os : Os) (started : os.Started) (H : Type) (enc : TypeId × Value → H) :
    ReturnsInHanded {} Try.checked os 5 .any (Rows.optWrappedSpec.pre6 enc Try.prog Try.f5 Rows.optWrappedRow.domain false) (Rows.optWrappedSpec.post enc Try.prog Try.f5 false true false false) := by
  refine returnsInHanded_of_change_sized (C := Try.checked) own started (by kernel_rfl) Try.func5
    (ChangeSpec.witness6 (enc := enc) (C := Try.checked) false ⟨#[], #[.agg #[.slice none 0 0, .int .i64 0, .bool false], .slice none 0 0, .int .i64 0], []⟩ 8 (by kernel_rfl) (by kernel_rfl) (by kernel_rfl) (by kernel_rfl)) ?_
  intro W base args ds gs before hval0 hW hcnd hsz0 _
  have hval : ∀ (j : Nat) t v, Try.f5.params[j]? = some t → args[j]? = some v → Value.okWide Try.prog W .any base t v := hval0
  have hW' := hW
  obtain ⟨p, q, hA0, hV, rfl, hfz, hnd⟩ := hW
  have hA : DataW.TrodAll enc Try.prog W 0 (fun _ => true) true Try.f5.params.toList args.toList ds p := hA0
  have hT : ∀ t ∈ Try.f5.params.toList, t < Try.prog.types.size := of_decide_eq_true (by kernel_rfl)
  have hAk := fun (W' : World) (hb : Below W.heap.size W W') => Rd.again hT hA hb
  rw [Try.params5] at hA hval
  obtain ⟨v0, vs0, d0, ds0, p0, q0, hargs, rfl, rfl, h0, r0⟩ := trodAll_cons hA
  obtain ⟨v1, vs1, d1, ds1, p1, q1, rfl, rfl, rfl, h1, r1⟩ := trodAll_cons r0
  obtain ⟨v2, vs2, d2, ds2, p2, q2, rfl, rfl, rfl, h2, r2⟩ := trodAll_cons r1
  obtain ⟨rfl, rfl, rfl⟩ := trodAll_nil r2
  obtain rfl : args = #[v0, v1, v2] := by cases args; simp_all
  obtain ⟨rfl, rfl⟩ := trodVars_none hV
  obtain ⟨cs0, e0, _⟩ := okWide_struct Try.underlying24 (hval 0 24 v0 rfl rfl)
  obtain ⟨A1, n1, c1, e1⟩ := okWide_slice Try.underlying25 (hval 1 25 v1 rfl rfl)
  obtain ⟨n2, e2⟩ := okWide_int Try.underlying3 (hval 2 3 v2 rfl rfl)
  obtain ⟨A, c, L, root, ro, g0, hc, hC⟩ := P.open_plan h0 ⟨cs0, e0⟩
  obtain ⟨D, cd, dv, g1, hcd, hcd2, hD⟩ := P.open_ints h1 ⟨A1, n1, c1, e1⟩
  obtain ⟨cut, g2, hcut⟩ := P.open_num h2 ⟨n2, e2⟩
  clear hA0 hval0 hsz0 e0 e1 e2 hval
  subst g0 g1 g2
  refine (P.wrapped_calls A c L root ro D cd dv cut W hC hc hD hcd (Nat.le_trans hcd hcd2) hcut).mono fun e W' ⟨he, bel⟩ => ?_
  subst he
  exact ⟨_, rfl, _, _, _, [], _, [], hW', trodAll_mk1 (shut_bool Try.underlying4 _), hAk W' bel, rfl, bel.frame _, fun h => by cases h⟩
theorem over : Rows.optWrappedRow.holds Try.pinned (OpenSpec.ofChange Rows.optWrappedSpec) :=
  OpenClaim.holds_of_wide 5 Try.f5 rfl rfl rfl rfl rfl rfl rfl ⟨rfl, rfl, rfl, rfl, rfl⟩ rfl rfl rfl rfl rfl (by kernel_rfl) Try.func5 (by kernel_rfl)
    (of_decide_eq_true (by kernel_rfl)) (by unfold Func.isWrapper; first | (rw [if_pos (by decide +kernel)]; kernel_rfl) | (rw [if_neg (by decide +kernel)]; exact ⟨rfl, rfl⟩))
    (fun os started H enc _ => lifted os started H enc)
theorem proved : Rows.OptWrappedSaid := over
#print axioms proved
end Go.Proofs.Ytneglmnffdmbiaa.optWrapped
namespace Go.Proofs.Ytneglmnffdmbiaa
/-- The row, under a short name, for the claim. -/
theorem optWrapped_holds : Rows.OptWrappedSaid := optWrapped.proved
end Go.Proofs.Ytneglmnffdmbiaa
