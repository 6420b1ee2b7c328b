/- Proved here: ranges that are all moved alike, or whose devices are all named otherwise, share as they did, at any ranges. -/
import Derived.Test.YtligdimpdcloeaaRows
import Derived.Test.YtligdimpdcloeaaMoved3
import Derived.Test.YtligdimpdcloeaaAgain
import Derived.WalkKit
import Derived.ProofKit
import Derived.OpenShut
import Derived.ShutString
import Derived.ChangeOld
import Derived.Below
import Derived.SizedLaws
namespace Go.Proofs.Ytligdimpdcloeaa.areaMoved
open Go.ChangeShapes Go.WideShapes Go.ChangeAt Go.RowKit
set_option linter.unusedVariables false
theorem own : ownKnob Try.prog.godebug = none := by kernel_rfl
theorem walk {H : Type} {enc : TypeId × Value → H} (v : Value) (by0 : Int) (hw : (Lit.int .i64 by0).wf = true) (W : World) (d : DataW H) (ps : List MemPlace) (h : DataW.Trod enc Try.prog W 0 (fun _ => true) true 27 v d ps) (hs : ∃ A n c, v = .slice A n c) :
    Calls Try.prog 7 #[v, .int .i64 by0] W fun e w' => e = .returned (.bool true) ∧ Below W.heap.size W w' := by
  have hr := bounds_i64 hw
  have key : ∀ x : Int, 0 ≤ x → 0 ≤ Int.tmod x 1000 ∧ Int.tmod x 1000 < 1000 := fun x hx => ⟨Int.tmod_nonneg _ hx, Int.tmod_lt_of_pos _ (by decide)⟩
  rcases P.open_r3 h hs with rfl | ⟨a, c, l, rfl, hl, hc, hr3, _⟩
  · by_cases h0 : by0 < 0
    · exact P.moved_nil_neg by0 h0 hr.1 _ rfl (key _ (by omega)) W
    · exact P.moved_nil_pos by0 (by omega) hr.2 _ rfl (key _ (by omega)) W
  · by_cases h0 : by0 < 0
    · exact P.moved_neg a c l hl hc by0 h0 hr.1 _ rfl (key _ (by omega)) W hr3
    · exact P.moved_pos a c l hl hc by0 (by omega) hr.2 _ rfl (key _ (by omega)) W hr3
set_option maxRecDepth 100000 in
theorem lifted (os : Os) (started : os.Started) (H : Type) (enc : TypeId × Value → H) :
    ReturnsInHanded {} Try.checked os 7 .any (Rows.areaMovedSpec.pre6 enc Try.prog Try.f7 Rows.areaMovedRow.domain false) (Rows.areaMovedSpec.post enc Try.prog Try.f7 false true false false) := by
  refine returnsInHanded_of_change_sized (C := Try.checked) own started (by kernel_rfl) Try.func7
    (ChangeSpec.witness6 (enc := enc) (C := Try.checked) false ⟨#[], #[.slice none 0 0, .int .i64 0], []⟩ 8 (by kernel_rfl) (by kernel_rfl) (by kernel_rfl) (by kernel_rfl)) ?_
  intro W base args ds gs before hval0 hW hcnd hsz0 _
  have hval : ∀ (j : Nat) t v, Try.f7.params[j]? = some t → args[j]? = some v → Value.okWide Try.prog W .any base t v := hval0
  have hW' := hW
  obtain ⟨p, q, hA0, hV, rfl, hfz, hnd⟩ := hW
  have hA : DataW.TrodAll enc Try.prog W 0 (fun _ => true) true Try.f7.params.toList args.toList ds p := hA0
  have hT : ∀ t ∈ Try.f7.params.toList, t < Try.prog.types.size := of_decide_eq_true (by kernel_rfl)
  have hAk := fun (W' : World) (hb : Below W.heap.size W W') => Rd.again hT hA hb
  rw [Try.params7] at hA hval
  obtain ⟨v0, vs0, d0, ds0, p0, q0, hargs, rfl, rfl, h0, r0⟩ := trodAll_cons hA
  obtain ⟨v1, vs1, d1, ds1, p1, q1, rfl, rfl, rfl, h1, r1⟩ := trodAll_cons r0
  obtain ⟨rfl, rfl, rfl⟩ := trodAll_nil r1
  obtain rfl : args = #[v0, v1] := by cases args; simp_all
  obtain ⟨rfl, rfl⟩ := trodVars_none hV
  obtain ⟨A0, n0, c0, rfl⟩ := okWide_slice Try.underlying27 (hval 0 27 v0 rfl rfl)
  obtain ⟨a1, rfl, rfl, rfl, w1⟩ := open_int Try.underlying3 (hval 1 3 v1 rfl rfl) h1
  clear hA0 hval0 hsz0
  refine (walk _ a1 w1 W d0 p0 h0 ⟨A0, n0, c0, rfl⟩).mono fun e W' ⟨he, bel⟩ => ?_
  subst he
  exact ⟨_, rfl, _, _, _, [], _, [], hW', trodAll_mk1 (shut_bool Try.underlying4 _), hAk W' bel, rfl, bel.frame _, fun h => by cases h⟩
theorem over : Rows.areaMovedRow.holds Try.pinned (OpenSpec.ofChange Rows.areaMovedSpec) :=
  OpenClaim.holds_of_wide 7 Try.f7 rfl rfl rfl rfl rfl rfl rfl ⟨rfl, rfl, rfl, rfl, rfl⟩ rfl rfl rfl rfl rfl (by kernel_rfl) Try.func7 (by kernel_rfl)
    (of_decide_eq_true (by kernel_rfl)) (by unfold Func.isWrapper; first | (rw [if_pos (by decide +kernel)]; kernel_rfl) | (rw [if_neg (by decide +kernel)]; exact ⟨rfl, rfl⟩))
    (fun os started H enc _ => lifted os started H enc)
theorem proved : Rows.AreaMovedSaid := over
#print axioms proved
end Go.Proofs.Ytligdimpdcloeaa.areaMoved
namespace Go.Proofs.Ytligdimpdcloeaa
/-- The row, under a short name, for the claim. -/
theorem areaMoved_holds : Rows.AreaMovedSaid := areaMoved.proved
end Go.Proofs.Ytligdimpdcloeaa
