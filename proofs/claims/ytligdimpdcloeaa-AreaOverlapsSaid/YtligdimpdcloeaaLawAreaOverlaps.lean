/- Proved here: which ranges share a sector is as the document says, at any ranges. -/
import Derived.Test.YtligdimpdcloeaaRows
import Derived.Test.YtligdimpdcloeaaOverlap3
import Derived.Test.YtligdimpdcloeaaAgain
import Derived.WalkKit
import Derived.ProofKit
import Derived.OpenShut
import Derived.ShutString
import Derived.ChangeOld
import Derived.Below
import Derived.SizedLaws
namespace Go.Proofs.Ytligdimpdcloeaa.areaOverlaps
open Go.ChangeShapes Go.WideShapes Go.ChangeAt Go.RowKit
set_option linter.unusedVariables false
theorem own : ownKnob Try.prog.godebug = none := by kernel_rfl
theorem walk {H : Type} {enc : TypeId × Value → H} (v : Value) (W : World) (d : DataW H) (ps : List MemPlace) (h : DataW.Trod enc Try.prog W 0 (fun _ => true) true 27 v d ps) (hs : ∃ A n c, v = .slice A n c) :
    Calls Try.prog 4 #[v] W fun e w' => e = .returned (.bool true) ∧ Below W.heap.size W w' := by
  rcases P.open_r3 h hs with rfl | ⟨a, c, l, rfl, hl, hc, hr, _⟩
  · exact P.overlaps_nil W
  · exact P.overlaps_some a c l hl hc W hr
set_option maxRecDepth 100000 in
theorem lifted (os : Os) (started : os.Started) (H : Type) (enc : TypeId × Value → H) :
    ReturnsInHanded {} Try.checked os 4 .any (Rows.areaOverlapsSpec.pre6 enc Try.prog Try.f4 Rows.areaOverlapsRow.domain false) (Rows.areaOverlapsSpec.post enc Try.prog Try.f4 false true false false) := by
  refine returnsInHanded_of_change_sized (C := Try.checked) own started (by kernel_rfl) Try.func4
    (ChangeSpec.witness6 (enc := enc) (C := Try.checked) false ⟨#[], #[.slice none 0 0], []⟩ 8 (by kernel_rfl) (by kernel_rfl) (by kernel_rfl) (by kernel_rfl)) ?_
  intro W base args ds gs before hval0 hW hcnd hsz0 _
  have hval : ∀ (j : Nat) t v, Try.f4.params[j]? = some t → args[j]? = some v → Value.okWide Try.prog W .any base t v := hval0
  have hW' := hW
  obtain ⟨p, q, hA0, hV, rfl, hfz, hnd⟩ := hW
  have hA : DataW.TrodAll enc Try.prog W 0 (fun _ => true) true Try.f4.params.toList args.toList ds p := hA0
  have hT : ∀ t ∈ Try.f4.params.toList, t < Try.prog.types.size := of_decide_eq_true (by kernel_rfl)
  have hAk := fun (W' : World) (hb : Below W.heap.size W W') => Rd.again hT hA hb
  rw [Try.params4] at hA hval
  obtain ⟨v0, vs0, d0, ds0, p0, q0, hargs, rfl, rfl, h0, r0⟩ := trodAll_cons hA
  obtain ⟨rfl, rfl, rfl⟩ := trodAll_nil r0
  obtain rfl : args = #[v0] := by cases args; simp_all
  obtain ⟨rfl, rfl⟩ := trodVars_none hV
  obtain ⟨A0, n0, c0, rfl⟩ := okWide_slice Try.underlying27 (hval 0 27 v0 rfl rfl)
  clear hA0 hval0 hsz0
  refine (walk _ W d0 p0 h0 ⟨A0, n0, c0, rfl⟩).mono fun e W' ⟨he, bel⟩ => ?_
  subst he
  exact ⟨_, rfl, _, _, _, [], _, [], hW', trodAll_mk1 (shut_bool Try.underlying4 _), hAk W' bel, rfl, bel.frame _, fun h => by cases h⟩
theorem over : Rows.areaOverlapsRow.holds Try.pinned (OpenSpec.ofChange Rows.areaOverlapsSpec) :=
  OpenClaim.holds_of_wide 4 Try.f4 rfl rfl rfl rfl rfl rfl rfl ⟨rfl, rfl, rfl, rfl, rfl⟩ rfl rfl rfl rfl rfl (by kernel_rfl) Try.func4 (by kernel_rfl)
    (of_decide_eq_true (by kernel_rfl)) (by unfold Func.isWrapper; first | (rw [if_pos (by decide +kernel)]; kernel_rfl) | (rw [if_neg (by decide +kernel)]; exact ⟨rfl, rfl⟩))
    (fun os started H enc _ => lifted os started H enc)
theorem proved : Rows.AreaOverlapsSaid := over
#print axioms proved
end Go.Proofs.Ytligdimpdcloeaa.areaOverlaps
namespace Go.Proofs.Ytligdimpdcloeaa
/-- The row, under a short name, for the claim. -/
theorem areaOverlaps_holds : Rows.AreaOverlapsSaid := areaOverlaps.proved
end Go.Proofs.Ytligdimpdcloeaa
