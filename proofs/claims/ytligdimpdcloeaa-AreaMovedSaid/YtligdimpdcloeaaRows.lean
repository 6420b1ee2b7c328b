/-
  No cell of these rows narrows 'for every input' (looked for: loops, veiled, ifaces, maps, wideKeys, modest, calm, conditions, laid).
  DERIVED. THE GIVEN ROWS OF THIS SEAT. 5 by the template 'for every input the law returns true; each argument reads behind the call as it read before'; 0 by the template 'total and deterministic' (their statements: YtligdimpdcloeaaTotals.lean).
  GIVEN WITH THE SEED: the statements are not yours to turn. If you find one false, say at which input.
  Laid BY PROGRAM, IN A SANDBOX (cutbox-rows.mjs): the forced cells as the released guide's own fill.sh prints them over the translation f97a1cd113323183… (all of the seat's roots in one cut). By AI agents, Wed Nov 11 2026. No macro, syntax, notation, axiom, sorry.
-/
import Derived.Test.YtligdimpdcloeaaChecked
import GoSem.Claim
import GoSem.ClaimJoined
import GoSem.ClaimMapViews
import Derived.JoinedTies
import Derived.KernelRfl
namespace Go.Proofs.Ytligdimpdcloeaa
/- THE CELL 'sum', in the pinned program and in every row, IS THE sha256 OF THE DUMP (.gsa) THAT YtligdimpdcloeaaProg.lean LOADS. Nothing in Lean hashes anything: it is a label: what it is worth is what the hold of that sum in a sandbox is worth. -/
noncomputable def Try.pinned : Pinned := { name := "ytligdimpdcloeaa", sum := "f97a1cd1133231836e068547533c309f1d37559343dd9155a209d01e99a40588", checked := Try.checked }
namespace Rows
def none {H : Type} : Left H := { results := [], args := [] }

/-- 'cofferdamlaw12.AreaSizes': WHATEVER THE INPUT: true; the input reads as it did. -/
def areaSizesSpec : ChangeSpec := { name := "areaSizes", fn := fun _ => fun
  | [d1, d2, d3] => { results := [.lit (.bool true)], args := [d1, d2, d3] }
  | _ => none }
def areaSizesRow : OpenClaim := { program := "ytligdimpdcloeaa", sum := "f97a1cd1133231836e068547533c309f1d37559343dd9155a209d01e99a40588", func := "cofferdam/cofferdamlaw12.AreaSizes", spec := "areaSizes", unfollowed := true, recurses := true, apart := false }
def AreaSizesSaid : Prop := areaSizesRow.holds Try.pinned (OpenSpec.ofChange areaSizesSpec)

/-- ITS FALSE NEIGHBOUR: 'it returns false'. Refute it at one input. -/
def areaSizesWrong : ChangeSpec := { name := "areaSizes", fn := fun _ => fun
  | [d1, d2, d3] => { results := [.lit (.bool false)], args := [d1, d2, d3] }
  | _ => none }
def AreaSizesWrongFalsely : Prop := areaSizesRow.holds Try.pinned (OpenSpec.ofChange areaSizesWrong)

/-- 'cofferdamlaw12.AreaOverlaps': WHATEVER THE INPUT: true; the input reads as it did. -/
def areaOverlapsSpec : ChangeSpec := { name := "areaOverlaps", fn := fun _ => fun
  | [d] => { results := [.lit (.bool true)], args := [d] }
  | _ => none }
def areaOverlapsRow : OpenClaim := { program := "ytligdimpdcloeaa", sum := "f97a1cd1133231836e068547533c309f1d37559343dd9155a209d01e99a40588", func := "cofferdam/cofferdamlaw12.AreaOverlaps", spec := "areaOverlaps", unfollowed := true, recurses := true, apart := false }
def AreaOverlapsSaid : Prop := areaOverlapsRow.holds Try.pinned (OpenSpec.ofChange areaOverlapsSpec)

/-- ITS FALSE NEIGHBOUR: 'it returns false'. Refute it at one input. -/
def areaOverlapsWrong : ChangeSpec := { name := "areaOverlaps", fn := fun _ => fun
  | [d] => { results := [.lit (.bool false)], args := [d] }
  | _ => none }
def AreaOverlapsWrongFalsely : Prop := areaOverlapsRow.holds Try.pinned (OpenSpec.ofChange areaOverlapsWrong)

/-- 'cofferdamlaw12.AreaBest': WHATEVER THE INPUT: true; the input reads as it did. -/
def areaBestSpec : ChangeSpec := { name := "areaBest", fn := fun _ => fun
  | [d] => { results := [.lit (.bool true)], args := [d] }
  | _ => none }
def areaBestRow : OpenClaim := { program := "ytligdimpdcloeaa", sum := "f97a1cd1133231836e068547533c309f1d37559343dd9155a209d01e99a40588", func := "cofferdam/cofferdamlaw12.AreaBest", spec := "areaBest", unfollowed := true, recurses := true, apart := false }
def AreaBestSaid : Prop := areaBestRow.holds Try.pinned (OpenSpec.ofChange areaBestSpec)

/-- ITS FALSE NEIGHBOUR: 'it returns false'. Refute it at one input. -/
def areaBestWrong : ChangeSpec := { name := "areaBest", fn := fun _ => fun
  | [d] => { results := [.lit (.bool false)], args := [d] }
  | _ => none }
def AreaBestWrongFalsely : Prop := areaBestRow.holds Try.pinned (OpenSpec.ofChange areaBestWrong)

/-- 'cofferdamlaw12.AreaMore': WHATEVER THE INPUT: true; the input reads as it did. -/
def areaMoreSpec : ChangeSpec := { name := "areaMore", fn := fun _ => fun
  | [d1, d2, d3] => { results := [.lit (.bool true)], args := [d1, d2, d3] }
  | _ => none }
def areaMoreRow : OpenClaim := { program := "ytligdimpdcloeaa", sum := "f97a1cd1133231836e068547533c309f1d37559343dd9155a209d01e99a40588", func := "cofferdam/cofferdamlaw12.AreaMore", spec := "areaMore", unfollowed := true, recurses := true, apart := false }
def AreaMoreSaid : Prop := areaMoreRow.holds Try.pinned (OpenSpec.ofChange areaMoreSpec)

/-- ITS FALSE NEIGHBOUR: 'it returns false'. Refute it at one input. -/
def areaMoreWrong : ChangeSpec := { name := "areaMore", fn := fun _ => fun
  | [d1, d2, d3] => { results := [.lit (.bool false)], args := [d1, d2, d3] }
  | _ => none }
def AreaMoreWrongFalsely : Prop := areaMoreRow.holds Try.pinned (OpenSpec.ofChange areaMoreWrong)

/-- 'cofferdamlaw12.AreaMoved': WHATEVER THE INPUT: true; the input reads as it did. -/
def areaMovedSpec : ChangeSpec := { name := "areaMoved", fn := fun _ => fun
  | [d1, d2] => { results := [.lit (.bool true)], args := [d1, d2] }
  | _ => none }
def areaMovedRow : OpenClaim := { program := "ytligdimpdcloeaa", sum := "f97a1cd1133231836e068547533c309f1d37559343dd9155a209d01e99a40588", func := "cofferdam/cofferdamlaw12.AreaMoved", spec := "areaMoved", unfollowed := true, recurses := true, apart := false }
def AreaMovedSaid : Prop := areaMovedRow.holds Try.pinned (OpenSpec.ofChange areaMovedSpec)

/-- ITS FALSE NEIGHBOUR: 'it returns false'. Refute it at one input. -/
def areaMovedWrong : ChangeSpec := { name := "areaMoved", fn := fun _ => fun
  | [d1, d2] => { results := [.lit (.bool false)], args := [d1, d2] }
  | _ => none }
def AreaMovedWrongFalsely : Prop := areaMovedRow.holds Try.pinned (OpenSpec.ofChange areaMovedWrong)

/- THE SECOND FORM. 'bulk': how many values and letters a reading holds, each counted each time it is reached (what is shared counts as often as it is met; a slice's spare places count too). A statement '..UptoSaid' is the law's where the arguments, and the package variables that the reading takes, are together of bulk at most 1048576: NARROWER than '..Said'. Prove '..Said' where nothing that the law and all that it calls make is longer than what came in: it says more and counts as full. Else prove '..UptoSaid'. A law counts once. -/
mutual
def uptoBulk {H : Type} : DataW H → Nat
  | .lit (.string bytes) => bytes.length + 1
  | .lit _ => 1
  | .nil => 1
  | .ptr d => uptoBulk d + 1
  | .slice elems spare => uptoBulkAll elems + uptoBulkAll spare + 1
  | .agg parts => uptoBulkAll parts + 1
  | .iface _ d => uptoBulk d + 1
  | .map entries => uptoBulkEntries entries + 1
  | .held _ => 1
def uptoBulkAll {H : Type} : List (DataW H) → Nat
  | [] => 0
  | d :: r => uptoBulk d + uptoBulkAll r
def uptoBulkEntries {H : Type} : List (Lit × DataW H) → Nat
  | [] => 0
  | x :: r => uptoBulkEntry x + uptoBulkEntries r
def uptoBulkEntry {H : Type} : Lit × DataW H → Nat
  | (.string bytes, d) => bytes.length + uptoBulk d + 1
  | (_, d) => uptoBulk d + 1
 end
def uptoSmall : (H : Type) → List (DataW H) → Bool := fun _ ds => decide (uptoBulkAll ds ≤ 1048576)
def OpenSpec.upto (s : _root_.Go.ChangeSpec) : _root_.Go.OpenSpec := { _root_.Go.OpenSpec.ofChange s with cond := some uptoSmall }

/-- 'cofferdamlaw12.AreaSizes', WHERE WHAT IT READS IS OF BULK AT MOST 1048576: true; the input reads as it did. -/
def areaSizesUptoRow : OpenClaim := { program := "ytligdimpdcloeaa", sum := "f97a1cd1133231836e068547533c309f1d37559343dd9155a209d01e99a40588", func := "cofferdam/cofferdamlaw12.AreaSizes", spec := "areaSizes", unfollowed := true, recurses := true, apart := false, narrowed := true }
def AreaSizesUptoSaid : Prop := areaSizesUptoRow.holds Try.pinned (OpenSpec.upto areaSizesSpec)

/-- 'cofferdamlaw12.AreaOverlaps', WHERE WHAT IT READS IS OF BULK AT MOST 1048576: true; the input reads as it did. -/
def areaOverlapsUptoRow : OpenClaim := { program := "ytligdimpdcloeaa", sum := "f97a1cd1133231836e068547533c309f1d37559343dd9155a209d01e99a40588", func := "cofferdam/cofferdamlaw12.AreaOverlaps", spec := "areaOverlaps", unfollowed := true, recurses := true, apart := false, narrowed := true }
def AreaOverlapsUptoSaid : Prop := areaOverlapsUptoRow.holds Try.pinned (OpenSpec.upto areaOverlapsSpec)

/-- 'cofferdamlaw12.AreaBest', WHERE WHAT IT READS IS OF BULK AT MOST 1048576: true; the input reads as it did. -/
def areaBestUptoRow : OpenClaim := { program := "ytligdimpdcloeaa", sum := "f97a1cd1133231836e068547533c309f1d37559343dd9155a209d01e99a40588", func := "cofferdam/cofferdamlaw12.AreaBest", spec := "areaBest", unfollowed := true, recurses := true, apart := false, narrowed := true }
def AreaBestUptoSaid : Prop := areaBestUptoRow.holds Try.pinned (OpenSpec.upto areaBestSpec)

/-- 'cofferdamlaw12.AreaMore', WHERE WHAT IT READS IS OF BULK AT MOST 1048576: true; the input reads as it did. -/
def areaMoreUptoRow : OpenClaim := { program := "ytligdimpdcloeaa", sum := "f97a1cd1133231836e068547533c309f1d37559343dd9155a209d01e99a40588", func := "cofferdam/cofferdamlaw12.AreaMore", spec := "areaMore", unfollowed := true, recurses := true, apart := false, narrowed := true }
def AreaMoreUptoSaid : Prop := areaMoreUptoRow.holds Try.pinned (OpenSpec.upto areaMoreSpec)

/-- 'cofferdamlaw12.AreaMoved', WHERE WHAT IT READS IS OF BULK AT MOST 1048576: true; the input reads as it did. -/
def areaMovedUptoRow : OpenClaim := { program := "ytligdimpdcloeaa", sum := "f97a1cd1133231836e068547533c309f1d37559343dd9155a209d01e99a40588", func := "cofferdam/cofferdamlaw12.AreaMoved", spec := "areaMoved", unfollowed := true, recurses := true, apart := false, narrowed := true }
def AreaMovedUptoSaid : Prop := areaMovedUptoRow.holds Try.pinned (OpenSpec.upto areaMovedSpec)

end Rows
end Go.Proofs.Ytligdimpdcloeaa
