/-
  No cell of these rows narrows 'for every input' (looked for: loops, veiled, ifaces, maps, wideKeys, modest, calm, conditions, laid).
  DERIVED. THE GIVEN ROWS OF THIS SEAT. 10 by the template 'for every input the law returns true; each argument reads behind the call as it read before'; 0 by the template 'total and deterministic' (their statements: YtocclfjddihmbaaTotals.lean).
  GIVEN WITH THE SEED: the statements are not yours to turn. If you find one false, say at which input.
  Laid BY PROGRAM, IN A SANDBOX (cutbox-rows.mjs): the forced cells as the released guide's own fill.sh prints them over the translation d5cc5045dd3be6ef… (all of the seat's roots in one cut). By AI agents, Wed Nov 11 2026. No macro, syntax, notation, axiom, sorry.
-/
import Derived.Test.YtocclfjddihmbaaChecked
import GoSem.Claim
import GoSem.ClaimJoined
import GoSem.ClaimMapViews
import Derived.JoinedTies
import Derived.KernelRfl
namespace Go.Proofs.Ytocclfjddihmbaa
/- THE CELL 'sum', in the pinned program and in every row, IS THE sha256 OF THE DUMP (.gsa) THAT YtocclfjddihmbaaProg.lean LOADS. Nothing in Lean hashes anything: it is a label: what it is worth is what the hold of that sum in a sandbox is worth. -/
noncomputable def Try.pinned : Pinned := { name := "ytocclfjddihmbaa", sum := "d5cc5045dd3be6efc1fd57effac0d5bad287e8f4ce5cdeec9f9b1638c9ab2a30", checked := Try.checked }
namespace Rows
def none {H : Type} : Left H := { results := [], args := [] }

/-- 'cofferdamlaw12.AreaSizes': WHATEVER THE INPUT: true; the input reads as it did. -/
def areaSizesSpec : ChangeSpec := { name := "areaSizes", fn := fun _ => fun
  | [d1, d2, d3] => { results := [.lit (.bool true)], args := [d1, d2, d3] }
  | _ => none }
def areaSizesRow : OpenClaim := { program := "ytocclfjddihmbaa", sum := "d5cc5045dd3be6efc1fd57effac0d5bad287e8f4ce5cdeec9f9b1638c9ab2a30", func := "cofferdam/cofferdamlaw12.AreaSizes", spec := "areaSizes", unfollowed := true, recurses := true, apart := false }
def AreaSizesSaid : Prop := areaSizesRow.holds Try.pinned (OpenSpec.ofChange areaSizesSpec)

/-- ITS FALSE NEIGHBOUR: 'it returns false'. Refute it at one input. -/
def areaSizesWrong : ChangeSpec := { name := "areaSizes", fn := fun _ => fun
  | [d1, d2, d3] => { results := [.lit (.bool false)], args := [d1, d2, d3] }
  | _ => none }
def AreaSizesWrongFalsely : Prop := areaSizesRow.holds Try.pinned (OpenSpec.ofChange areaSizesWrong)

/-- 'cofferdamlaw12.AreaOverlaps': WHATEVER THE INPUT: true; the input reads as it did. -/
def areaOverlapsSpec : ChangeSpec := { name := "areaOverlaps", fn := fun _ => fun
  | [d] => { results := [.lit (.bool true)], args := [d] }
  | _ => none }
def areaOverlapsRow : OpenClaim := { program := "ytocclfjddihmbaa", sum := "d5cc5045dd3be6efc1fd57effac0d5bad287e8f4ce5cdeec9f9b1638c9ab2a30", func := "cofferdam/cofferdamlaw12.AreaOverlaps", spec := "areaOverlaps", unfollowed := true, recurses := true, apart := false }
def AreaOverlapsSaid : Prop := areaOverlapsRow.holds Try.pinned (OpenSpec.ofChange areaOverlapsSpec)

/-- ITS FALSE NEIGHBOUR: 'it returns false'. Refute it at one input. -/
def areaOverlapsWrong : ChangeSpec := { name := "areaOverlaps", fn := fun _ => fun
  | [d] => { results := [.lit (.bool false)], args := [d] }
  | _ => none }
def AreaOverlapsWrongFalsely : Prop := areaOverlapsRow.holds Try.pinned (OpenSpec.ofChange areaOverlapsWrong)

/-- 'cofferdamlaw12.AreaBest': WHATEVER THE INPUT: true; the input reads as it did. -/
def areaBestSpec : ChangeSpec := { name := "areaBest", fn := fun _ => fun
  | [d] => { results := [.lit (.bool true)], args := [d] }
  | _ => none }
def areaBestRow : OpenClaim := { program := "ytocclfjddihmbaa", sum := "d5cc5045dd3be6efc1fd57effac0d5bad287e8f4ce5cdeec9f9b1638c9ab2a30", func := "cofferdam/cofferdamlaw12.AreaBest", spec := "areaBest", unfollowed := true, recurses := true, apart := false }
def AreaBestSaid : Prop := areaBestRow.holds Try.pinned (OpenSpec.ofChange areaBestSpec)

/-- ITS FALSE NEIGHBOUR: 'it returns false'. Refute it at one input. -/
def areaBestWrong : ChangeSpec := { name := "areaBest", fn := fun _ => fun
  | [d] => { results := [.lit (.bool false)], args := [d] }
  | _ => none }
def AreaBestWrongFalsely : Prop := areaBestRow.holds Try.pinned (OpenSpec.ofChange areaBestWrong)

/-- 'cofferdamlaw12.AreaMore': WHATEVER THE INPUT: true; the input reads as it did. -/
def areaMoreSpec : ChangeSpec := { name := "areaMore", fn := fun _ => fun
  | [d1, d2, d3] => { results := [.lit (.bool true)], args := [d1, d2, d3] }
  | _ => none }
def areaMoreRow : OpenClaim := { program := "ytocclfjddihmbaa", sum := "d5cc5045dd3be6efc1fd57effac0d5bad287e8f4ce5cdeec9f9b1638c9ab2a30", func := "cofferdam/cofferdamlaw12.AreaMore", spec := "areaMore", unfollowed := true, recurses := true, apart := false }
def AreaMoreSaid : Prop := areaMoreRow.holds Try.pinned (OpenSpec.ofChange areaMoreSpec)

/-- ITS FALSE NEIGHBOUR: 'it returns false'. Refute it at one input. -/
def areaMoreWrong : ChangeSpec := { name := "areaMore", fn := fun _ => fun
  | [d1, d2, d3] => { results := [.lit (.bool false)], args := [d1, d2, d3] }
  | _ => none }
def AreaMoreWrongFalsely : Prop := areaMoreRow.holds Try.pinned (OpenSpec.ofChange areaMoreWrong)

/-- 'cofferdamlaw12.AreaMoved': WHATEVER THE INPUT: true; the input reads as it did. -/
def areaMovedSpec : ChangeSpec := { name := "areaMoved", fn := fun _ => fun
  | [d1, d2] => { results := [.lit (.bool true)], args := [d1, d2] }
  | _ => none }
def areaMovedRow : OpenClaim := { program := "ytocclfjddihmbaa", sum := "d5cc5045dd3be6efc1fd57effac0d5bad287e8f4ce5cdeec9f9b1638c9ab2a30", func := "cofferdam/cofferdamlaw12.AreaMoved", spec := "areaMoved", unfollowed := true, recurses := true, apart := false }
def AreaMovedSaid : Prop := areaMovedRow.holds Try.pinned (OpenSpec.ofChange areaMovedSpec)

/-- ITS FALSE NEIGHBOUR: 'it returns false'. Refute it at one input. -/
def areaMovedWrong : ChangeSpec := { name := "areaMoved", fn := fun _ => fun
  | [d1, d2] => { results := [.lit (.bool false)], args := [d1, d2] }
  | _ => none }
def AreaMovedWrongFalsely : Prop := areaMovedRow.holds Try.pinned (OpenSpec.ofChange areaMovedWrong)

/-- 'cofferdamlaw10.LexAgain': WHATEVER THE INPUT: true; the input reads as it did. -/
def lexAgainSpec : ChangeSpec := { name := "lexAgain", fn := fun _ => fun
  | [d] => { results := [.lit (.bool true)], args := [d] }
  | _ => none }
def lexAgainRow : OpenClaim := { program := "ytocclfjddihmbaa", sum := "d5cc5045dd3be6efc1fd57effac0d5bad287e8f4ce5cdeec9f9b1638c9ab2a30", func := "cofferdam/cofferdamlaw10.LexAgain", spec := "lexAgain", inPlace := ["internal/bytealg.IndexByteString"], unfollowed := true, recurses := true, apart := false }
def LexAgainSaid : Prop := lexAgainRow.holds Try.pinned (OpenSpec.ofChange lexAgainSpec)

/-- ITS FALSE NEIGHBOUR: 'it returns false'. Refute it at one input. -/
def lexAgainWrong : ChangeSpec := { name := "lexAgain", fn := fun _ => fun
  | [d] => { results := [.lit (.bool false)], args := [d] }
  | _ => none }
def LexAgainWrongFalsely : Prop := lexAgainRow.holds Try.pinned (OpenSpec.ofChange lexAgainWrong)

/-- 'cofferdamlaw10.LexPlaces': WHATEVER THE INPUT: true; the input reads as it did. -/
def lexPlacesSpec : ChangeSpec := { name := "lexPlaces", fn := fun _ => fun
  | [d] => { results := [.lit (.bool true)], args := [d] }
  | _ => none }
def lexPlacesRow : OpenClaim := { program := "ytocclfjddihmbaa", sum := "d5cc5045dd3be6efc1fd57effac0d5bad287e8f4ce5cdeec9f9b1638c9ab2a30", func := "cofferdam/cofferdamlaw10.LexPlaces", spec := "lexPlaces", inPlace := ["internal/bytealg.IndexByteString"], unfollowed := true, recurses := true, apart := false }
def LexPlacesSaid : Prop := lexPlacesRow.holds Try.pinned (OpenSpec.ofChange lexPlacesSpec)

/-- ITS FALSE NEIGHBOUR: 'it returns false'. Refute it at one input. -/
def lexPlacesWrong : ChangeSpec := { name := "lexPlaces", fn := fun _ => fun
  | [d] => { results := [.lit (.bool false)], args := [d] }
  | _ => none }
def LexPlacesWrongFalsely : Prop := lexPlacesRow.holds Try.pinned (OpenSpec.ofChange lexPlacesWrong)

/-- 'cofferdamlaw10.LexJoined': WHATEVER THE INPUT: true; the input reads as it did. -/
def lexJoinedSpec : ChangeSpec := { name := "lexJoined", fn := fun _ => fun
  | [d1, d2] => { results := [.lit (.bool true)], args := [d1, d2] }
  | _ => none }
def lexJoinedRow : OpenClaim := { program := "ytocclfjddihmbaa", sum := "d5cc5045dd3be6efc1fd57effac0d5bad287e8f4ce5cdeec9f9b1638c9ab2a30", func := "cofferdam/cofferdamlaw10.LexJoined", spec := "lexJoined", inPlace := ["internal/bytealg.IndexByteString"], unfollowed := true, recurses := true, apart := false }
def LexJoinedSaid : Prop := lexJoinedRow.holds Try.pinned (OpenSpec.ofChange lexJoinedSpec)

/-- ITS FALSE NEIGHBOUR: 'it returns false'. Refute it at one input. -/
def lexJoinedWrong : ChangeSpec := { name := "lexJoined", fn := fun _ => fun
  | [d1, d2] => { results := [.lit (.bool false)], args := [d1, d2] }
  | _ => none }
def LexJoinedWrongFalsely : Prop := lexJoinedRow.holds Try.pinned (OpenSpec.ofChange lexJoinedWrong)

/-- 'cofferdamlaw10.LexNotes': WHATEVER THE INPUT: true; the input reads as it did. -/
def lexNotesSpec : ChangeSpec := { name := "lexNotes", fn := fun _ => fun
  | [d1, d2] => { results := [.lit (.bool true)], args := [d1, d2] }
  | _ => none }
def lexNotesRow : OpenClaim := { program := "ytocclfjddihmbaa", sum := "d5cc5045dd3be6efc1fd57effac0d5bad287e8f4ce5cdeec9f9b1638c9ab2a30", func := "cofferdam/cofferdamlaw10.LexNotes", spec := "lexNotes", inPlace := ["internal/bytealg.IndexByteString"], unfollowed := true, recurses := true, apart := false }
def LexNotesSaid : Prop := lexNotesRow.holds Try.pinned (OpenSpec.ofChange lexNotesSpec)

/-- ITS FALSE NEIGHBOUR: 'it returns false'. Refute it at one input. -/
def lexNotesWrong : ChangeSpec := { name := "lexNotes", fn := fun _ => fun
  | [d1, d2] => { results := [.lit (.bool false)], args := [d1, d2] }
  | _ => none }
def LexNotesWrongFalsely : Prop := lexNotesRow.holds Try.pinned (OpenSpec.ofChange lexNotesWrong)

/-- 'cofferdamlaw10.LexReserved': WHATEVER THE INPUT: true; the input reads as it did. -/
def lexReservedSpec : ChangeSpec := { name := "lexReserved", fn := fun _ => fun
  | [d] => { results := [.lit (.bool true)], args := [d] }
  | _ => none }
def lexReservedRow : OpenClaim := { program := "ytocclfjddihmbaa", sum := "d5cc5045dd3be6efc1fd57effac0d5bad287e8f4ce5cdeec9f9b1638c9ab2a30", func := "cofferdam/cofferdamlaw10.LexReserved", spec := "lexReserved", inPlace := ["internal/bytealg.IndexByteString", "internal/bytealg.IndexString"], unfollowed := true, recurses := true, named := ["internal/bytealg.MaxLen"], apart := false }
def LexReservedSaid : Prop := lexReservedRow.holds Try.pinned (OpenSpec.ofChange lexReservedSpec)

/-- ITS FALSE NEIGHBOUR: 'it returns false'. Refute it at one input. -/
def lexReservedWrong : ChangeSpec := { name := "lexReserved", fn := fun _ => fun
  | [d] => { results := [.lit (.bool false)], args := [d] }
  | _ => none }
def LexReservedWrongFalsely : Prop := lexReservedRow.holds Try.pinned (OpenSpec.ofChange lexReservedWrong)

/- THE SECOND FORM. 'bulk': how many values and letters a reading holds, each counted each time it is reached (what is shared counts as often as it is met; a slice's spare places count too). A statement '..UptoSaid' is the law's where the arguments, and the package variables that the reading takes, are together of bulk at most 1048576: NARROWER than '..Said'. Prove '..Said' where nothing that the law and all that it calls make is longer than what came in: it says more and counts as full. Else prove '..UptoSaid'. A law counts once. -/
mutual
def uptoBulk {H : Type} : DataW H → Nat
  | .lit (.string bytes) => bytes.length + 1
  | .lit _ => 1
  | .nil => 1
  | .ptr d => uptoBulk d + 1
  | .slice elems spare => uptoBulkAll elems + uptoBulkAll spare + 1
  | .agg parts => uptoBulkAll parts + 1
  | .iface _ d => uptoBulk d + 1
  | .map entries => uptoBulkEntries entries + 1
  | .held _ => 1
def uptoBulkAll {H : Type} : List (DataW H) → Nat
  | [] => 0
  | d :: r => uptoBulk d + uptoBulkAll r
def uptoBulkEntries {H : Type} : List (Lit × DataW H) → Nat
  | [] => 0
  | x :: r => uptoBulkEntry x + uptoBulkEntries r
def uptoBulkEntry {H : Type} : Lit × DataW H → Nat
  | (.string bytes, d) => bytes.length + uptoBulk d + 1
  | (_, d) => uptoBulk d + 1
 end
def uptoSmall : (H : Type) → List (DataW H) → Bool := fun _ ds => decide (uptoBulkAll ds ≤ 1048576)
def OpenSpec.upto (s : _root_.Go.ChangeSpec) : _root_.Go.OpenSpec := { _root_.Go.OpenSpec.ofChange s with cond := some uptoSmall }

/-- 'cofferdamlaw12.AreaSizes', WHERE WHAT IT READS IS OF BULK AT MOST 1048576: true; the input reads as it did. -/
def areaSizesUptoRow : OpenClaim := { program := "ytocclfjddihmbaa", sum := "d5cc5045dd3be6efc1fd57effac0d5bad287e8f4ce5cdeec9f9b1638c9ab2a30", func := "cofferdam/cofferdamlaw12.AreaSizes", spec := "areaSizes", unfollowed := true, recurses := true, apart := false, narrowed := true }
def AreaSizesUptoSaid : Prop := areaSizesUptoRow.holds Try.pinned (OpenSpec.upto areaSizesSpec)

/-- 'cofferdamlaw12.AreaOverlaps', WHERE WHAT IT READS IS OF BULK AT MOST 1048576: true; the input reads as it did. -/
def areaOverlapsUptoRow : OpenClaim := { program := "ytocclfjddihmbaa", sum := "d5cc5045dd3be6efc1fd57effac0d5bad287e8f4ce5cdeec9f9b1638c9ab2a30", func := "cofferdam/cofferdamlaw12.AreaOverlaps", spec := "areaOverlaps", unfollowed := true, recurses := true, apart := false, narrowed := true }
def AreaOverlapsUptoSaid : Prop := areaOverlapsUptoRow.holds Try.pinned (OpenSpec.upto areaOverlapsSpec)

/-- 'cofferdamlaw12.AreaBest', WHERE WHAT IT READS IS OF BULK AT MOST 1048576: true; the input reads as it did. -/
def areaBestUptoRow : OpenClaim := { program := "ytocclfjddihmbaa", sum := "d5cc5045dd3be6efc1fd57effac0d5bad287e8f4ce5cdeec9f9b1638c9ab2a30", func := "cofferdam/cofferdamlaw12.AreaBest", spec := "areaBest", unfollowed := true, recurses := true, apart := false, narrowed := true }
def AreaBestUptoSaid : Prop := areaBestUptoRow.holds Try.pinned (OpenSpec.upto areaBestSpec)

/-- 'cofferdamlaw12.AreaMore', WHERE WHAT IT READS IS OF BULK AT MOST 1048576: true; the input reads as it did. -/
def areaMoreUptoRow : OpenClaim := { program := "ytocclfjddihmbaa", sum := "d5cc5045dd3be6efc1fd57effac0d5bad287e8f4ce5cdeec9f9b1638c9ab2a30", func := "cofferdam/cofferdamlaw12.AreaMore", spec := "areaMore", unfollowed := true, recurses := true, apart := false, narrowed := true }
def AreaMoreUptoSaid : Prop := areaMoreUptoRow.holds Try.pinned (OpenSpec.upto areaMoreSpec)

/-- 'cofferdamlaw12.AreaMoved', WHERE WHAT IT READS IS OF BULK AT MOST 1048576: true; the input reads as it did. -/
def areaMovedUptoRow : OpenClaim := { program := "ytocclfjddihmbaa", sum := "d5cc5045dd3be6efc1fd57effac0d5bad287e8f4ce5cdeec9f9b1638c9ab2a30", func := "cofferdam/cofferdamlaw12.AreaMoved", spec := "areaMoved", unfollowed := true, recurses := true, apart := false, narrowed := true }
def AreaMovedUptoSaid : Prop := areaMovedUptoRow.holds Try.pinned (OpenSpec.upto areaMovedSpec)

/-- 'cofferdamlaw10.LexAgain', WHERE WHAT IT READS IS OF BULK AT MOST 1048576: true; the input reads as it did. -/
def lexAgainUptoRow : OpenClaim := { program := "ytocclfjddihmbaa", sum := "d5cc5045dd3be6efc1fd57effac0d5bad287e8f4ce5cdeec9f9b1638c9ab2a30", func := "cofferdam/cofferdamlaw10.LexAgain", spec := "lexAgain", inPlace := ["internal/bytealg.IndexByteString"], unfollowed := true, recurses := true, apart := false, narrowed := true }
def LexAgainUptoSaid : Prop := lexAgainUptoRow.holds Try.pinned (OpenSpec.upto lexAgainSpec)

/-- 'cofferdamlaw10.LexPlaces', WHERE WHAT IT READS IS OF BULK AT MOST 1048576: true; the input reads as it did. -/
def lexPlacesUptoRow : OpenClaim := { program := "ytocclfjddihmbaa", sum := "d5cc5045dd3be6efc1fd57effac0d5bad287e8f4ce5cdeec9f9b1638c9ab2a30", func := "cofferdam/cofferdamlaw10.LexPlaces", spec := "lexPlaces", inPlace := ["internal/bytealg.IndexByteString"], unfollowed := true, recurses := true, apart := false, narrowed := true }
def LexPlacesUptoSaid : Prop := lexPlacesUptoRow.holds Try.pinned (OpenSpec.upto lexPlacesSpec)

/-- 'cofferdamlaw10.LexJoined', WHERE WHAT IT READS IS OF BULK AT MOST 1048576: true; the input reads as it did. -/
def lexJoinedUptoRow : OpenClaim := { program := "ytocclfjddihmbaa", sum := "d5cc5045dd3be6efc1fd57effac0d5bad287e8f4ce5cdeec9f9b1638c9ab2a30", func := "cofferdam/cofferdamlaw10.LexJoined", spec := "lexJoined", inPlace := ["internal/bytealg.IndexByteString"], unfollowed := true, recurses := true, apart := false, narrowed := true }
def LexJoinedUptoSaid : Prop := lexJoinedUptoRow.holds Try.pinned (OpenSpec.upto lexJoinedSpec)

/-- 'cofferdamlaw10.LexNotes', WHERE WHAT IT READS IS OF BULK AT MOST 1048576: true; the input reads as it did. -/
def lexNotesUptoRow : OpenClaim := { program := "ytocclfjddihmbaa", sum := "d5cc5045dd3be6efc1fd57effac0d5bad287e8f4ce5cdeec9f9b1638c9ab2a30", func := "cofferdam/cofferdamlaw10.LexNotes", spec := "lexNotes", inPlace := ["internal/bytealg.IndexByteString"], unfollowed := true, recurses := true, apart := false, narrowed := true }
def LexNotesUptoSaid : Prop := lexNotesUptoRow.holds Try.pinned (OpenSpec.upto lexNotesSpec)

/-- 'cofferdamlaw10.LexReserved', WHERE WHAT IT READS IS OF BULK AT MOST 1048576: true; the input reads as it did. -/
def lexReservedUptoRow : OpenClaim := { program := "ytocclfjddihmbaa", sum := "d5cc5045dd3be6efc1fd57effac0d5bad287e8f4ce5cdeec9f9b1638c9ab2a30", func := "cofferdam/cofferdamlaw10.LexReserved", spec := "lexReserved", inPlace := ["internal/bytealg.IndexByteString", "internal/bytealg.IndexString"], unfollowed := true, recurses := true, named := ["internal/bytealg.MaxLen"], apart := false, narrowed := true }
def LexReservedUptoSaid : Prop := lexReservedUptoRow.holds Try.pinned (OpenSpec.upto lexReservedSpec)

end Rows
end Go.Proofs.Ytocclfjddihmbaa
