/-
  No cell of these rows narrows 'for every input' (looked for: loops, veiled, ifaces, maps, wideKeys, modest, calm, conditions, laid).
  DERIVED. THE GIVEN ROWS OF THIS SEAT. 3 by the template 'for every input the law returns true; each argument reads behind the call as it read before'; 0 by the template 'total and deterministic' (their statements: YtneglmnffdmbiaaTotals.lean).
  GIVEN WITH THE SEED: the statements are not yours to turn. If you find one false, say at which input.
  Laid BY PROGRAM, IN A SANDBOX (cutbox-rows.mjs): the forced cells as the released guide's own fill.sh prints them over the translation bd9e704b948694ba… (all of the seat's roots in one cut). By AI agents, Wed Nov 11 2026. No macro, syntax, notation, axiom, sorry.
-/
import Derived.Test.YtneglmnffdmbiaaChecked
import GoSem.Claim
import GoSem.ClaimJoined
import GoSem.ClaimMapViews
import Derived.JoinedTies
import Derived.KernelRfl
namespace Go.Proofs.Ytneglmnffdmbiaa
/- THE CELL 'sum', in the pinned program and in every row, IS THE sha256 OF THE DUMP (.gsa) THAT YtneglmnffdmbiaaProg.lean LOADS. Nothing in Lean hashes anything: it is a label: what it is worth is what the hold of that sum in a sandbox is worth. -/
noncomputable def Try.pinned : Pinned := { name := "ytneglmnffdmbiaa", sum := "bd9e704b948694ba5fc78326136c0fd58980e39e6eeb904d8f8b8f747a200a76", checked := Try.checked }
namespace Rows
def none {H : Type} : Left H := { results := [], args := [] }

/-- 'cofferdamlaw16.OptIs': WHATEVER THE INPUT: true; the input reads as it did. -/
def optIsSpec : ChangeSpec := { name := "optIs", fn := fun _ => fun
  | [d1, d2] => { results := [.lit (.bool true)], args := [d1, d2] }
  | _ => none }
def optIsRow : OpenClaim := { program := "ytneglmnffdmbiaa", sum := "bd9e704b948694ba5fc78326136c0fd58980e39e6eeb904d8f8b8f747a200a76", func := "cofferdam/cofferdamlaw16.OptIs", spec := "optIs", unfollowed := true, recurses := true, apart := false }
def OptIsSaid : Prop := optIsRow.holds Try.pinned (OpenSpec.ofChange optIsSpec)

/-- ITS FALSE NEIGHBOUR: 'it returns false'. Refute it at one input. -/
def optIsWrong : ChangeSpec := { name := "optIs", fn := fun _ => fun
  | [d1, d2] => { results := [.lit (.bool false)], args := [d1, d2] }
  | _ => none }
def OptIsWrongFalsely : Prop := optIsRow.holds Try.pinned (OpenSpec.ofChange optIsWrong)

/-- 'cofferdamlaw16.OptTight': WHATEVER THE INPUT: true; the input reads as it did. -/
def optTightSpec : ChangeSpec := { name := "optTight", fn := fun _ => fun
  | [d1, d2] => { results := [.lit (.bool true)], args := [d1, d2] }
  | _ => none }
def optTightRow : OpenClaim := { program := "ytneglmnffdmbiaa", sum := "bd9e704b948694ba5fc78326136c0fd58980e39e6eeb904d8f8b8f747a200a76", func := "cofferdam/cofferdamlaw16.OptTight", spec := "optTight", unfollowed := true, recurses := true, apart := false }
def OptTightSaid : Prop := optTightRow.holds Try.pinned (OpenSpec.ofChange optTightSpec)

/-- ITS FALSE NEIGHBOUR: 'it returns false'. Refute it at one input. -/
def optTightWrong : ChangeSpec := { name := "optTight", fn := fun _ => fun
  | [d1, d2] => { results := [.lit (.bool false)], args := [d1, d2] }
  | _ => none }
def OptTightWrongFalsely : Prop := optTightRow.holds Try.pinned (OpenSpec.ofChange optTightWrong)

/-- 'cofferdamlaw16.OptWrapped': WHATEVER THE INPUT: true; the input reads as it did. -/
def optWrappedSpec : ChangeSpec := { name := "optWrapped", fn := fun _ => fun
  | [d1, d2, d3] => { results := [.lit (.bool true)], args := [d1, d2, d3] }
  | _ => none }
def optWrappedRow : OpenClaim := { program := "ytneglmnffdmbiaa", sum := "bd9e704b948694ba5fc78326136c0fd58980e39e6eeb904d8f8b8f747a200a76", func := "cofferdam/cofferdamlaw16.OptWrapped", spec := "optWrapped", unfollowed := true, recurses := true, apart := false }
def OptWrappedSaid : Prop := optWrappedRow.holds Try.pinned (OpenSpec.ofChange optWrappedSpec)

/-- ITS FALSE NEIGHBOUR: 'it returns false'. Refute it at one input. -/
def optWrappedWrong : ChangeSpec := { name := "optWrapped", fn := fun _ => fun
  | [d1, d2, d3] => { results := [.lit (.bool false)], args := [d1, d2, d3] }
  | _ => none }
def OptWrappedWrongFalsely : Prop := optWrappedRow.holds Try.pinned (OpenSpec.ofChange optWrappedWrong)

/- THE SECOND FORM. 'bulk': how many values and letters a reading holds, each counted each time it is reached (what is shared counts as often as it is met; a slice's spare places count too). A statement '..UptoSaid' is the law's where the arguments, and the package variables that the reading takes, are together of bulk at most 1048576: NARROWER than '..Said'. Prove '..Said' where nothing that the law and all that it calls make is longer than what came in: it says more and counts as full. Else prove '..UptoSaid'. A law counts once. -/
mutual
def uptoBulk {H : Type} : DataW H → Nat
  | .lit (.string bytes) => bytes.length + 1
  | .lit _ => 1
  | .nil => 1
  | .ptr d => uptoBulk d + 1
  | .slice elems spare => uptoBulkAll elems + uptoBulkAll spare + 1
  | .agg parts => uptoBulkAll parts + 1
  | .iface _ d => uptoBulk d + 1
  | .map entries => uptoBulkEntries entries + 1
  | .held _ => 1
def uptoBulkAll {H : Type} : List (DataW H) → Nat
  | [] => 0
  | d :: r => uptoBulk d + uptoBulkAll r
def uptoBulkEntries {H : Type} : List (Lit × DataW H) → Nat
  | [] => 0
  | x :: r => uptoBulkEntry x + uptoBulkEntries r
def uptoBulkEntry {H : Type} : Lit × DataW H → Nat
  | (.string bytes, d) => bytes.length + uptoBulk d + 1
  | (_, d) => uptoBulk d + 1
 end
def uptoSmall : (H : Type) → List (DataW H) → Bool := fun _ ds => decide (uptoBulkAll ds ≤ 1048576)
def OpenSpec.upto (s : _root_.Go.ChangeSpec) : _root_.Go.OpenSpec := { _root_.Go.OpenSpec.ofChange s with cond := some uptoSmall }

/-- 'cofferdamlaw16.OptIs', WHERE WHAT IT READS IS OF BULK AT MOST 1048576: true; the input reads as it did. -/
def optIsUptoRow : OpenClaim := { program := "ytneglmnffdmbiaa", sum := "bd9e704b948694ba5fc78326136c0fd58980e39e6eeb904d8f8b8f747a200a76", func := "cofferdam/cofferdamlaw16.OptIs", spec := "optIs", unfollowed := true, recurses := true, apart := false, narrowed := true }
def OptIsUptoSaid : Prop := optIsUptoRow.holds Try.pinned (OpenSpec.upto optIsSpec)

/-- 'cofferdamlaw16.OptTight', WHERE WHAT IT READS IS OF BULK AT MOST 1048576: true; the input reads as it did. -/
def optTightUptoRow : OpenClaim := { program := "ytneglmnffdmbiaa", sum := "bd9e704b948694ba5fc78326136c0fd58980e39e6eeb904d8f8b8f747a200a76", func := "cofferdam/cofferdamlaw16.OptTight", spec := "optTight", unfollowed := true, recurses := true, apart := false, narrowed := true }
def OptTightUptoSaid : Prop := optTightUptoRow.holds Try.pinned (OpenSpec.upto optTightSpec)

/-- 'cofferdamlaw16.OptWrapped', WHERE WHAT IT READS IS OF BULK AT MOST 1048576: true; the input reads as it did. -/
def optWrappedUptoRow : OpenClaim := { program := "ytneglmnffdmbiaa", sum := "bd9e704b948694ba5fc78326136c0fd58980e39e6eeb904d8f8b8f747a200a76", func := "cofferdam/cofferdamlaw16.OptWrapped", spec := "optWrapped", unfollowed := true, recurses := true, apart := false, narrowed := true }
def OptWrappedUptoSaid : Prop := optWrappedUptoRow.holds Try.pinned (OpenSpec.upto optWrappedSpec)

end Rows
end Go.Proofs.Ytneglmnffdmbiaa
