/- Proved here: what an argument reads as before a call that writes to no memory of old, it reads as behind it. -/
import Derived.Test.YtneglmnffdmbiaaProg
import Derived.ReadAgain
import Derived.ChangeOld
import Derived.Below
import Derived.KernelRfl
namespace Go.Proofs.Ytneglmnffdmbiaa.Rd
open Go.RowKit
theorem kids : Kids Try.prog (· < Try.prog.types.size) := kids_rows (by kernel_rfl) (by kernel_rfl)
theorem full : ∀ t e, t < Try.prog.types.size → Try.prog.underlying t = some (.slice e) → 0 < Try.prog.cellsOf e := slices_full_of Try.prog (by kernel_rfl)
theorem carry_all {H : Type} {enc : TypeId × Value → H} {P : Program} {w w' : World} {base : Nat} {spare : Nat → Bool} {held : Bool} : ∀ {ts : List TypeId} {vs : List Value} {ds : List (DataW H)} {ps : List MemPlace},
    DataW.TrodAll enc P w base spare held ts vs ds ps → (∀ p ∈ ps, w.sameAt w' p) → DataW.TrodAll enc P w' base spare held ts vs ds ps
  | [], [], [], _, h, _ => h
  | t :: ts, v :: vs, d :: ds, ps, h, hs => by
    obtain ⟨p, q, ⟨n, h1⟩, h2, rfl⟩ := h
    exact ⟨p, q, ⟨n, DataW.trod_carry n t _ _ h1 (fun x hx => hs x (List.mem_append_left _ hx))⟩, carry_all h2 (fun x hx => hs x (List.mem_append_right _ hx)), rfl⟩
theorem again {H : Type} {enc : TypeId × Value → H} {W W' : World} {ts : List TypeId} {vs : List Value} {ds : List (DataW H)} {ps : List MemPlace} (hT : ∀ t ∈ ts, t < Try.prog.types.size)
    (h : DataW.TrodAll enc Try.prog W 0 (fun _ => true) true ts vs ds ps) (hb : Below W.heap.size W W') : DataW.TrodAll enc Try.prog W' 0 (fun b => decide (b < W.heap.size)) true ts vs ds ps := by
  have hlt := DataW.TrodAll.lt h
  exact carry_all (DataW.TrodAll.respare kids full hT h (fun p hp => decide_eq_true (hlt p hp))) (fun p hp => hb.same (hlt p hp))
end Go.Proofs.Ytneglmnffdmbiaa.Rd
