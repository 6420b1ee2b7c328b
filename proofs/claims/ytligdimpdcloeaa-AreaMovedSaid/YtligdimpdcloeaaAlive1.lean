import Derived.Test.YtligdimpdcloeaaOverlap1
import Derived.Test.YtligdimpdcloeaaPareaStore
import Derived.Test.YtligdimpdcloeaaPareaVerity
import Derived.Test.YtligdimpdcloeaaPareaIntegrity
namespace Go.Proofs.Ytligdimpdcloeaa.P
open Go.RowKit Go.Proofs.YtligdimpdcloeaaW.PrintWords Go.Proofs.YtligdimpdcloeaaW.PrintLast Go.Proofs.YtligdimpdcloeaaW.PrintMore
set_option linter.unusedVariables false
set_option linter.unusedSimpArgs false
theorem integ10 : area_Integrity.f 10 = some (8, 2) := by kernel_rfl
theorem verity10 : area_Verity.f 10 = some (4, 3) := by kernel_rfl
theorem store10 : area_Store.f 100 10 40 4 = some (1, 2) := by kernel_rfl
theorem alive_ov (w : World) : Calls Try.prog 15 #[.slice (some ⟨w.heap.size, 0, none⟩) 2 2] (w.alloc (.cells #[.int .i64 0, .int .i64 0, .int .i64 4, .int .i64 0, .int .i64 3, .int .i64 1] 33 (0, 0))) fun e w' => e = .returned (.tuple #[.int .i64 0, .int .i64 1]) ∧ Below w.heap.size w w' := by
  have hb := blk_new w (.cells #[.int .i64 0, .int .i64 0, .int .i64 4, .int .i64 0, .int .i64 3, .int .i64 1] 33 (0, 0))
  refine (overlap_calls ⟨w.heap.size, 0, none⟩ 2 [((0 : Int), (0 : Int), (4 : Int)), ((0 : Int), (3 : Int), (1 : Int))] (by decide) (by decide) _ ?_).mono ?_
  · intro i hi
    rcases i with _ | _ | i
    · exact ⟨(blk_cell hb 0).trans rfl, (blk_cell hb 1).trans rfl, (blk_cell hb 2).trans rfl⟩
    · exact ⟨(blk_cell hb 3).trans rfl, (blk_cell hb 4).trans rfl, (blk_cell hb 5).trans rfl⟩
    · simp at hi; omega
  · rintro e w' ⟨rfl, hb2⟩
    refine ⟨rfl, (below_alloc (Below.refl _ _) _).trans (hb2.mono (by rw [World.size_alloc]; omega))⟩
set_option maxHeartbeats 8000000 in
set_option maxRecDepth 100000 in
theorem alive12_calls (w : World) : Calls Try.prog 14 #[] w fun e w' => e = .returned (.bool true) ∧ Below w.heap.size w w' := by
  go_enter Try.func14, Try.ntmps14
  go_wp2_with (first | (go_at_call 8; refine (area_Integrity.calls 10 8 2 _ integ10).mono ?_; rintro e w1 ⟨rfl, hb1⟩) | (go_at_call 10; refine (area_Verity.calls 10 4 3 _ verity10).mono ?_; rintro e w2 ⟨rfl, hb2⟩) | (go_at_call 12; refine (area_Store.calls 100 10 40 4 1 2 _ store10).mono ?_; rintro e w3 ⟨rfl, hb3⟩) | (go_at_call 15; refine (alive_ov _).mono ?_; rintro e w4 ⟨rfl, hb4⟩))
  go_ret
  exact ⟨rfl, ((hb1.trans (hb2.mono hb1.size)).trans (hb3.mono (Nat.le_trans hb1.size hb2.size))).trans (hb4.mono (Nat.le_trans (Nat.le_trans hb1.size hb2.size) hb3.size))⟩
end Go.Proofs.Ytligdimpdcloeaa.P
