import Derived.Test.YtligdimpdcloeaaPoctetsFits
namespace Go.Proofs.Ytligdimpdcloeaa.P
open Go.RowKit Go.Proofs.YtligdimpdcloeaaW.PrintWords Go.Proofs.YtligdimpdcloeaaW.PrintLast Go.Proofs.YtligdimpdcloeaaW.PrintMore
attribute [local go_sem] max2_int min2_int
set_option linter.unusedVariables false
set_option linter.unusedSimpArgs false

def okF (r1 r2 : Int) : Bool := decide (0 ≤ r1) && decide (0 ≤ r2) && decide (r1 ≤ 2147483647) && decide (r2 ≤ 2147483647 - r1)
theorem fits_some (r1 r2 : Int) : octets_Fits.f r1 r2 2147483647 = some (okF r1 r2) := by
  unfold octets_Fits.f okF
  by_cases h1 : r1 ≥ 0
  · rw [if_pos h1, decide_eq_true (show 0 ≤ r1 from h1)]
    by_cases h2 : r2 ≥ 0
    · rw [if_pos h2, decide_eq_true (show 0 ≤ r2 from h2)]
      by_cases h3 : (2147483647 : Int) ≥ r1
      · rw [if_pos h3, decide_eq_true (show r1 ≤ 2147483647 from h3)]
        have : wrap64 (2147483647 - r1) = 2147483647 - r1 := by unfold wrap64; omega
        rw [this]
        simp
      · rw [if_neg h3, decide_eq_false (show ¬ r1 ≤ 2147483647 from h3)]; simp
    · rw [if_neg h2, decide_eq_false (show ¬ 0 ≤ r2 from h2)]; simp
  · rw [if_neg h1, decide_eq_false (show ¬ 0 ≤ r1 from h1)]; simp
def okR (r1 r2 : Int) : Bool := decide (1 ≤ r2) && okF r1 r2
def shareB (a0 a1 a2 b0 b1 b2 : Int) : Bool := okR a1 a2 && okR b1 b2 && decide (a0 = b0) && decide (max a1 b1 < min (a1 + a2) (b1 + b2))
theorem share_no_a {a0 a1 a2 b0 b1 b2 : Int} (h : okR a1 a2 = false) : shareB a0 a1 a2 b0 b1 b2 = false := by unfold shareB; rw [h]; rfl
theorem share_no_b {a0 a1 a2 b0 b1 b2 : Int} (h : okR b1 b2 = false) : shareB a0 a1 a2 b0 b1 b2 = false := by unfold shareB; rw [h]; simp
theorem okR_lt {r1 r2 : Int} (h : r2 < 1) : okR r1 r2 = false := by unfold okR; rw [decide_eq_false (show ¬ 1 ≤ r2 by omega)]; rfl
theorem okR_no {r1 r2 : Int} (h : okF r1 r2 = false) : okR r1 r2 = false := by unfold okR; rw [h]; simp
theorem okR_yes {r1 r2 : Int} (h1 : ¬ r2 < 1) (h : okF r1 r2 = true) : okR r1 r2 = true := by unfold okR; rw [h, decide_eq_true (show 1 ≤ r2 by omega)]; rfl
theorem below_drewN_ {B : Nat} {w W : World} (h : Below B w W) (n : Nat) : Below B w (W.drewN n) := ⟨h.os, h.tape, h.output, h.size, h.block⟩
theorem okF_bounds {r1 r2 : Int} (h : okF r1 r2 = true) : 0 ≤ r1 ∧ 0 ≤ r2 ∧ r1 + r2 ≤ 2147483647 := by
  unfold okF at h
  simp only [Bool.and_eq_true, decide_eq_true_eq] at h
  omega
theorem below_two {w W wr : World} (hb : Below w.heap.size w W) (hs : W.heap.size = w.heap.size + 2) (h : Below W.heap.size W wr) : Below w.heap.size w wr := hb.trans (h.mono (by omega))

theorem idx0 (x0 x1 x2 x3 x4 x5 : Int) (w : World) : (Instr.index 43 (.agg #[.int .i64 x0, .int .i64 x1, .int .i64 x2, .int .i64 x3, .int .i64 x4, .int .i64 x5]) (.int .i64 0)).run Try.prog w = .ok (.agg #[.int .i64 x0, .int .i64 x1, .int .i64 x2]) w := by
  simp [Instr.index, go_sem, Try.sizeOf33, Try.isAgg33, asIntOf, part]
theorem idx1 (x0 x1 x2 x3 x4 x5 : Int) (w : World) : (Instr.index 43 (.agg #[.int .i64 x0, .int .i64 x1, .int .i64 x2, .int .i64 x3, .int .i64 x4, .int .i64 x5]) (.int .i64 1)).run Try.prog w = .ok (.agg #[.int .i64 x3, .int .i64 x4, .int .i64 x5]) w := by
  simp [Instr.index, go_sem, Try.sizeOf33, Try.isAgg33, asIntOf, part]
attribute [local go_sem] idx0 idx1
set_option maxHeartbeats 8000000 in
set_option maxRecDepth 100000 in
theorem share_calls (a0 a1 a2 b0 b1 b2 : Int) (w : World) :
    Calls Try.prog 22 #[.agg #[.int .i64 a0, .int .i64 a1, .int .i64 a2], .agg #[.int .i64 b0, .int .i64 b1, .int .i64 b2]] w fun e w' => e = .returned (.bool (shareB a0 a1 a2 b0 b1 b2)) ∧ Below w.heap.size w w' := by
  have hba := blk_alloc (blk_new w (.cells #[.int .i64 a0, .int .i64 a1, .int .i64 a2] 33 (0, 0))) (.cells #[.int .i64 b0, .int .i64 b1, .int .i64 b2] 33 (0, 0))
  have hbb := blk_new (w.alloc (.cells #[.int .i64 a0, .int .i64 a1, .int .i64 a2] 33 (0, 0))) (.cells #[.int .i64 b0, .int .i64 b1, .int .i64 b2] 33 (0, 0))
  rw [World.size_alloc] at hbb
  have hbw : Below w.heap.size w ((w.alloc (.cells #[.int .i64 a0, .int .i64 a1, .int .i64 a2] 33 (0, 0))).alloc (.cells #[.int .i64 b0, .int .i64 b1, .int .i64 b2] 33 (0, 0))) := below_alloc (below_alloc (Below.refl _ _) _) _
  have hsz : ((w.alloc (.cells #[.int .i64 a0, .int .i64 a1, .int .i64 a2] 33 (0, 0))).alloc (.cells #[.int .i64 b0, .int .i64 b1, .int .i64 b2] 33 (0, 0))).heap.size = w.heap.size + 2 := by rw [World.size_alloc, World.size_alloc]
  go_enter Try.func22, Try.ntmps22
  go_wp2
  generalize (w.alloc (.cells #[.int .i64 a0, .int .i64 a1, .int .i64 a2] 33 (0, 0))).alloc (.cells #[.int .i64 b0, .int .i64 b1, .int .i64 b2] 33 (0, 0)) = W at *
  have HW := Aside0.mk hbw
  have HBA := Aside0.mk hba
  have HBB := Aside0.mk hbb
  have HSZ := Aside0.mk hsz
  clear hbw hba hbb hsz
  go_loopg [10] 2 (fun kx v10 wr => ∃ i : Nat, i ≤ 2 ∧ 2 - i ≤ kx ∧ v10 = .int .i64 i ∧ Aside0 (Below W.heap.size W wr) ∧ Aside0 ((1 ≤ i → okR a1 a2 = true) ∧ (2 ≤ i → okR b1 b2 = true)))
  case atStart => exact ⟨0, by decide, by decide, rfl, ⟨Below.refl _ _⟩, ⟨fun h => by omega, fun h => by omega⟩⟩
  case round =>
    obtain ⟨i, hi, hg, rfl, HB, HO⟩ := hrel
    rcases i with _ | _ | _ | i
    · by_cases h1 : a2 < 1
      · have hd : decide (a2 < 1) = true := decide_eq_true h1
        have HN := Aside0.mk (share_no_a (a0 := a0) (a1 := a1) (a2 := a2) (b0 := b0) (b1 := b1) (b2 := b2) (okR_lt h1))
        clear h1
        go_wp2
        go_ret
        refine ⟨?_, below_two HW.out HSZ.out (below_alloc HB.out _)⟩
        rw [HN.out]
        rfl
      · have hd : decide (a2 < 1) = false := decide_eq_false h1
        have HF := fits_some a1 a2
        cases hF : okF a1 a2
        · rw [hF] at HF
          have HF' := Aside0.mk HF
          have HN := Aside0.mk (share_no_a (a0 := a0) (a1 := a1) (a2 := a2) (b0 := b0) (b1 := b1) (b2 := b2) (okR_no hF))
          clear HF hF h1
          go_wp2_with (go_at_call 28; refine (octets_Fits.calls _ _ _ _ _ HF'.out).mono ?_; rintro e w' ⟨rfl, ⟨nd, rfl⟩⟩)
          go_ret
          refine ⟨?_, below_two HW.out HSZ.out (below_drewN_ (below_alloc HB.out _) nd)⟩
          rw [HN.out]
          rfl
        · rw [hF] at HF
          have HF' := Aside0.mk HF
          have HY := Aside0.mk (okR_yes h1 hF)
          clear HF hF h1
          go_wp2_with (go_at_call 28; refine (octets_Fits.calls _ _ _ _ _ HF'.out).mono ?_; rintro e w' ⟨rfl, ⟨nd, rfl⟩⟩)
          go_roundg 1
          case rel => exact ⟨1, by decide, by decide, by go_num, ⟨below_drewN_ (below_alloc HB.out _) nd⟩, ⟨fun _ => HY.out, fun h => by omega⟩⟩
          case measure => omega
    · by_cases h1 : b2 < 1
      · have hd : decide (b2 < 1) = true := decide_eq_true h1
        have HN := Aside0.mk (share_no_b (a0 := a0) (a1 := a1) (a2 := a2) (b0 := b0) (b1 := b1) (b2 := b2) (okR_lt h1))
        clear h1
        go_wp2
        go_ret
        refine ⟨?_, below_two HW.out HSZ.out (below_alloc HB.out _)⟩
        rw [HN.out]
        rfl
      · have hd : decide (b2 < 1) = false := decide_eq_false h1
        have HF := fits_some b1 b2
        cases hF : okF b1 b2
        · rw [hF] at HF
          have HF' := Aside0.mk HF
          have HN := Aside0.mk (share_no_b (a0 := a0) (a1 := a1) (a2 := a2) (b0 := b0) (b1 := b1) (b2 := b2) (okR_no hF))
          clear HF hF h1
          go_wp2_with (go_at_call 28; refine (octets_Fits.calls _ _ _ _ _ HF'.out).mono ?_; rintro e w' ⟨rfl, ⟨nd, rfl⟩⟩)
          go_ret
          refine ⟨?_, below_two HW.out HSZ.out (below_drewN_ (below_alloc HB.out _) nd)⟩
          rw [HN.out]
          rfl
        · rw [hF] at HF
          have HF' := Aside0.mk HF
          have HY := Aside0.mk (okR_yes h1 hF)
          clear HF hF h1
          go_wp2_with (go_at_call 28; refine (octets_Fits.calls _ _ _ _ _ HF'.out).mono ?_; rintro e w' ⟨rfl, ⟨nd, rfl⟩⟩)
          go_roundg 0
          case rel => exact ⟨2, by decide, by decide, by go_num, ⟨below_drewN_ (below_alloc HB.out _) nd⟩, ⟨fun _ => HO.out.1 (by decide), fun _ => HY.out⟩⟩
          case measure => omega
    · have hA := HO.out.1 (by decide)
      have hB := HO.out.2 (by decide)
      have fA := okF_bounds (show okF a1 a2 = true by unfold okR at hA; simp only [Bool.and_eq_true] at hA; exact hA.2)
      have fB := okF_bounds (show okF b1 b2 = true by unfold okR at hB; simp only [Bool.and_eq_true] at hB; exact hB.2)
      have HS : Aside0 (shareB a0 a1 a2 b0 b1 b2 = (decide (a0 = b0) && decide (max a1 b1 < min (a1 + a2) (b1 + b2)))) := ⟨by unfold shareB; rw [hA, hB]; rfl⟩
      have ka : wr.heap[w.heap.size]? = some (.cells #[.int .i64 a0, .int .i64 a1, .int .i64 a2] 33 (0, 0)) := by rw [HB.out.block _ (by have := HSZ.out; omega)]; exact HBA.out
      have kb : wr.heap[w.heap.size + 1]? = some (.cells #[.int .i64 b0, .int .i64 b1, .int .i64 b2] 33 (0, 0)) := by rw [HB.out.block _ (by have := HSZ.out; omega)]; exact HBB.out
      have ka0 : wr.cell? ⟨w.heap.size, 0, none⟩ = some (.int .i64 a0) := (blk_cell ka 0).trans rfl
      have ka1 : wr.cell? ⟨w.heap.size, 1, none⟩ = some (.int .i64 a1) := (blk_cell ka 1).trans rfl
      have ka2 : wr.cell? ⟨w.heap.size, 2, none⟩ = some (.int .i64 a2) := (blk_cell ka 2).trans rfl
      have kb0 : wr.cell? ⟨w.heap.size + 1, 0, none⟩ = some (.int .i64 b0) := (blk_cell kb 0).trans rfl
      have kb1 : wr.cell? ⟨w.heap.size + 1, 1, none⟩ = some (.int .i64 b1) := (blk_cell kb 1).trans rfl
      have kb2 : wr.cell? ⟨w.heap.size + 1, 2, none⟩ = some (.int .i64 b2) := (blk_cell kb 2).trans rfl
      clear ka kb hA hB
      by_cases h0 : a0 = b0
      · subst h0
        have hd : (a0 == a0) = true := beq_self_eq_true a0
        go_wp2
        all_goals go_ret
        all_goals refine ⟨?_, below_two HW.out HSZ.out HB.out⟩
        all_goals rw [HS.out]
        all_goals simp only [decide_true, Bool.true_and]
        all_goals refine congrArg (fun b => Ending.returned (Value.bool b)) ?_
        all_goals (show decide _ = decide _; rw [decide_eq_decide]; omega)
      · have hd : (a0 == b0) = false := beq_eq_false_iff_ne.2 h0
        go_wp2
        go_ret
        refine ⟨?_, below_two HW.out HSZ.out HB.out⟩
        rw [HS.out, decide_eq_false h0]
        rfl
    · omega
end Go.Proofs.Ytligdimpdcloeaa.P
