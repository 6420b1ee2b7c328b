/- Proved here: what the functions named below compute (or, in a text Law.., that the law holds), at every argument that the theorems' own premises allow. Written by a program of this session over the kit's printer; Lean checks it. -/
import Derived.Test.YtneglmnffdmbiaaP0
namespace Go.Proofs.Ytneglmnffdmbiaa.P
open Go.RowKit Go.Proofs.YtneglmnffdmbiaaW.PrintWords Go.Proofs.YtneglmnffdmbiaaW.PrintLast Go.Proofs.YtneglmnffdmbiaaW.PrintMore
attribute [local go_sem] max2_int min2_int max_two min_two max_three min_three max_four min_four   -- for this text's walks alone
set_option linter.unusedVariables false
set_option linter.unusedSimpArgs false

/-! ### cofferdamref15_extents: function 22 -/
mutual
def cofferdamref15_extents.l0 : Nat → Int → Int → Int → List (S34) → Int → Bool → Int → Int → Int → List (S36) → List Int → Int → Int → Int → List Int → List Int → Option (Bool)
  | 0, _, _, _, _, _, _, _, _, _, _, _, _, _, _, _, _ => none
  | k + 1, x1, x6, x7, x102000, x102001, x102002, x104000, x104001, x104002, x104003, x104004, x104005, x104006, x104007, x104008, x104009 => if x7 < (x104003.length : Int) then (if 0 ≤ x7 then (if ((rd_T36 x104003 x7).f2) < 0 then (cofferdamref15_extents.j1 k x1 x6 x7 true x102000 x102001 x102002 x104000 x104001 x104002 x104003 x104004 x104005 x104006 x104007 x104008 x104009 ((rd_T36 x104003 x7).f0) ((rd_T36 x104003 x7).f1) ((rd_T36 x104003 x7).f2) ((rd_T36 x104003 x7).f3)) else (if ((rd_T36 x104003 x7).f2) ≥ x1 then (cofferdamref15_extents.j1 k x1 x6 x7 true x102000 x102001 x102002 x104000 x104001 x104002 x104003 x104004 x104005 x104006 x104007 x104008 x104009 ((rd_T36 x104003 x7).f0) ((rd_T36 x104003 x7).f1) ((rd_T36 x104003 x7).f2) ((rd_T36 x104003 x7).f3)) else (if ((rd_T36 x104003 x7).f0) = x6 then (if ((rd_T36 x104003 x7).f1) < 1 then (cofferdamref15_extents.j1 k x1 x6 x7 true x102000 x102001 x102002 x104000 x104001 x104002 x104003 x104004 x104005 x104006 x104007 x104008 x104009 ((rd_T36 x104003 x7).f0) ((rd_T36 x104003 x7).f1) ((rd_T36 x104003 x7).f2) ((rd_T36 x104003 x7).f3)) else (cofferdamref15_extents.j1 k x1 x6 x7 (decide (((rd_T36 x104003 x7).f1) > (wrap64 (x104001 - x6)))) x102000 x102001 x102002 x104000 x104001 x104002 x104003 x104004 x104005 x104006 x104007 x104008 x104009 ((rd_T36 x104003 x7).f0) ((rd_T36 x104003 x7).f1) ((rd_T36 x104003 x7).f2) ((rd_T36 x104003 x7).f3))) else (cofferdamref15_extents.j1 k x1 x6 x7 true x102000 x102001 x102002 x104000 x104001 x104002 x104003 x104004 x104005 x104006 x104007 x104008 x104009 ((rd_T36 x104003 x7).f0) ((rd_T36 x104003 x7).f1) ((rd_T36 x104003 x7).f2) ((rd_T36 x104003 x7).f3))))) else (none)) else (if (x104003.length : Int) ≥ 1 then (if (x104003.length : Int) ≤ 1000 then (some (x6 == x104001)) else (some false)) else (some false))
def cofferdamref15_extents.j1 : Nat → Int → Int → Int → Bool → List (S34) → Int → Bool → Int → Int → Int → List (S36) → List Int → Int → Int → Int → List Int → List Int → Int → Int → Int → Int → Option (Bool)
  | 0, _, _, _, _, _, _, _, _, _, _, _, _, _, _, _, _, _, _, _, _, _ => none
  | k + 1, x1, x6, x7, x55, x102000, x102001, x102002, x104000, x104001, x104002, x104003, x104004, x104005, x104006, x104007, x104008, x104009, x106000, x106001, x106002, x106003 => if x55 = true then (some false) else (if 0 ≤ x106002 then (if x106002 < (x102000.length : Int) then (if x106003 < 0 then (some false) else (if x106003 > ((rd_T34 x102000 x106002).f1) then (some false) else (if x106001 > (wrap64 (((rd_T34 x102000 x106002).f1) - x106003)) then (some false) else (cofferdamref15_extents.l0 k x1 (wrap64 (x6 + x106001)) (wrap64 (x7 + 1)) x102000 x102001 x102002 x104000 x104001 x104002 x104003 x104004 x104005 x104006 x104007 x104008 x104009)))) else (none)) else (none))
end
def cofferdamref15_extents.f (k : Nat) (l0_0 : List (S34)) (a0_1 : Int) (a0_2 : Bool) (a1 : Int) : Option (Bool) := if 0 ≤ a1 then (if a1 < (l0_0.length : Int) then (cofferdamref15_extents.l0 k a1 0 0 l0_0 a0_1 a0_2 ((rd_T34 l0_0 a1).f0) ((rd_T34 l0_0 a1).f1) ((rd_T34 l0_0 a1).f2) ((rd_T34 l0_0 a1).f3) ((rd_T34 l0_0 a1).f4) ((rd_T34 l0_0 a1).f5) ((rd_T34 l0_0 a1).f6) ((rd_T34 l0_0 a1).f7) ((rd_T34 l0_0 a1).f8) ((rd_T34 l0_0 a1).f9)) else (none)) else (none)
theorem cofferdamref15_extents.mono_l : ∀ k, (∀ y0 y1 y2 y3 y4 y5 y6 y7 y8 y9 y10 y11 y12 y13 y14 y15, LeO (cofferdamref15_extents.l0 k y0 y1 y2 y3 y4 y5 y6 y7 y8 y9 y10 y11 y12 y13 y14 y15) (cofferdamref15_extents.l0 (k + 1) y0 y1 y2 y3 y4 y5 y6 y7 y8 y9 y10 y11 y12 y13 y14 y15)) ∧ (∀ y0 y1 y2 y3 y4 y5 y6 y7 y8 y9 y10 y11 y12 y13 y14 y15 y16 y17 y18 y19 y20, LeO (cofferdamref15_extents.j1 k y0 y1 y2 y3 y4 y5 y6 y7 y8 y9 y10 y11 y12 y13 y14 y15 y16 y17 y18 y19 y20) (cofferdamref15_extents.j1 (k + 1) y0 y1 y2 y3 y4 y5 y6 y7 y8 y9 y10 y11 y12 y13 y14 y15 y16 y17 y18 y19 y20))
  | 0 => ⟨fun _ _ _ _ _ _ _ _ _ _ _ _ _ _ _ _ r h => by simp [cofferdamref15_extents.l0] at h, fun _ _ _ _ _ _ _ _ _ _ _ _ _ _ _ _ _ _ _ _ _ r h => by simp [cofferdamref15_extents.j1] at h⟩
  | k + 1 => by
    obtain ⟨ih0, ih1⟩ := cofferdamref15_extents.mono_l k
    refine ⟨?_, ?_⟩
    · intro y0 y1 y2 y3 y4 y5 y6 y7 y8 y9 y10 y11 y12 y13 y14 y15
      unfold cofferdamref15_extents.l0
      repeat' first
      | (with_reducible exact ih0 _ _ _ _ _ _ _ _ _ _ _ _ _ _ _ _)
      | (with_reducible exact ih1 _ _ _ _ _ _ _ _ _ _ _ _ _ _ _ _ _ _ _ _ _)
      | (with_reducible exact LeO.refl _)
      | (with_reducible exact LeO.none _)
      | (with_reducible refine LeO.ite ?_ ?_)
      | (with_reducible refine LeO.bind ?_ (fun _ => ?_))
      | exact ih0 _ _ _ _ _ _ _ _ _ _ _ _ _ _ _ _
      | exact ih1 _ _ _ _ _ _ _ _ _ _ _ _ _ _ _ _ _ _ _ _ _
      | exact LeO.none _
      | refine LeO.ite ?_ ?_
      | refine LeO.bind ?_ (fun _ => ?_)
    · intro y0 y1 y2 y3 y4 y5 y6 y7 y8 y9 y10 y11 y12 y13 y14 y15 y16 y17 y18 y19 y20
      unfold cofferdamref15_extents.j1
      repeat' first
      | (with_reducible exact ih0 _ _ _ _ _ _ _ _ _ _ _ _ _ _ _ _)
      | (with_reducible exact ih1 _ _ _ _ _ _ _ _ _ _ _ _ _ _ _ _ _ _ _ _ _)
      | (with_reducible exact LeO.refl _)
      | (with_reducible exact LeO.none _)
      | (with_reducible refine LeO.ite ?_ ?_)
      | (with_reducible refine LeO.bind ?_ (fun _ => ?_))
      | exact ih0 _ _ _ _ _ _ _ _ _ _ _ _ _ _ _ _
      | exact ih1 _ _ _ _ _ _ _ _ _ _ _ _ _ _ _ _ _ _ _ _ _
      | exact LeO.none _
      | refine LeO.ite ?_ ?_
      | refine LeO.bind ?_ (fun _ => ?_)
theorem cofferdamref15_extents.mono : ∀ a0 a1 a2 a3 k, LeO (cofferdamref15_extents.f k a0 a1 a2 a3) (cofferdamref15_extents.f (k + 1) a0 a1 a2 a3) := by
  intro a0 a1 a2 a3 k
  obtain ⟨ih0, ih1⟩ := cofferdamref15_extents.mono_l k
  unfold cofferdamref15_extents.f
  repeat' first
      | (with_reducible exact ih0 _ _ _ _ _ _ _ _ _ _ _ _ _ _ _ _)
      | (with_reducible exact ih1 _ _ _ _ _ _ _ _ _ _ _ _ _ _ _ _ _ _ _ _ _)
      | (with_reducible exact LeO.refl _)
      | (with_reducible exact LeO.none _)
      | (with_reducible refine LeO.ite ?_ ?_)
      | (with_reducible refine LeO.bind ?_ (fun _ => ?_))
      | exact ih0 _ _ _ _ _ _ _ _ _ _ _ _ _ _ _ _
      | exact ih1 _ _ _ _ _ _ _ _ _ _ _ _ _ _ _ _ _ _ _ _ _
      | exact LeO.none _
      | refine LeO.ite ?_ ?_
      | refine LeO.bind ?_ (fun _ => ?_)
set_option maxHeartbeats 8000000 in
set_option maxRecDepth 100000 in
theorem cofferdamref15_extents.calls (k : Nat) (A0_0 : Option Addr) (c0_0 : Nat) (l0_0 : List (S34)) (a0_1 : Int) (a0_2 : Bool) (a1 : Int) (r : Bool) (w : World) (hr0_0 : Kd.C k34 w A0_0 l0_0.length l0_0) (hc0_0 : l0_0.length ≤ c0_0) (h : cofferdamref15_extents.f k l0_0 a0_1 a0_2 a1 = some r) :
    Calls Try.prog 22 #[.agg #[.slice A0_0 l0_0.length c0_0, .int .i64 a0_1, .bool a0_2], .int .i64 a1] w fun e w' => e = .returned (.bool r) ∧ Below w.heap.size w w' := by
  have hu24 := Try.underlying24
  have hu34 := Try.underlying34
  have hu36 := Try.underlying36
  have HR0_0 := Aside0.mk hr0_0
  have HC0_0 := Aside0.mk hc0_0
  clear hr0_0 hc0_0
  have HB := Aside0.mk (Below.refl w.heap.size w)
  have H : (if 0 ≤ a1 then (if a1 < (l0_0.length : Int) then (cofferdamref15_extents.l0 k a1 0 0 l0_0 a0_1 a0_2 ((rd_T34 l0_0 a1).f0) ((rd_T34 l0_0 a1).f1) ((rd_T34 l0_0 a1).f2) ((rd_T34 l0_0 a1).f3) ((rd_T34 l0_0 a1).f4) ((rd_T34 l0_0 a1).f5) ((rd_T34 l0_0 a1).f6) ((rd_T34 l0_0 a1).f7) ((rd_T34 l0_0 a1).f8) ((rd_T34 l0_0 a1).f9)) else (none)) else (none)) = some r := h
  clear h
  by_cases c3 : 0 ≤ a1
  · rw [if_pos c3] at H
    have c3b0 : decide (0 ≤ a1) = true := decide_eq_true c3
    clear c3
    by_cases c4 : a1 < (l0_0.length : Int)
    · rw [if_pos c4] at H
      have c4b0 : decide (a1 < (l0_0.length : Int)) = true := decide_eq_true c4
      clear c4
      have H' := Aside0.mk H
      clear H
      go_enter Try.func22, Try.ntmps22
      go_wp2_with (first | ((with_reducible refine gate_dst (N := 2) rfl ?_); (try (refine gate_guard (by rfl) ?_; dsimp only)); refine box_event ?hg (N := 2) ?hd (cs := #[.slice A0_0 l0_0.length c0_0, .int .i64 a0_1, .bool a0_2]) (t := 24) ?hr ?_; (case hd => rfl); (case hg => rfl); (case hr => first | (go_simp; done) | (go_simp; rfl)); intro gb101 hg w5 hbox hb; have n0_ := Aside0.mk (below_step (by repeat (first | (with_reducible first | exact HB.out | apply below_alloc | apply pw_below_drewN | apply below_drew1) | exact HB.out)) hb); have n1_ := Aside0.mk (hbox); have n2_ := Aside0.mk ((by rw [hg]; exact (below_size (by repeat (first | (with_reducible first | exact HB.out | apply below_alloc | apply pw_below_drewN | apply below_drew1) | exact HB.out))) : w.heap.size ≤ gb101)); have n3_ := Aside0.mk ((by rw [hg]; exact (below_size (by repeat (first | (with_reducible first | exact HB.out | apply below_alloc | apply pw_below_drewN | apply below_drew1) | exact HB.out))) : w.heap.size ≤ gb101)); clear HB; have HB := n0_; have BK101 := n1_; have GW101 := n2_; have GE101 := n3_; clear n0_ n1_ n2_ n3_; clear hb hbox hg; have hcz6_0 : w5.cell? ⟨gb101, 0, none⟩ = some (.slice A0_0 l0_0.length c0_0) := (blk_cell BK101.out 0).trans rfl; have hcz6_1 : w5.cell? ⟨gb101, 1, none⟩ = some (.int .i64 a0_1) := (blk_cell BK101.out 1).trans rfl; have hcz6_2 : w5.cell? ⟨gb101, 2, none⟩ = some (.bool a0_2) := (blk_cell BK101.out 2).trans rfl; have hfz6_0 := blk_frozen BK101.out 0; have hfz6_1 := blk_frozen BK101.out 1; have hfz6_2 := blk_frozen BK101.out 2; have p102 : 0 ≤ (a1 : Int) := of_decide_eq_true (by first | (with_reducible assumption) | assumption); have q102 : a1 < (l0_0.length : Int) := of_decide_eq_true (by first | (with_reducible assumption) | assumption); obtain ⟨ad102, A102_3, c102_3, A102_4, c102_4, A102_8, c102_8, A102_9, c102_9, e102, hx102_0, hx102_1, hx102_2, hx102_3, hx102_4, hx102_5, hx102_6, hx102_7, hx102_8, hx102_9, hl102_3, hi102_3, hl102_4, hi102_4, hl102_8, hi102_8, hl102_9, hi102_9⟩ := at_T34 HR0_0.out a1 p102 q102; cases e102; replace hx102_0 := (HB.out.cell (World.block_lt_of_cell? w _ hx102_0)).trans hx102_0; replace hx102_1 := (HB.out.cell (World.block_lt_of_cell? w _ hx102_1)).trans hx102_1; replace hx102_2 := (HB.out.cell (World.block_lt_of_cell? w _ hx102_2)).trans hx102_2; replace hx102_3 := (HB.out.cell (World.block_lt_of_cell? w _ hx102_3)).trans hx102_3; replace hx102_4 := (HB.out.cell (World.block_lt_of_cell? w _ hx102_4)).trans hx102_4; replace hx102_5 := (HB.out.cell (World.block_lt_of_cell? w _ hx102_5)).trans hx102_5; replace hx102_6 := (HB.out.cell (World.block_lt_of_cell? w _ hx102_6)).trans hx102_6; replace hx102_7 := (HB.out.cell (World.block_lt_of_cell? w _ hx102_7)).trans hx102_7; replace hx102_8 := (HB.out.cell (World.block_lt_of_cell? w _ hx102_8)).trans hx102_8; replace hx102_9 := (HB.out.cell (World.block_lt_of_cell? w _ hx102_9)).trans hx102_9; have HR102_3 := Aside0.mk hi102_3; have HC102_3 := Aside0.mk hl102_3; clear hi102_3 hl102_3; have HR102_4 := Aside0.mk hi102_4; have HC102_4 := Aside0.mk hl102_4; clear hi102_4 hl102_4; have HR102_8 := Aside0.mk hi102_8; have HC102_8 := Aside0.mk hl102_8; clear hi102_8 hl102_8; have HR102_9 := Aside0.mk hi102_9; have HC102_9 := Aside0.mk hl102_9; clear hi102_9 hl102_9; replace p102 := eq_true p102; replace q102 := eq_true q102) | ((with_reducible refine gate_dst (N := 5) rfl ?_); (try (refine gate_guard (by rfl) ?_; dsimp only)); refine box_event ?hg (N := 5) ?hd (cs := #[.int .i64 0, .int .i64 0, .int .i64 0, .slice none 0 0, .slice none 0 0, .int .i64 0, .int .i64 0, .int .i64 0, .slice none 0 0, .slice none 0 0]) (t := 34) ?hr ?_; (case hd => rfl); (case hg => rfl); (case hr => first | (go_simp; done) | (go_simp; rfl)); intro gb103 hg w7 hbox hb; have n0_ := Aside0.mk (blk_below (g := gb101) (o := .cells #[.slice (some ad102) l0_0.length c0_0, .int .i64 a0_1, .bool a0_2] 24 (0, 0)) (by (with_reducible repeat (first | refine blk_drewN ?_ _ | refine blk_drew ?_ | refine blk_alloc ?_ _)); exact BK101.out) hb); have n1_ := Aside0.mk (below_step (by repeat (first | (with_reducible first | exact HB.out | apply below_alloc | apply pw_below_drewN | apply below_drew1 | refine below_set ?_ GE101.out) | exact HB.out)) hb); have n2_ := Aside0.mk (hbox); have n3_ := Aside0.mk ((by rw [hg]; exact (below_size (by repeat (first | (with_reducible first | exact HB.out | apply below_alloc | apply pw_below_drewN | apply below_drew1 | refine below_set ?_ GE101.out) | exact HB.out))) : w.heap.size ≤ gb103)); have n4_ := Aside0.mk ((by rw [hg]; exact (below_size (by repeat (first | (with_reducible first | exact HB.out | apply below_alloc | apply pw_below_drewN | apply below_drew1 | refine below_set ?_ GE101.out) | exact HB.out))) : w.heap.size ≤ gb103)); have n5_ := Aside0.mk ((by rw [hg]; exact Nat.ne_of_lt (blk_lt (g := gb101) (o := .cells #[.slice (some ad102) l0_0.length c0_0, .int .i64 a0_1, .bool a0_2] 24 (0, 0)) (by (with_reducible repeat (first | refine blk_drewN ?_ _ | refine blk_drew ?_ | refine blk_alloc ?_ _)); exact BK101.out)) : gb101 ≠ gb103)); have n6_ := Aside0.mk ((by rw [hg]; exact Nat.ne_of_gt (blk_lt (g := gb101) (o := .cells #[.slice (some ad102) l0_0.length c0_0, .int .i64 a0_1, .bool a0_2] 24 (0, 0)) (by (with_reducible repeat (first | refine blk_drewN ?_ _ | refine blk_drew ?_ | refine blk_alloc ?_ _)); exact BK101.out)) : gb103 ≠ gb101)); clear BK101; clear HB; have BK101 := n0_; have HB := n1_; have BK103 := n2_; have GW103 := n3_; have GE103 := n4_; have NB101_103 := n5_; have NB103_101 := n6_; clear n0_ n1_ n2_ n3_ n4_ n5_ n6_; clear hb hbox hg; have hnb8 := NB103_101.out; have hnc8 := NB101_103.out; have hcz9_0 : w7.cell? ⟨gb103, 0, none⟩ = some (.int .i64 0) := (blk_cell BK103.out 0).trans rfl; have hcz9_1 : w7.cell? ⟨gb103, 1, none⟩ = some (.int .i64 0) := (blk_cell BK103.out 1).trans rfl; have hcz9_2 : w7.cell? ⟨gb103, 2, none⟩ = some (.int .i64 0) := (blk_cell BK103.out 2).trans rfl; have hcz9_3 : w7.cell? ⟨gb103, 3, none⟩ = some (.slice none 0 0) := (blk_cell BK103.out 3).trans rfl; have hcz9_4 : w7.cell? ⟨gb103, 4, none⟩ = some (.slice none 0 0) := (blk_cell BK103.out 4).trans rfl; have hcz9_5 : w7.cell? ⟨gb103, 5, none⟩ = some (.int .i64 0) := (blk_cell BK103.out 5).trans rfl; have hcz9_6 : w7.cell? ⟨gb103, 6, none⟩ = some (.int .i64 0) := (blk_cell BK103.out 6).trans rfl; have hcz9_7 : w7.cell? ⟨gb103, 7, none⟩ = some (.int .i64 0) := (blk_cell BK103.out 7).trans rfl; have hcz9_8 : w7.cell? ⟨gb103, 8, none⟩ = some (.slice none 0 0) := (blk_cell BK103.out 8).trans rfl; have hcz9_9 : w7.cell? ⟨gb103, 9, none⟩ = some (.slice none 0 0) := (blk_cell BK103.out 9).trans rfl; have hfz9_0 := blk_frozen BK103.out 0; have hfz9_1 := blk_frozen BK103.out 1; have hfz9_2 := blk_frozen BK103.out 2; have hfz9_3 := blk_frozen BK103.out 3; have hfz9_4 := blk_frozen BK103.out 4; have hfz9_5 := blk_frozen BK103.out 5; have hfz9_6 := blk_frozen BK103.out 6; have hfz9_7 := blk_frozen BK103.out 7; have hfz9_8 := blk_frozen BK103.out 8; have hfz9_9 := blk_frozen BK103.out 9))
      go_loopg [6, 7] k (fun kq v6 v7 w' => ∃ (x6_1 : Int) (x7_1 : Int), v6 = .int .i64 x6_1 ∧ v7 = .int .i64 x7_1 ∧ Aside0 (cofferdamref15_extents.l0 kq a1 x6_1 x7_1 l0_0 a0_1 a0_2 ((rd_T34 l0_0 a1).f0) ((rd_T34 l0_0 a1).f1) ((rd_T34 l0_0 a1).f2) ((rd_T34 l0_0 a1).f3) ((rd_T34 l0_0 a1).f4) ((rd_T34 l0_0 a1).f5) ((rd_T34 l0_0 a1).f6) ((rd_T34 l0_0 a1).f7) ((rd_T34 l0_0 a1).f8) ((rd_T34 l0_0 a1).f9) = some r) ∧ Aside0 (kq ≤ k) ∧ Aside0 (w'.heap[gb101]? = some (.cells #[(.slice (some ad102) l0_0.length c0_0), .int .i64 a0_1, .bool a0_2] 24 (0, 0))) ∧ Aside0 (w'.heap[gb103]? = some (.cells #[.int .i64 ((rd_T34 l0_0 a1).f0), .int .i64 ((rd_T34 l0_0 a1).f1), .int .i64 ((rd_T34 l0_0 a1).f2), (.slice A102_3 ((rd_T34 l0_0 a1).f3).length c102_3), (.slice A102_4 ((rd_T34 l0_0 a1).f4).length c102_4), .int .i64 ((rd_T34 l0_0 a1).f5), .int .i64 ((rd_T34 l0_0 a1).f6), .int .i64 ((rd_T34 l0_0 a1).f7), (.slice A102_8 ((rd_T34 l0_0 a1).f8).length c102_8), (.slice A102_9 ((rd_T34 l0_0 a1).f9).length c102_9)] 34 (0, 0))) ∧ Aside0 (Below w.heap.size w w'))
      case atStart => exact ⟨(0), (0), (by first | rfl | (simp; done) | (simp [*]; done)), (by first | rfl | (simp; done) | (simp [*]; done)), H', ⟨Nat.le_refl _⟩, ⟨by (with_reducible repeat (first | refine blk_drewN ?_ _ | refine blk_drew ?_ | refine blk_alloc ?_ _)); refine blk_far ?_ NB101_103.out _; (with_reducible repeat (first | refine blk_drewN ?_ _ | refine blk_drew ?_ | refine blk_alloc ?_ _)); refine blk_far ?_ NB101_103.out _; (with_reducible repeat (first | refine blk_drewN ?_ _ | refine blk_drew ?_ | refine blk_alloc ?_ _)); refine blk_far ?_ NB101_103.out _; (with_reducible repeat (first | refine blk_drewN ?_ _ | refine blk_drew ?_ | refine blk_alloc ?_ _)); refine blk_far ?_ NB101_103.out _; (with_reducible repeat (first | refine blk_drewN ?_ _ | refine blk_drew ?_ | refine blk_alloc ?_ _)); refine blk_far ?_ NB101_103.out _; (with_reducible repeat (first | refine blk_drewN ?_ _ | refine blk_drew ?_ | refine blk_alloc ?_ _)); refine blk_far ?_ NB101_103.out _; (with_reducible repeat (first | refine blk_drewN ?_ _ | refine blk_drew ?_ | refine blk_alloc ?_ _)); refine blk_far ?_ NB101_103.out _; (with_reducible repeat (first | refine blk_drewN ?_ _ | refine blk_drew ?_ | refine blk_alloc ?_ _)); refine blk_far ?_ NB101_103.out _; (with_reducible repeat (first | refine blk_drewN ?_ _ | refine blk_drew ?_ | refine blk_alloc ?_ _)); refine blk_far ?_ NB101_103.out _; (with_reducible repeat (first | refine blk_drewN ?_ _ | refine blk_drew ?_ | refine blk_alloc ?_ _)); refine blk_far ?_ NB101_103.out _; (with_reducible repeat (first | refine blk_drewN ?_ _ | refine blk_drew ?_ | refine blk_alloc ?_ _)); exact BK101.out⟩, ⟨by (with_reducible repeat (first | refine blk_drewN ?_ _ | refine blk_drew ?_ | refine blk_alloc ?_ _)); refine blk_put (cs := #[.int .i64 ((rd_T34 l0_0 a1).f0), .int .i64 ((rd_T34 l0_0 a1).f1), .int .i64 ((rd_T34 l0_0 a1).f2), .slice A102_3 ((rd_T34 l0_0 a1).f3).length c102_3, .slice A102_4 ((rd_T34 l0_0 a1).f4).length c102_4, .int .i64 ((rd_T34 l0_0 a1).f5), .int .i64 ((rd_T34 l0_0 a1).f6), .int .i64 ((rd_T34 l0_0 a1).f7), .slice A102_8 ((rd_T34 l0_0 a1).f8).length c102_8, .slice none 0 0]) ?_ 9 _ rfl; (with_reducible repeat (first | refine blk_drewN ?_ _ | refine blk_drew ?_ | refine blk_alloc ?_ _)); refine blk_put (cs := #[.int .i64 ((rd_T34 l0_0 a1).f0), .int .i64 ((rd_T34 l0_0 a1).f1), .int .i64 ((rd_T34 l0_0 a1).f2), .slice A102_3 ((rd_T34 l0_0 a1).f3).length c102_3, .slice A102_4 ((rd_T34 l0_0 a1).f4).length c102_4, .int .i64 ((rd_T34 l0_0 a1).f5), .int .i64 ((rd_T34 l0_0 a1).f6), .int .i64 ((rd_T34 l0_0 a1).f7), .slice none 0 0, .slice none 0 0]) ?_ 8 _ rfl; (with_reducible repeat (first | refine blk_drewN ?_ _ | refine blk_drew ?_ | refine blk_alloc ?_ _)); refine blk_put (cs := #[.int .i64 ((rd_T34 l0_0 a1).f0), .int .i64 ((rd_T34 l0_0 a1).f1), .int .i64 ((rd_T34 l0_0 a1).f2), .slice A102_3 ((rd_T34 l0_0 a1).f3).length c102_3, .slice A102_4 ((rd_T34 l0_0 a1).f4).length c102_4, .int .i64 ((rd_T34 l0_0 a1).f5), .int .i64 ((rd_T34 l0_0 a1).f6), .int .i64 0, .slice none 0 0, .slice none 0 0]) ?_ 7 _ rfl; (with_reducible repeat (first | refine blk_drewN ?_ _ | refine blk_drew ?_ | refine blk_alloc ?_ _)); refine blk_put (cs := #[.int .i64 ((rd_T34 l0_0 a1).f0), .int .i64 ((rd_T34 l0_0 a1).f1), .int .i64 ((rd_T34 l0_0 a1).f2), .slice A102_3 ((rd_T34 l0_0 a1).f3).length c102_3, .slice A102_4 ((rd_T34 l0_0 a1).f4).length c102_4, .int .i64 ((rd_T34 l0_0 a1).f5), .int .i64 0, .int .i64 0, .slice none 0 0, .slice none 0 0]) ?_ 6 _ rfl; (with_reducible repeat (first | refine blk_drewN ?_ _ | refine blk_drew ?_ | refine blk_alloc ?_ _)); refine blk_put (cs := #[.int .i64 ((rd_T34 l0_0 a1).f0), .int .i64 ((rd_T34 l0_0 a1).f1), .int .i64 ((rd_T34 l0_0 a1).f2), .slice A102_3 ((rd_T34 l0_0 a1).f3).length c102_3, .slice A102_4 ((rd_T34 l0_0 a1).f4).length c102_4, .int .i64 0, .int .i64 0, .int .i64 0, .slice none 0 0, .slice none 0 0]) ?_ 5 _ rfl; (with_reducible repeat (first | refine blk_drewN ?_ _ | refine blk_drew ?_ | refine blk_alloc ?_ _)); refine blk_put (cs := #[.int .i64 ((rd_T34 l0_0 a1).f0), .int .i64 ((rd_T34 l0_0 a1).f1), .int .i64 ((rd_T34 l0_0 a1).f2), .slice A102_3 ((rd_T34 l0_0 a1).f3).length c102_3, .slice none 0 0, .int .i64 0, .int .i64 0, .int .i64 0, .slice none 0 0, .slice none 0 0]) ?_ 4 _ rfl; (with_reducible repeat (first | refine blk_drewN ?_ _ | refine blk_drew ?_ | refine blk_alloc ?_ _)); refine blk_put (cs := #[.int .i64 ((rd_T34 l0_0 a1).f0), .int .i64 ((rd_T34 l0_0 a1).f1), .int .i64 ((rd_T34 l0_0 a1).f2), .slice none 0 0, .slice none 0 0, .int .i64 0, .int .i64 0, .int .i64 0, .slice none 0 0, .slice none 0 0]) ?_ 3 _ rfl; (with_reducible repeat (first | refine blk_drewN ?_ _ | refine blk_drew ?_ | refine blk_alloc ?_ _)); refine blk_put (cs := #[.int .i64 ((rd_T34 l0_0 a1).f0), .int .i64 ((rd_T34 l0_0 a1).f1), .int .i64 0, .slice none 0 0, .slice none 0 0, .int .i64 0, .int .i64 0, .int .i64 0, .slice none 0 0, .slice none 0 0]) ?_ 2 _ rfl; (with_reducible repeat (first | refine blk_drewN ?_ _ | refine blk_drew ?_ | refine blk_alloc ?_ _)); refine blk_put (cs := #[.int .i64 ((rd_T34 l0_0 a1).f0), .int .i64 0, .int .i64 0, .slice none 0 0, .slice none 0 0, .int .i64 0, .int .i64 0, .int .i64 0, .slice none 0 0, .slice none 0 0]) ?_ 1 _ rfl; (with_reducible repeat (first | refine blk_drewN ?_ _ | refine blk_drew ?_ | refine blk_alloc ?_ _)); refine blk_put (cs := #[.int .i64 0, .int .i64 0, .int .i64 0, .slice none 0 0, .slice none 0 0, .int .i64 0, .int .i64 0, .int .i64 0, .slice none 0 0, .slice none 0 0]) ?_ 0 _ rfl; (with_reducible repeat (first | refine blk_drewN ?_ _ | refine blk_drew ?_ | refine blk_alloc ?_ _)); exact BK103.out⟩, ⟨by repeat (first | (with_reducible first | exact HB.out | apply below_alloc | apply pw_below_drewN | apply below_drew1 | refine below_set ?_ GE101.out | refine below_set ?_ GE103.out) | exact HB.out)⟩⟩
      case round =>
        clear H'
        try clear c1
        try clear p1
        try clear q1
        try clear hx1
        try clear c2
        try clear p2
        try clear c3
        try clear c3b0
        try clear c4
        try clear c4b0
        try clear c8
        try clear hcz6_0
        try clear hcz6_1
        try clear hcz6_2
        try clear hcz9_0
        try clear hcz9_1
        try clear hcz9_2
        try clear hcz9_3
        try clear hcz9_4
        try clear hcz9_5
        try clear hcz9_6
        try clear hcz9_7
        try clear hcz9_8
        try clear hcz9_9
        try clear hfz6_0
        try clear hfz6_1
        try clear hfz6_2
        try clear hfz9_0
        try clear hfz9_1
        try clear hfz9_2
        try clear hfz9_3
        try clear hfz9_4
        try clear hfz9_5
        try clear hfz9_6
        try clear hfz9_7
        try clear hfz9_8
        try clear hfz9_9
        try clear hx102_0
        try clear hx102_1
        try clear hx102_2
        try clear hx102_3
        try clear hx102_4
        try clear hx102_5
        try clear hx102_6
        try clear hx102_7
        try clear hx102_8
        try clear hx102_9
        try clear p102
        try clear q102
        obtain ⟨x6_1, x7_1, rfl, rfl, HA, HK1, BK101, BK103, HB⟩ := hrel
        cases gk with
        | zero => exact absurd HA.out (by simp [cofferdamref15_extents.l0])
        | succ k1 =>
          have H := HA.out
          clear HA
          simp only [cofferdamref15_extents.l0] at H
          by_cases c10 : x7_1 < (((rd_T34 l0_0 a1).f3).length : Int)
          · rw [if_pos c10] at H
            have c10b0 : decide (x7_1 < (((rd_T34 l0_0 a1).f3).length : Int)) = true := decide_eq_true c10
            clear c10
            by_cases c11 : 0 ≤ x7_1
            · rw [if_pos c11] at H
              have c11b0 : decide (0 ≤ x7_1) = true := decide_eq_true c11
              clear c11
              have HC12 := Aside0.mk H
              clear H
              have hnb13 := NB103_101.out
              have hnc13 := NB101_103.out
              have hcz14_0 : wr.cell? ⟨gb103, 0, none⟩ = some (.int .i64 ((rd_T34 l0_0 a1).f0)) := (blk_cell BK103.out 0).trans rfl
              have hcz14_1 : wr.cell? ⟨gb103, 1, none⟩ = some (.int .i64 ((rd_T34 l0_0 a1).f1)) := (blk_cell BK103.out 1).trans rfl
              have hcz14_2 : wr.cell? ⟨gb103, 2, none⟩ = some (.int .i64 ((rd_T34 l0_0 a1).f2)) := (blk_cell BK103.out 2).trans rfl
              have hcz14_3 : wr.cell? ⟨gb103, 3, none⟩ = some (.slice A102_3 ((rd_T34 l0_0 a1).f3).length c102_3) := (blk_cell BK103.out 3).trans rfl
              have hcz14_4 : wr.cell? ⟨gb103, 4, none⟩ = some (.slice A102_4 ((rd_T34 l0_0 a1).f4).length c102_4) := (blk_cell BK103.out 4).trans rfl
              have hcz14_5 : wr.cell? ⟨gb103, 5, none⟩ = some (.int .i64 ((rd_T34 l0_0 a1).f5)) := (blk_cell BK103.out 5).trans rfl
              have hcz14_6 : wr.cell? ⟨gb103, 6, none⟩ = some (.int .i64 ((rd_T34 l0_0 a1).f6)) := (blk_cell BK103.out 6).trans rfl
              have hcz14_7 : wr.cell? ⟨gb103, 7, none⟩ = some (.int .i64 ((rd_T34 l0_0 a1).f7)) := (blk_cell BK103.out 7).trans rfl
              have hcz14_8 : wr.cell? ⟨gb103, 8, none⟩ = some (.slice A102_8 ((rd_T34 l0_0 a1).f8).length c102_8) := (blk_cell BK103.out 8).trans rfl
              have hcz14_9 : wr.cell? ⟨gb103, 9, none⟩ = some (.slice A102_9 ((rd_T34 l0_0 a1).f9).length c102_9) := (blk_cell BK103.out 9).trans rfl
              have hfz14_0 := blk_frozen BK103.out 0
              have hfz14_1 := blk_frozen BK103.out 1
              have hfz14_2 := blk_frozen BK103.out 2
              have hfz14_3 := blk_frozen BK103.out 3
              have hfz14_4 := blk_frozen BK103.out 4
              have hfz14_5 := blk_frozen BK103.out 5
              have hfz14_6 := blk_frozen BK103.out 6
              have hfz14_7 := blk_frozen BK103.out 7
              have hfz14_8 := blk_frozen BK103.out 8
              have hfz14_9 := blk_frozen BK103.out 9
              have p104 : 0 ≤ (x7_1 : Int) := of_decide_eq_true (by first | (with_reducible assumption) | assumption)
              have q104 : x7_1 < (((rd_T34 l0_0 a1).f3).length : Int) := of_decide_eq_true (by first | (with_reducible assumption) | assumption)
              obtain ⟨ad104, e104, hx104_0, hx104_1, hx104_2, hx104_3⟩ := at_T36 HR102_3.out x7_1 p104 q104
              cases e104
              replace hx104_0 := (HB.out.cell (World.block_lt_of_cell? w _ hx104_0)).trans hx104_0
              replace hx104_1 := (HB.out.cell (World.block_lt_of_cell? w _ hx104_1)).trans hx104_1
              replace hx104_2 := (HB.out.cell (World.block_lt_of_cell? w _ hx104_2)).trans hx104_2
              replace hx104_3 := (HB.out.cell (World.block_lt_of_cell? w _ hx104_3)).trans hx104_3
              replace p104 := eq_true p104
              replace q104 := eq_true q104
              go_upto_region 7 with (first | ((with_reducible refine gate_dst (N := 8) rfl ?_); (try (refine gate_guard (by rfl) ?_; dsimp only)); refine box_event ?hg (N := 8) ?hd (cs := #[.int .i64 0, .int .i64 0, .int .i64 0, .int .i64 0]) (t := 36) ?hr ?_; (case hd => rfl); (case hg => rfl); (case hr => first | (go_simp; done) | (go_simp; rfl)); intro gb105 hg w15 hbox hb; have n0_ := Aside0.mk (blk_below (g := gb101) (o := .cells #[.slice (some ad102) l0_0.length c0_0, .int .i64 a0_1, .bool a0_2] 24 (0, 0)) (by (with_reducible repeat (first | refine blk_drewN ?_ _ | refine blk_drew ?_ | refine blk_alloc ?_ _)); exact BK101.out) hb); have n1_ := Aside0.mk (blk_below (g := gb103) (o := .cells #[.int .i64 ((rd_T34 l0_0 a1).f0), .int .i64 ((rd_T34 l0_0 a1).f1), .int .i64 ((rd_T34 l0_0 a1).f2), .slice (some ad104) ((rd_T34 l0_0 a1).f3).length c102_3, .slice A102_4 ((rd_T34 l0_0 a1).f4).length c102_4, .int .i64 ((rd_T34 l0_0 a1).f5), .int .i64 ((rd_T34 l0_0 a1).f6), .int .i64 ((rd_T34 l0_0 a1).f7), .slice A102_8 ((rd_T34 l0_0 a1).f8).length c102_8, .slice A102_9 ((rd_T34 l0_0 a1).f9).length c102_9] 34 (0, 0)) (by (with_reducible repeat (first | refine blk_drewN ?_ _ | refine blk_drew ?_ | refine blk_alloc ?_ _)); exact BK103.out) hb); have n2_ := Aside0.mk (below_step (by repeat (first | (with_reducible first | exact HB.out | apply below_alloc | apply pw_below_drewN | apply below_drew1 | refine below_set ?_ GE101.out | refine below_set ?_ GE103.out) | exact HB.out)) hb); have n3_ := Aside0.mk (hbox); have n4_ := Aside0.mk ((by rw [hg]; exact (below_size (by repeat (first | (with_reducible first | exact HB.out | apply below_alloc | apply pw_below_drewN | apply below_drew1 | refine below_set ?_ GE101.out | refine below_set ?_ GE103.out) | exact HB.out))) : w.heap.size ≤ gb105)); have n5_ := Aside0.mk ((by rw [hg]; exact (below_size (by repeat (first | (with_reducible first | exact HB.out | apply below_alloc | apply pw_below_drewN | apply below_drew1 | refine below_set ?_ GE101.out | refine below_set ?_ GE103.out) | exact HB.out))) : w.heap.size ≤ gb105)); have n6_ := Aside0.mk ((by rw [hg]; exact Nat.ne_of_lt (blk_lt (g := gb101) (o := .cells #[.slice (some ad102) l0_0.length c0_0, .int .i64 a0_1, .bool a0_2] 24 (0, 0)) (by (with_reducible repeat (first | refine blk_drewN ?_ _ | refine blk_drew ?_ | refine blk_alloc ?_ _)); exact BK101.out)) : gb101 ≠ gb105)); have n7_ := Aside0.mk ((by rw [hg]; exact Nat.ne_of_gt (blk_lt (g := gb101) (o := .cells #[.slice (some ad102) l0_0.length c0_0, .int .i64 a0_1, .bool a0_2] 24 (0, 0)) (by (with_reducible repeat (first | refine blk_drewN ?_ _ | refine blk_drew ?_ | refine blk_alloc ?_ _)); exact BK101.out)) : gb105 ≠ gb101)); have n8_ := Aside0.mk ((by rw [hg]; exact Nat.ne_of_lt (blk_lt (g := gb103) (o := .cells #[.int .i64 ((rd_T34 l0_0 a1).f0), .int .i64 ((rd_T34 l0_0 a1).f1), .int .i64 ((rd_T34 l0_0 a1).f2), .slice (some ad104) ((rd_T34 l0_0 a1).f3).length c102_3, .slice A102_4 ((rd_T34 l0_0 a1).f4).length c102_4, .int .i64 ((rd_T34 l0_0 a1).f5), .int .i64 ((rd_T34 l0_0 a1).f6), .int .i64 ((rd_T34 l0_0 a1).f7), .slice A102_8 ((rd_T34 l0_0 a1).f8).length c102_8, .slice A102_9 ((rd_T34 l0_0 a1).f9).length c102_9] 34 (0, 0)) (by (with_reducible repeat (first | refine blk_drewN ?_ _ | refine blk_drew ?_ | refine blk_alloc ?_ _)); exact BK103.out)) : gb103 ≠ gb105)); have n9_ := Aside0.mk ((by rw [hg]; exact Nat.ne_of_gt (blk_lt (g := gb103) (o := .cells #[.int .i64 ((rd_T34 l0_0 a1).f0), .int .i64 ((rd_T34 l0_0 a1).f1), .int .i64 ((rd_T34 l0_0 a1).f2), .slice (some ad104) ((rd_T34 l0_0 a1).f3).length c102_3, .slice A102_4 ((rd_T34 l0_0 a1).f4).length c102_4, .int .i64 ((rd_T34 l0_0 a1).f5), .int .i64 ((rd_T34 l0_0 a1).f6), .int .i64 ((rd_T34 l0_0 a1).f7), .slice A102_8 ((rd_T34 l0_0 a1).f8).length c102_8, .slice A102_9 ((rd_T34 l0_0 a1).f9).length c102_9] 34 (0, 0)) (by (with_reducible repeat (first | refine blk_drewN ?_ _ | refine blk_drew ?_ | refine blk_alloc ?_ _)); exact BK103.out)) : gb105 ≠ gb103)); clear BK101; clear BK103; clear HB; have BK101 := n0_; have BK103 := n1_; have HB := n2_; have BK105 := n3_; have GW105 := n4_; have GE105 := n5_; have NB101_105 := n6_; have NB105_101 := n7_; have NB103_105 := n8_; have NB105_103 := n9_; clear n0_ n1_ n2_ n3_ n4_ n5_ n6_ n7_ n8_ n9_; clear hb hbox hg; have hnb16 := NB105_101.out; have hnc16 := NB101_105.out; have hnb17 := NB105_103.out; have hnc17 := NB103_105.out; have hcz18_0 : w15.cell? ⟨gb105, 0, none⟩ = some (.int .i64 0) := (blk_cell BK105.out 0).trans rfl; have hcz18_1 : w15.cell? ⟨gb105, 1, none⟩ = some (.int .i64 0) := (blk_cell BK105.out 1).trans rfl; have hcz18_2 : w15.cell? ⟨gb105, 2, none⟩ = some (.int .i64 0) := (blk_cell BK105.out 2).trans rfl; have hcz18_3 : w15.cell? ⟨gb105, 3, none⟩ = some (.int .i64 0) := (blk_cell BK105.out 3).trans rfl; have hfz18_0 := blk_frozen BK105.out 0; have hfz18_1 := blk_frozen BK105.out 1; have hfz18_2 := blk_frozen BK105.out 2; have hfz18_3 := blk_frozen BK105.out 3))
              (try simp only [Act.put, List.setIfInBounds_toArray, List.set_cons_zero, List.set_cons_succ])
              go_cut [55] (fun v55 wc => ∃ (kq : Nat) (x55_11 : Bool), v55 = .bool x55_11 ∧ Aside0 (cofferdamref15_extents.j1 kq a1 x6_1 x7_1 x55_11 l0_0 a0_1 a0_2 ((rd_T34 l0_0 a1).f0) ((rd_T34 l0_0 a1).f1) ((rd_T34 l0_0 a1).f2) ((rd_T34 l0_0 a1).f3) ((rd_T34 l0_0 a1).f4) ((rd_T34 l0_0 a1).f5) ((rd_T34 l0_0 a1).f6) ((rd_T34 l0_0 a1).f7) ((rd_T34 l0_0 a1).f8) ((rd_T34 l0_0 a1).f9) ((rd_T36 ((rd_T34 l0_0 a1).f3) x7_1).f0) ((rd_T36 ((rd_T34 l0_0 a1).f3) x7_1).f1) ((rd_T36 ((rd_T34 l0_0 a1).f3) x7_1).f2) ((rd_T36 ((rd_T34 l0_0 a1).f3) x7_1).f3) = some r) ∧ Aside0 (kq ≤ k1) ∧ Aside0 (wc.heap[gb101]? = some (.cells #[(.slice (some ad102) l0_0.length c0_0), .int .i64 a0_1, .bool a0_2] 24 (0, 0))) ∧ Aside0 (wc.heap[gb103]? = some (.cells #[.int .i64 ((rd_T34 l0_0 a1).f0), .int .i64 ((rd_T34 l0_0 a1).f1), .int .i64 ((rd_T34 l0_0 a1).f2), (.slice (some ad104) ((rd_T34 l0_0 a1).f3).length c102_3), (.slice A102_4 ((rd_T34 l0_0 a1).f4).length c102_4), .int .i64 ((rd_T34 l0_0 a1).f5), .int .i64 ((rd_T34 l0_0 a1).f6), .int .i64 ((rd_T34 l0_0 a1).f7), (.slice A102_8 ((rd_T34 l0_0 a1).f8).length c102_8), (.slice A102_9 ((rd_T34 l0_0 a1).f9).length c102_9)] 34 (0, 0))) ∧ Aside0 (wc.heap[gb105]? = some (.cells #[.int .i64 ((rd_T36 ((rd_T34 l0_0 a1).f3) x7_1).f0), .int .i64 ((rd_T36 ((rd_T34 l0_0 a1).f3) x7_1).f1), .int .i64 ((rd_T36 ((rd_T34 l0_0 a1).f3) x7_1).f2), .int .i64 ((rd_T36 ((rd_T34 l0_0 a1).f3) x7_1).f3)] 36 (0, 0))) ∧ Aside0 (Below w.heap.size w wc))
              case first =>
                have H := HC12.out
                clear HC12
                by_cases c19 : ((rd_T36 ((rd_T34 l0_0 a1).f3) x7_1).f2) < 0
                · rw [if_pos c19] at H
                  have c19b0 : decide (((rd_T36 ((rd_T34 l0_0 a1).f3) x7_1).f2) < 0) = true := decide_eq_true c19
                  clear c19
                  (first | rw [c19b0] | (simp only [i64_w, i32_w]; rw [c19b0]) | skip)
                  have H' := Aside0.mk H
                  clear H
                  have hnb20 := NB105_101.out
                  have hnc20 := NB101_105.out
                  have hnb21 := NB105_103.out
                  have hnc21 := NB103_105.out
                  have hcz22_0 : w15.cell? ⟨gb105, 0, none⟩ = some (.int .i64 0) := (blk_cell BK105.out 0).trans rfl
                  have hcz22_1 : w15.cell? ⟨gb105, 1, none⟩ = some (.int .i64 0) := (blk_cell BK105.out 1).trans rfl
                  have hcz22_2 : w15.cell? ⟨gb105, 2, none⟩ = some (.int .i64 0) := (blk_cell BK105.out 2).trans rfl
                  have hcz22_3 : w15.cell? ⟨gb105, 3, none⟩ = some (.int .i64 0) := (blk_cell BK105.out 3).trans rfl
                  have hfz22_0 := blk_frozen BK105.out 0
                  have hfz22_1 := blk_frozen BK105.out 1
                  have hfz22_2 := blk_frozen BK105.out 2
                  have hfz22_3 := blk_frozen BK105.out 3
                  go_wp2
                  go_meet
                  case rel => exact ⟨_, (true), (by first | rfl | (simp; done) | (simp [*]; done)), H', ⟨by have := HK1.out; first | omega | exact Nat.le_refl _⟩, ⟨by (with_reducible repeat (first | refine blk_drewN ?_ _ | refine blk_drew ?_ | refine blk_alloc ?_ _)); refine blk_far ?_ NB101_105.out _; (with_reducible repeat (first | refine blk_drewN ?_ _ | refine blk_drew ?_ | refine blk_alloc ?_ _)); refine blk_far ?_ NB101_105.out _; (with_reducible repeat (first | refine blk_drewN ?_ _ | refine blk_drew ?_ | refine blk_alloc ?_ _)); refine blk_far ?_ NB101_105.out _; (with_reducible repeat (first | refine blk_drewN ?_ _ | refine blk_drew ?_ | refine blk_alloc ?_ _)); refine blk_far ?_ NB101_105.out _; (with_reducible repeat (first | refine blk_drewN ?_ _ | refine blk_drew ?_ | refine blk_alloc ?_ _)); exact BK101.out⟩, ⟨by (with_reducible repeat (first | refine blk_drewN ?_ _ | refine blk_drew ?_ | refine blk_alloc ?_ _)); refine blk_far ?_ NB103_105.out _; (with_reducible repeat (first | refine blk_drewN ?_ _ | refine blk_drew ?_ | refine blk_alloc ?_ _)); refine blk_far ?_ NB103_105.out _; (with_reducible repeat (first | refine blk_drewN ?_ _ | refine blk_drew ?_ | refine blk_alloc ?_ _)); refine blk_far ?_ NB103_105.out _; (with_reducible repeat (first | refine blk_drewN ?_ _ | refine blk_drew ?_ | refine blk_alloc ?_ _)); refine blk_far ?_ NB103_105.out _; (with_reducible repeat (first | refine blk_drewN ?_ _ | refine blk_drew ?_ | refine blk_alloc ?_ _)); exact BK103.out⟩, ⟨by (with_reducible repeat (first | refine blk_drewN ?_ _ | refine blk_drew ?_ | refine blk_alloc ?_ _)); refine blk_put (cs := #[.int .i64 ((rd_T36 ((rd_T34 l0_0 a1).f3) x7_1).f0), .int .i64 ((rd_T36 ((rd_T34 l0_0 a1).f3) x7_1).f1), .int .i64 ((rd_T36 ((rd_T34 l0_0 a1).f3) x7_1).f2), .int .i64 0]) ?_ 3 _ rfl; (with_reducible repeat (first | refine blk_drewN ?_ _ | refine blk_drew ?_ | refine blk_alloc ?_ _)); refine blk_put (cs := #[.int .i64 ((rd_T36 ((rd_T34 l0_0 a1).f3) x7_1).f0), .int .i64 ((rd_T36 ((rd_T34 l0_0 a1).f3) x7_1).f1), .int .i64 0, .int .i64 0]) ?_ 2 _ rfl; (with_reducible repeat (first | refine blk_drewN ?_ _ | refine blk_drew ?_ | refine blk_alloc ?_ _)); refine blk_put (cs := #[.int .i64 ((rd_T36 ((rd_T34 l0_0 a1).f3) x7_1).f0), .int .i64 0, .int .i64 0, .int .i64 0]) ?_ 1 _ rfl; (with_reducible repeat (first | refine blk_drewN ?_ _ | refine blk_drew ?_ | refine blk_alloc ?_ _)); refine blk_put (cs := #[.int .i64 0, .int .i64 0, .int .i64 0, .int .i64 0]) ?_ 0 _ rfl; (with_reducible repeat (first | refine blk_drewN ?_ _ | refine blk_drew ?_ | refine blk_alloc ?_ _)); exact BK105.out⟩, ⟨by repeat (first | (with_reducible first | exact HB.out | apply below_alloc | apply pw_below_drewN | apply below_drew1 | refine below_set ?_ GE101.out | refine below_set ?_ GE103.out | refine below_set ?_ GE105.out) | exact HB.out)⟩⟩
                · rw [if_neg c19] at H
                  have c19b0 : decide (((rd_T36 ((rd_T34 l0_0 a1).f3) x7_1).f2) < 0) = false := decide_eq_false c19
                  clear c19
                  (first | rw [c19b0] | (simp only [i64_w, i32_w]; rw [c19b0]) | skip)
                  by_cases c23 : ((rd_T36 ((rd_T34 l0_0 a1).f3) x7_1).f2) ≥ a1
                  · rw [if_pos c23] at H
                    have c23b0 : decide (a1 ≤ ((rd_T36 ((rd_T34 l0_0 a1).f3) x7_1).f2)) = true := decide_eq_true c23
                    clear c23
                    have H' := Aside0.mk H
                    clear H
                    have hnb24 := NB105_101.out
                    have hnc24 := NB101_105.out
                    have hnb25 := NB105_103.out
                    have hnc25 := NB103_105.out
                    have hcz26_0 : w15.cell? ⟨gb105, 0, none⟩ = some (.int .i64 0) := (blk_cell BK105.out 0).trans rfl
                    have hcz26_1 : w15.cell? ⟨gb105, 1, none⟩ = some (.int .i64 0) := (blk_cell BK105.out 1).trans rfl
                    have hcz26_2 : w15.cell? ⟨gb105, 2, none⟩ = some (.int .i64 0) := (blk_cell BK105.out 2).trans rfl
                    have hcz26_3 : w15.cell? ⟨gb105, 3, none⟩ = some (.int .i64 0) := (blk_cell BK105.out 3).trans rfl
                    have hfz26_0 := blk_frozen BK105.out 0
                    have hfz26_1 := blk_frozen BK105.out 1
                    have hfz26_2 := blk_frozen BK105.out 2
                    have hfz26_3 := blk_frozen BK105.out 3
                    go_wp2
                    go_meet
                    case rel => exact ⟨_, (true), (by first | rfl | (simp; done) | (simp [*]; done)), H', ⟨by have := HK1.out; first | omega | exact Nat.le_refl _⟩, ⟨by (with_reducible repeat (first | refine blk_drewN ?_ _ | refine blk_drew ?_ | refine blk_alloc ?_ _)); refine blk_far ?_ NB101_105.out _; (with_reducible repeat (first | refine blk_drewN ?_ _ | refine blk_drew ?_ | refine blk_alloc ?_ _)); refine blk_far ?_ NB101_105.out _; (with_reducible repeat (first | refine blk_drewN ?_ _ | refine blk_drew ?_ | refine blk_alloc ?_ _)); refine blk_far ?_ NB101_105.out _; (with_reducible repeat (first | refine blk_drewN ?_ _ | refine blk_drew ?_ | refine blk_alloc ?_ _)); refine blk_far ?_ NB101_105.out _; (with_reducible repeat (first | refine blk_drewN ?_ _ | refine blk_drew ?_ | refine blk_alloc ?_ _)); exact BK101.out⟩, ⟨by (with_reducible repeat (first | refine blk_drewN ?_ _ | refine blk_drew ?_ | refine blk_alloc ?_ _)); refine blk_far ?_ NB103_105.out _; (with_reducible repeat (first | refine blk_drewN ?_ _ | refine blk_drew ?_ | refine blk_alloc ?_ _)); refine blk_far ?_ NB103_105.out _; (with_reducible repeat (first | refine blk_drewN ?_ _ | refine blk_drew ?_ | refine blk_alloc ?_ _)); refine blk_far ?_ NB103_105.out _; (with_reducible repeat (first | refine blk_drewN ?_ _ | refine blk_drew ?_ | refine blk_alloc ?_ _)); refine blk_far ?_ NB103_105.out _; (with_reducible repeat (first | refine blk_drewN ?_ _ | refine blk_drew ?_ | refine blk_alloc ?_ _)); exact BK103.out⟩, ⟨by (with_reducible repeat (first | refine blk_drewN ?_ _ | refine blk_drew ?_ | refine blk_alloc ?_ _)); refine blk_put (cs := #[.int .i64 ((rd_T36 ((rd_T34 l0_0 a1).f3) x7_1).f0), .int .i64 ((rd_T36 ((rd_T34 l0_0 a1).f3) x7_1).f1), .int .i64 ((rd_T36 ((rd_T34 l0_0 a1).f3) x7_1).f2), .int .i64 0]) ?_ 3 _ rfl; (with_reducible repeat (first | refine blk_drewN ?_ _ | refine blk_drew ?_ | refine blk_alloc ?_ _)); refine blk_put (cs := #[.int .i64 ((rd_T36 ((rd_T34 l0_0 a1).f3) x7_1).f0), .int .i64 ((rd_T36 ((rd_T34 l0_0 a1).f3) x7_1).f1), .int .i64 0, .int .i64 0]) ?_ 2 _ rfl; (with_reducible repeat (first | refine blk_drewN ?_ _ | refine blk_drew ?_ | refine blk_alloc ?_ _)); refine blk_put (cs := #[.int .i64 ((rd_T36 ((rd_T34 l0_0 a1).f3) x7_1).f0), .int .i64 0, .int .i64 0, .int .i64 0]) ?_ 1 _ rfl; (with_reducible repeat (first | refine blk_drewN ?_ _ | refine blk_drew ?_ | refine blk_alloc ?_ _)); refine blk_put (cs := #[.int .i64 0, .int .i64 0, .int .i64 0, .int .i64 0]) ?_ 0 _ rfl; (with_reducible repeat (first | refine blk_drewN ?_ _ | refine blk_drew ?_ | refine blk_alloc ?_ _)); exact BK105.out⟩, ⟨by repeat (first | (with_reducible first | exact HB.out | apply below_alloc | apply pw_below_drewN | apply below_drew1 | refine below_set ?_ GE101.out | refine below_set ?_ GE103.out | refine below_set ?_ GE105.out) | exact HB.out)⟩⟩
                  · rw [if_neg c23] at H
                    have c23b0 : decide (a1 ≤ ((rd_T36 ((rd_T34 l0_0 a1).f3) x7_1).f2)) = false := decide_eq_false c23
                    clear c23
                    by_cases c27 : ((rd_T36 ((rd_T34 l0_0 a1).f3) x7_1).f0) = x6_1
                    · rw [if_pos c27] at H
                      have c27b0 : (((rd_T36 ((rd_T34 l0_0 a1).f3) x7_1).f0) == x6_1) = true := beq_iff_eq.mpr c27
                      have c27b1 : (((rd_T36 ((rd_T34 l0_0 a1).f3) x7_1).f0) != x6_1) = false := bne_eq_false_iff_eq.mpr c27
                      clear c27
                      by_cases c28 : ((rd_T36 ((rd_T34 l0_0 a1).f3) x7_1).f1) < 1
                      · rw [if_pos c28] at H
                        have c28b0 : decide (((rd_T36 ((rd_T34 l0_0 a1).f3) x7_1).f1) < 1) = true := decide_eq_true c28
                        clear c28
                        have H' := Aside0.mk H
                        clear H
                        have hnb29 := NB105_101.out
                        have hnc29 := NB101_105.out
                        have hnb30 := NB105_103.out
                        have hnc30 := NB103_105.out
                        have hcz31_0 : w15.cell? ⟨gb105, 0, none⟩ = some (.int .i64 0) := (blk_cell BK105.out 0).trans rfl
                        have hcz31_1 : w15.cell? ⟨gb105, 1, none⟩ = some (.int .i64 0) := (blk_cell BK105.out 1).trans rfl
                        have hcz31_2 : w15.cell? ⟨gb105, 2, none⟩ = some (.int .i64 0) := (blk_cell BK105.out 2).trans rfl
                        have hcz31_3 : w15.cell? ⟨gb105, 3, none⟩ = some (.int .i64 0) := (blk_cell BK105.out 3).trans rfl
                        have hfz31_0 := blk_frozen BK105.out 0
                        have hfz31_1 := blk_frozen BK105.out 1
                        have hfz31_2 := blk_frozen BK105.out 2
                        have hfz31_3 := blk_frozen BK105.out 3
                        go_wp2
                        go_meet
                        case rel => exact ⟨_, (true), (by first | rfl | (simp; done) | (simp [*]; done)), H', ⟨by have := HK1.out; first | omega | exact Nat.le_refl _⟩, ⟨by (with_reducible repeat (first | refine blk_drewN ?_ _ | refine blk_drew ?_ | refine blk_alloc ?_ _)); refine blk_far ?_ NB101_105.out _; (with_reducible repeat (first | refine blk_drewN ?_ _ | refine blk_drew ?_ | refine blk_alloc ?_ _)); refine blk_far ?_ NB101_105.out _; (with_reducible repeat (first | refine blk_drewN ?_ _ | refine blk_drew ?_ | refine blk_alloc ?_ _)); refine blk_far ?_ NB101_105.out _; (with_reducible repeat (first | refine blk_drewN ?_ _ | refine blk_drew ?_ | refine blk_alloc ?_ _)); refine blk_far ?_ NB101_105.out _; (with_reducible repeat (first | refine blk_drewN ?_ _ | refine blk_drew ?_ | refine blk_alloc ?_ _)); exact BK101.out⟩, ⟨by (with_reducible repeat (first | refine blk_drewN ?_ _ | refine blk_drew ?_ | refine blk_alloc ?_ _)); refine blk_far ?_ NB103_105.out _; (with_reducible repeat (first | refine blk_drewN ?_ _ | refine blk_drew ?_ | refine blk_alloc ?_ _)); refine blk_far ?_ NB103_105.out _; (with_reducible repeat (first | refine blk_drewN ?_ _ | refine blk_drew ?_ | refine blk_alloc ?_ _)); refine blk_far ?_ NB103_105.out _; (with_reducible repeat (first | refine blk_drewN ?_ _ | refine blk_drew ?_ | refine blk_alloc ?_ _)); refine blk_far ?_ NB103_105.out _; (with_reducible repeat (first | refine blk_drewN ?_ _ | refine blk_drew ?_ | refine blk_alloc ?_ _)); exact BK103.out⟩, ⟨by (with_reducible repeat (first | refine blk_drewN ?_ _ | refine blk_drew ?_ | refine blk_alloc ?_ _)); refine blk_put (cs := #[.int .i64 ((rd_T36 ((rd_T34 l0_0 a1).f3) x7_1).f0), .int .i64 ((rd_T36 ((rd_T34 l0_0 a1).f3) x7_1).f1), .int .i64 ((rd_T36 ((rd_T34 l0_0 a1).f3) x7_1).f2), .int .i64 0]) ?_ 3 _ rfl; (with_reducible repeat (first | refine blk_drewN ?_ _ | refine blk_drew ?_ | refine blk_alloc ?_ _)); refine blk_put (cs := #[.int .i64 ((rd_T36 ((rd_T34 l0_0 a1).f3) x7_1).f0), .int .i64 ((rd_T36 ((rd_T34 l0_0 a1).f3) x7_1).f1), .int .i64 0, .int .i64 0]) ?_ 2 _ rfl; (with_reducible repeat (first | refine blk_drewN ?_ _ | refine blk_drew ?_ | refine blk_alloc ?_ _)); refine blk_put (cs := #[.int .i64 ((rd_T36 ((rd_T34 l0_0 a1).f3) x7_1).f0), .int .i64 0, .int .i64 0, .int .i64 0]) ?_ 1 _ rfl; (with_reducible repeat (first | refine blk_drewN ?_ _ | refine blk_drew ?_ | refine blk_alloc ?_ _)); refine blk_put (cs := #[.int .i64 0, .int .i64 0, .int .i64 0, .int .i64 0]) ?_ 0 _ rfl; (with_reducible repeat (first | refine blk_drewN ?_ _ | refine blk_drew ?_ | refine blk_alloc ?_ _)); exact BK105.out⟩, ⟨by repeat (first | (with_reducible first | exact HB.out | apply below_alloc | apply pw_below_drewN | apply below_drew1 | refine below_set ?_ GE101.out | refine below_set ?_ GE103.out | refine below_set ?_ GE105.out) | exact HB.out)⟩⟩
                      · rw [if_neg c28] at H
                        have c28b0 : decide (((rd_T36 ((rd_T34 l0_0 a1).f3) x7_1).f1) < 1) = false := decide_eq_false c28
                        clear c28
                        have H' := Aside0.mk H
                        clear H
                        have hnb32 := NB105_101.out
                        have hnc32 := NB101_105.out
                        have hnb33 := NB105_103.out
                        have hnc33 := NB103_105.out
                        have hcz34_0 : w15.cell? ⟨gb105, 0, none⟩ = some (.int .i64 0) := (blk_cell BK105.out 0).trans rfl
                        have hcz34_1 : w15.cell? ⟨gb105, 1, none⟩ = some (.int .i64 0) := (blk_cell BK105.out 1).trans rfl
                        have hcz34_2 : w15.cell? ⟨gb105, 2, none⟩ = some (.int .i64 0) := (blk_cell BK105.out 2).trans rfl
                        have hcz34_3 : w15.cell? ⟨gb105, 3, none⟩ = some (.int .i64 0) := (blk_cell BK105.out 3).trans rfl
                        have hfz34_0 := blk_frozen BK105.out 0
                        have hfz34_1 := blk_frozen BK105.out 1
                        have hfz34_2 := blk_frozen BK105.out 2
                        have hfz34_3 := blk_frozen BK105.out 3
                        have hnb35 := NB103_101.out
                        have hnc35 := NB101_103.out
                        have hcz36_0 : w15.cell? ⟨gb103, 0, none⟩ = some (.int .i64 ((rd_T34 l0_0 a1).f0)) := (blk_cell BK103.out 0).trans rfl
                        have hcz36_1 : w15.cell? ⟨gb103, 1, none⟩ = some (.int .i64 ((rd_T34 l0_0 a1).f1)) := (blk_cell BK103.out 1).trans rfl
                        have hcz36_2 : w15.cell? ⟨gb103, 2, none⟩ = some (.int .i64 ((rd_T34 l0_0 a1).f2)) := (blk_cell BK103.out 2).trans rfl
                        have hcz36_3 : w15.cell? ⟨gb103, 3, none⟩ = some (.slice (some ad104) ((rd_T34 l0_0 a1).f3).length c102_3) := (blk_cell BK103.out 3).trans rfl
                        have hcz36_4 : w15.cell? ⟨gb103, 4, none⟩ = some (.slice A102_4 ((rd_T34 l0_0 a1).f4).length c102_4) := (blk_cell BK103.out 4).trans rfl
                        have hcz36_5 : w15.cell? ⟨gb103, 5, none⟩ = some (.int .i64 ((rd_T34 l0_0 a1).f5)) := (blk_cell BK103.out 5).trans rfl
                        have hcz36_6 : w15.cell? ⟨gb103, 6, none⟩ = some (.int .i64 ((rd_T34 l0_0 a1).f6)) := (blk_cell BK103.out 6).trans rfl
                        have hcz36_7 : w15.cell? ⟨gb103, 7, none⟩ = some (.int .i64 ((rd_T34 l0_0 a1).f7)) := (blk_cell BK103.out 7).trans rfl
                        have hcz36_8 : w15.cell? ⟨gb103, 8, none⟩ = some (.slice A102_8 ((rd_T34 l0_0 a1).f8).length c102_8) := (blk_cell BK103.out 8).trans rfl
                        have hcz36_9 : w15.cell? ⟨gb103, 9, none⟩ = some (.slice A102_9 ((rd_T34 l0_0 a1).f9).length c102_9) := (blk_cell BK103.out 9).trans rfl
                        have hfz36_0 := blk_frozen BK103.out 0
                        have hfz36_1 := blk_frozen BK103.out 1
                        have hfz36_2 := blk_frozen BK103.out 2
                        have hfz36_3 := blk_frozen BK103.out 3
                        have hfz36_4 := blk_frozen BK103.out 4
                        have hfz36_5 := blk_frozen BK103.out 5
                        have hfz36_6 := blk_frozen BK103.out 6
                        have hfz36_7 := blk_frozen BK103.out 7
                        have hfz36_8 := blk_frozen BK103.out 8
                        have hfz36_9 := blk_frozen BK103.out 9
                        go_wp2
                        go_meet
                        case rel => exact ⟨_, (decide (((rd_T36 ((rd_T34 l0_0 a1).f3) x7_1).f1) > (wrap64 (((rd_T34 l0_0 a1).f1) - x6_1)))), (by first | rfl | (simp; done) | (simp [*]; done)), H', ⟨by have := HK1.out; first | omega | exact Nat.le_refl _⟩, ⟨by (with_reducible repeat (first | refine blk_drewN ?_ _ | refine blk_drew ?_ | refine blk_alloc ?_ _)); refine blk_far ?_ NB101_105.out _; (with_reducible repeat (first | refine blk_drewN ?_ _ | refine blk_drew ?_ | refine blk_alloc ?_ _)); refine blk_far ?_ NB101_105.out _; (with_reducible repeat (first | refine blk_drewN ?_ _ | refine blk_drew ?_ | refine blk_alloc ?_ _)); refine blk_far ?_ NB101_105.out _; (with_reducible repeat (first | refine blk_drewN ?_ _ | refine blk_drew ?_ | refine blk_alloc ?_ _)); refine blk_far ?_ NB101_105.out _; (with_reducible repeat (first | refine blk_drewN ?_ _ | refine blk_drew ?_ | refine blk_alloc ?_ _)); exact BK101.out⟩, ⟨by (with_reducible repeat (first | refine blk_drewN ?_ _ | refine blk_drew ?_ | refine blk_alloc ?_ _)); refine blk_far ?_ NB103_105.out _; (with_reducible repeat (first | refine blk_drewN ?_ _ | refine blk_drew ?_ | refine blk_alloc ?_ _)); refine blk_far ?_ NB103_105.out _; (with_reducible repeat (first | refine blk_drewN ?_ _ | refine blk_drew ?_ | refine blk_alloc ?_ _)); refine blk_far ?_ NB103_105.out _; (with_reducible repeat (first | refine blk_drewN ?_ _ | refine blk_drew ?_ | refine blk_alloc ?_ _)); refine blk_far ?_ NB103_105.out _; (with_reducible repeat (first | refine blk_drewN ?_ _ | refine blk_drew ?_ | refine blk_alloc ?_ _)); exact BK103.out⟩, ⟨by (with_reducible repeat (first | refine blk_drewN ?_ _ | refine blk_drew ?_ | refine blk_alloc ?_ _)); refine blk_put (cs := #[.int .i64 ((rd_T36 ((rd_T34 l0_0 a1).f3) x7_1).f0), .int .i64 ((rd_T36 ((rd_T34 l0_0 a1).f3) x7_1).f1), .int .i64 ((rd_T36 ((rd_T34 l0_0 a1).f3) x7_1).f2), .int .i64 0]) ?_ 3 _ rfl; (with_reducible repeat (first | refine blk_drewN ?_ _ | refine blk_drew ?_ | refine blk_alloc ?_ _)); refine blk_put (cs := #[.int .i64 ((rd_T36 ((rd_T34 l0_0 a1).f3) x7_1).f0), .int .i64 ((rd_T36 ((rd_T34 l0_0 a1).f3) x7_1).f1), .int .i64 0, .int .i64 0]) ?_ 2 _ rfl; (with_reducible repeat (first | refine blk_drewN ?_ _ | refine blk_drew ?_ | refine blk_alloc ?_ _)); refine blk_put (cs := #[.int .i64 ((rd_T36 ((rd_T34 l0_0 a1).f3) x7_1).f0), .int .i64 0, .int .i64 0, .int .i64 0]) ?_ 1 _ rfl; (with_reducible repeat (first | refine blk_drewN ?_ _ | refine blk_drew ?_ | refine blk_alloc ?_ _)); refine blk_put (cs := #[.int .i64 0, .int .i64 0, .int .i64 0, .int .i64 0]) ?_ 0 _ rfl; (with_reducible repeat (first | refine blk_drewN ?_ _ | refine blk_drew ?_ | refine blk_alloc ?_ _)); exact BK105.out⟩, ⟨by repeat (first | (with_reducible first | exact HB.out | apply below_alloc | apply pw_below_drewN | apply below_drew1 | refine below_set ?_ GE101.out | refine below_set ?_ GE103.out | refine below_set ?_ GE105.out) | exact HB.out)⟩⟩
                    · rw [if_neg c27] at H
                      have c27b0 : (((rd_T36 ((rd_T34 l0_0 a1).f3) x7_1).f0) == x6_1) = false := beq_eq_false_iff_ne.mpr c27
                      have c27b1 : (((rd_T36 ((rd_T34 l0_0 a1).f3) x7_1).f0) != x6_1) = true := bne_iff_ne.mpr c27
                      have H' := Aside0.mk H
                      clear H
                      have hnb37 := NB105_101.out
                      have hnc37 := NB101_105.out
                      have hnb38 := NB105_103.out
                      have hnc38 := NB103_105.out
                      have hcz39_0 : w15.cell? ⟨gb105, 0, none⟩ = some (.int .i64 0) := (blk_cell BK105.out 0).trans rfl
                      have hcz39_1 : w15.cell? ⟨gb105, 1, none⟩ = some (.int .i64 0) := (blk_cell BK105.out 1).trans rfl
                      have hcz39_2 : w15.cell? ⟨gb105, 2, none⟩ = some (.int .i64 0) := (blk_cell BK105.out 2).trans rfl
                      have hcz39_3 : w15.cell? ⟨gb105, 3, none⟩ = some (.int .i64 0) := (blk_cell BK105.out 3).trans rfl
                      have hfz39_0 := blk_frozen BK105.out 0
                      have hfz39_1 := blk_frozen BK105.out 1
                      have hfz39_2 := blk_frozen BK105.out 2
                      have hfz39_3 := blk_frozen BK105.out 3
                      go_wp2
                      go_meet
                      case rel => exact ⟨_, (true), (by first | rfl | (simp; done) | (simp [*]; done)), H', ⟨by have := HK1.out; first | omega | exact Nat.le_refl _⟩, ⟨by (with_reducible repeat (first | refine blk_drewN ?_ _ | refine blk_drew ?_ | refine blk_alloc ?_ _)); refine blk_far ?_ NB101_105.out _; (with_reducible repeat (first | refine blk_drewN ?_ _ | refine blk_drew ?_ | refine blk_alloc ?_ _)); refine blk_far ?_ NB101_105.out _; (with_reducible repeat (first | refine blk_drewN ?_ _ | refine blk_drew ?_ | refine blk_alloc ?_ _)); refine blk_far ?_ NB101_105.out _; (with_reducible repeat (first | refine blk_drewN ?_ _ | refine blk_drew ?_ | refine blk_alloc ?_ _)); refine blk_far ?_ NB101_105.out _; (with_reducible repeat (first | refine blk_drewN ?_ _ | refine blk_drew ?_ | refine blk_alloc ?_ _)); exact BK101.out⟩, ⟨by (with_reducible repeat (first | refine blk_drewN ?_ _ | refine blk_drew ?_ | refine blk_alloc ?_ _)); refine blk_far ?_ NB103_105.out _; (with_reducible repeat (first | refine blk_drewN ?_ _ | refine blk_drew ?_ | refine blk_alloc ?_ _)); refine blk_far ?_ NB103_105.out _; (with_reducible repeat (first | refine blk_drewN ?_ _ | refine blk_drew ?_ | refine blk_alloc ?_ _)); refine blk_far ?_ NB103_105.out _; (with_reducible repeat (first | refine blk_drewN ?_ _ | refine blk_drew ?_ | refine blk_alloc ?_ _)); refine blk_far ?_ NB103_105.out _; (with_reducible repeat (first | refine blk_drewN ?_ _ | refine blk_drew ?_ | refine blk_alloc ?_ _)); exact BK103.out⟩, ⟨by (with_reducible repeat (first | refine blk_drewN ?_ _ | refine blk_drew ?_ | refine blk_alloc ?_ _)); refine blk_put (cs := #[.int .i64 ((rd_T36 ((rd_T34 l0_0 a1).f3) x7_1).f0), .int .i64 ((rd_T36 ((rd_T34 l0_0 a1).f3) x7_1).f1), .int .i64 ((rd_T36 ((rd_T34 l0_0 a1).f3) x7_1).f2), .int .i64 0]) ?_ 3 _ rfl; (with_reducible repeat (first | refine blk_drewN ?_ _ | refine blk_drew ?_ | refine blk_alloc ?_ _)); refine blk_put (cs := #[.int .i64 ((rd_T36 ((rd_T34 l0_0 a1).f3) x7_1).f0), .int .i64 ((rd_T36 ((rd_T34 l0_0 a1).f3) x7_1).f1), .int .i64 0, .int .i64 0]) ?_ 2 _ rfl; (with_reducible repeat (first | refine blk_drewN ?_ _ | refine blk_drew ?_ | refine blk_alloc ?_ _)); refine blk_put (cs := #[.int .i64 ((rd_T36 ((rd_T34 l0_0 a1).f3) x7_1).f0), .int .i64 0, .int .i64 0, .int .i64 0]) ?_ 1 _ rfl; (with_reducible repeat (first | refine blk_drewN ?_ _ | refine blk_drew ?_ | refine blk_alloc ?_ _)); refine blk_put (cs := #[.int .i64 0, .int .i64 0, .int .i64 0, .int .i64 0]) ?_ 0 _ rfl; (with_reducible repeat (first | refine blk_drewN ?_ _ | refine blk_drew ?_ | refine blk_alloc ?_ _)); exact BK105.out⟩, ⟨by repeat (first | (with_reducible first | exact HB.out | apply below_alloc | apply pw_below_drewN | apply below_drew1 | refine below_set ?_ GE101.out | refine below_set ?_ GE103.out | refine below_set ?_ GE105.out) | exact HB.out)⟩⟩
              case rest =>
                clear HC12
                try clear c1
                try clear p1
                try clear q1
                try clear hx1
                try clear c2
                try clear p2
                try clear c3
                try clear c3b0
                try clear c4
                try clear c4b0
                try clear p6
                try clear c8
                try clear c10
                try clear c10b0
                try clear p10
                try clear q10
                try clear hx10
                try clear c11
                try clear c11b0
                try clear c13
                try clear c16
                try clear c17
                try clear c19
                try clear c19b0
                try clear c20
                try clear c21
                try clear c22
                try clear c23
                try clear c23b0
                try clear c24
                try clear c25
                try clear c27
                try clear c27b0
                try clear c27b1
                try clear c28
                try clear c28b0
                try clear c29
                try clear c30
                try clear c32
                try clear c33
                try clear c35
                try clear c37
                try clear c38
                try clear hcz14_0
                try clear hcz14_1
                try clear hcz14_2
                try clear hcz14_3
                try clear hcz14_4
                try clear hcz14_5
                try clear hcz14_6
                try clear hcz14_7
                try clear hcz14_8
                try clear hcz14_9
                try clear hcz18_0
                try clear hcz18_1
                try clear hcz18_2
                try clear hcz18_3
                try clear hcz22_0
                try clear hcz22_1
                try clear hcz22_2
                try clear hcz22_3
                try clear hcz26_0
                try clear hcz26_1
                try clear hcz26_2
                try clear hcz26_3
                try clear hcz31_0
                try clear hcz31_1
                try clear hcz31_2
                try clear hcz31_3
                try clear hcz34_0
                try clear hcz34_1
                try clear hcz34_2
                try clear hcz34_3
                try clear hcz36_0
                try clear hcz36_1
                try clear hcz36_2
                try clear hcz36_3
                try clear hcz36_4
                try clear hcz36_5
                try clear hcz36_6
                try clear hcz36_7
                try clear hcz36_8
                try clear hcz36_9
                try clear hcz39_0
                try clear hcz39_1
                try clear hcz39_2
                try clear hcz39_3
                try clear hcz6_0
                try clear hcz6_1
                try clear hcz6_2
                try clear hcz9_0
                try clear hcz9_1
                try clear hcz9_2
                try clear hcz9_3
                try clear hcz9_4
                try clear hcz9_5
                try clear hcz9_6
                try clear hcz9_7
                try clear hcz9_8
                try clear hcz9_9
                try clear hfz14_0
                try clear hfz14_1
                try clear hfz14_2
                try clear hfz14_3
                try clear hfz14_4
                try clear hfz14_5
                try clear hfz14_6
                try clear hfz14_7
                try clear hfz14_8
                try clear hfz14_9
                try clear hfz18_0
                try clear hfz18_1
                try clear hfz18_2
                try clear hfz18_3
                try clear hfz22_0
                try clear hfz22_1
                try clear hfz22_2
                try clear hfz22_3
                try clear hfz26_0
                try clear hfz26_1
                try clear hfz26_2
                try clear hfz26_3
                try clear hfz31_0
                try clear hfz31_1
                try clear hfz31_2
                try clear hfz31_3
                try clear hfz34_0
                try clear hfz34_1
                try clear hfz34_2
                try clear hfz34_3
                try clear hfz36_0
                try clear hfz36_1
                try clear hfz36_2
                try clear hfz36_3
                try clear hfz36_4
                try clear hfz36_5
                try clear hfz36_6
                try clear hfz36_7
                try clear hfz36_8
                try clear hfz36_9
                try clear hfz39_0
                try clear hfz39_1
                try clear hfz39_2
                try clear hfz39_3
                try clear hfz6_0
                try clear hfz6_1
                try clear hfz6_2
                try clear hfz9_0
                try clear hfz9_1
                try clear hfz9_2
                try clear hfz9_3
                try clear hfz9_4
                try clear hfz9_5
                try clear hfz9_6
                try clear hfz9_7
                try clear hfz9_8
                try clear hfz9_9
                try clear hx102_0
                try clear hx102_1
                try clear hx102_2
                try clear hx102_3
                try clear hx102_4
                try clear hx102_5
                try clear hx102_6
                try clear hx102_7
                try clear hx102_8
                try clear hx102_9
                try clear hx104_0
                try clear hx104_1
                try clear hx104_2
                try clear hx104_3
                try clear p1
                try clear p102
                try clear p104
                try clear p2
                try clear q1
                try clear q102
                try clear q104
                obtain ⟨kq, x55_11, rfl, HA, HJ11, BK101, BK103, BK105, HB⟩ := hcut
                cases kq with
                | zero => exact absurd HA.out (by simp [cofferdamref15_extents.j1])
                | succ kj11 =>
                  have H := HA.out
                  clear HA
                  simp only [cofferdamref15_extents.j1] at H
                  by_cases c40 : x55_11 = true
                  · subst c40
                    have H1 : (some false) = some r := by rw [if_pos rfl] at H; exact H
                    clear H
                    have H := H1
                    clear H1
                    obtain rfl := Option.some.inj H
                    go_wp2
                    go_ret
                    exact ⟨by first | rfl | (simp [errW_none, errW_some] <;> rfl) | (simp [*, errW_none, errW_some] <;> rfl), by repeat (first | (with_reducible first | exact HB.out | apply below_alloc | apply pw_below_drewN | apply below_drew1 | refine below_set ?_ GE101.out | refine below_set ?_ GE103.out | refine below_set ?_ GE105.out) | exact HB.out)⟩
                  · replace c40 := Bool.eq_false_iff.mpr c40
                    subst c40
                    have H1 : (if 0 ≤ ((rd_T36 ((rd_T34 l0_0 a1).f3) x7_1).f2) then (if ((rd_T36 ((rd_T34 l0_0 a1).f3) x7_1).f2) < (l0_0.length : Int) then (if ((rd_T36 ((rd_T34 l0_0 a1).f3) x7_1).f3) < 0 then (some false) else (if ((rd_T36 ((rd_T34 l0_0 a1).f3) x7_1).f3) > ((rd_T34 l0_0 ((rd_T36 ((rd_T34 l0_0 a1).f3) x7_1).f2)).f1) then (some false) else (if ((rd_T36 ((rd_T34 l0_0 a1).f3) x7_1).f1) > (wrap64 (((rd_T34 l0_0 ((rd_T36 ((rd_T34 l0_0 a1).f3) x7_1).f2)).f1) - ((rd_T36 ((rd_T34 l0_0 a1).f3) x7_1).f3))) then (some false) else (cofferdamref15_extents.l0 kj11 a1 (wrap64 (x6_1 + ((rd_T36 ((rd_T34 l0_0 a1).f3) x7_1).f1))) (wrap64 (x7_1 + 1)) l0_0 a0_1 a0_2 ((rd_T34 l0_0 a1).f0) ((rd_T34 l0_0 a1).f1) ((rd_T34 l0_0 a1).f2) ((rd_T34 l0_0 a1).f3) ((rd_T34 l0_0 a1).f4) ((rd_T34 l0_0 a1).f5) ((rd_T34 l0_0 a1).f6) ((rd_T34 l0_0 a1).f7) ((rd_T34 l0_0 a1).f8) ((rd_T34 l0_0 a1).f9))))) else (none)) else (none)) = some r := by rw [if_neg (show ¬ (false = true) by decide)] at H; exact H
                    clear H
                    have H := H1
                    clear H1
                    by_cases c41 : 0 ≤ ((rd_T36 ((rd_T34 l0_0 a1).f3) x7_1).f2)
                    · rw [if_pos c41] at H
                      have c41b0 : decide (0 ≤ ((rd_T36 ((rd_T34 l0_0 a1).f3) x7_1).f2)) = true := decide_eq_true c41
                      clear c41
                      by_cases c42 : ((rd_T36 ((rd_T34 l0_0 a1).f3) x7_1).f2) < (l0_0.length : Int)
                      · rw [if_pos c42] at H
                        have c42b0 : decide (((rd_T36 ((rd_T34 l0_0 a1).f3) x7_1).f2) < (l0_0.length : Int)) = true := decide_eq_true c42
                        clear c42
                        by_cases c43 : ((rd_T36 ((rd_T34 l0_0 a1).f3) x7_1).f3) < 0
                        · rw [if_pos c43] at H
                          have c43b0 : decide (((rd_T36 ((rd_T34 l0_0 a1).f3) x7_1).f3) < 0) = true := decide_eq_true c43
                          clear c43
                          obtain rfl := Option.some.inj H
                          have hnb44 := NB101_103.out
                          have hnc44 := NB103_101.out
                          have hnb45 := NB101_105.out
                          have hnc45 := NB105_101.out
                          have hcz46_0 : wc.cell? ⟨gb101, 0, none⟩ = some (.slice (some ad102) l0_0.length c0_0) := (blk_cell BK101.out 0).trans rfl
                          have hcz46_1 : wc.cell? ⟨gb101, 1, none⟩ = some (.int .i64 a0_1) := (blk_cell BK101.out 1).trans rfl
                          have hcz46_2 : wc.cell? ⟨gb101, 2, none⟩ = some (.bool a0_2) := (blk_cell BK101.out 2).trans rfl
                          have hfz46_0 := blk_frozen BK101.out 0
                          have hfz46_1 := blk_frozen BK101.out 1
                          have hfz46_2 := blk_frozen BK101.out 2
                          have hnb47 := NB105_103.out
                          have hnc47 := NB103_105.out
                          have hcz48_0 : wc.cell? ⟨gb105, 0, none⟩ = some (.int .i64 ((rd_T36 ((rd_T34 l0_0 a1).f3) x7_1).f0)) := (blk_cell BK105.out 0).trans rfl
                          have hcz48_1 : wc.cell? ⟨gb105, 1, none⟩ = some (.int .i64 ((rd_T36 ((rd_T34 l0_0 a1).f3) x7_1).f1)) := (blk_cell BK105.out 1).trans rfl
                          have hcz48_2 : wc.cell? ⟨gb105, 2, none⟩ = some (.int .i64 ((rd_T36 ((rd_T34 l0_0 a1).f3) x7_1).f2)) := (blk_cell BK105.out 2).trans rfl
                          have hcz48_3 : wc.cell? ⟨gb105, 3, none⟩ = some (.int .i64 ((rd_T36 ((rd_T34 l0_0 a1).f3) x7_1).f3)) := (blk_cell BK105.out 3).trans rfl
                          have hfz48_0 := blk_frozen BK105.out 0
                          have hfz48_1 := blk_frozen BK105.out 1
                          have hfz48_2 := blk_frozen BK105.out 2
                          have hfz48_3 := blk_frozen BK105.out 3
                          have p106 : 0 ≤ (((rd_T36 ((rd_T34 l0_0 a1).f3) x7_1).f2) : Int) := of_decide_eq_true (by first | (with_reducible assumption) | assumption)
                          have q106 : ((rd_T36 ((rd_T34 l0_0 a1).f3) x7_1).f2) < (l0_0.length : Int) := of_decide_eq_true (by first | (with_reducible assumption) | assumption)
                          obtain ⟨ad106, A106_3, c106_3, A106_4, c106_4, A106_8, c106_8, A106_9, c106_9, e106, hx106_0, hx106_1, hx106_2, hx106_3, hx106_4, hx106_5, hx106_6, hx106_7, hx106_8, hx106_9, hl106_3, hi106_3, hl106_4, hi106_4, hl106_8, hi106_8, hl106_9, hi106_9⟩ := at_T34 HR0_0.out ((rd_T36 ((rd_T34 l0_0 a1).f3) x7_1).f2) p106 q106
                          obtain rfl : ad102 = ad106 := (by injection e106)
                          replace hx106_0 := (HB.out.cell (World.block_lt_of_cell? w _ hx106_0)).trans hx106_0
                          replace hx106_1 := (HB.out.cell (World.block_lt_of_cell? w _ hx106_1)).trans hx106_1
                          replace hx106_2 := (HB.out.cell (World.block_lt_of_cell? w _ hx106_2)).trans hx106_2
                          replace hx106_3 := (HB.out.cell (World.block_lt_of_cell? w _ hx106_3)).trans hx106_3
                          replace hx106_4 := (HB.out.cell (World.block_lt_of_cell? w _ hx106_4)).trans hx106_4
                          replace hx106_5 := (HB.out.cell (World.block_lt_of_cell? w _ hx106_5)).trans hx106_5
                          replace hx106_6 := (HB.out.cell (World.block_lt_of_cell? w _ hx106_6)).trans hx106_6
                          replace hx106_7 := (HB.out.cell (World.block_lt_of_cell? w _ hx106_7)).trans hx106_7
                          replace hx106_8 := (HB.out.cell (World.block_lt_of_cell? w _ hx106_8)).trans hx106_8
                          replace hx106_9 := (HB.out.cell (World.block_lt_of_cell? w _ hx106_9)).trans hx106_9
                          have HR106_3 := Aside0.mk hi106_3
                          have HC106_3 := Aside0.mk hl106_3
                          clear hi106_3 hl106_3
                          have HR106_4 := Aside0.mk hi106_4
                          have HC106_4 := Aside0.mk hl106_4
                          clear hi106_4 hl106_4
                          have HR106_8 := Aside0.mk hi106_8
                          have HC106_8 := Aside0.mk hl106_8
                          clear hi106_8 hl106_8
                          have HR106_9 := Aside0.mk hi106_9
                          have HC106_9 := Aside0.mk hl106_9
                          clear hi106_9 hl106_9
                          replace p106 := eq_true p106
                          replace q106 := eq_true q106
                          go_wp2
                          go_ret
                          exact ⟨by first | rfl | (simp [errW_none, errW_some] <;> rfl) | (simp [*, errW_none, errW_some] <;> rfl), by repeat (first | (with_reducible first | exact HB.out | apply below_alloc | apply pw_below_drewN | apply below_drew1 | refine below_set ?_ GE101.out | refine below_set ?_ GE103.out | refine below_set ?_ GE105.out) | exact HB.out)⟩
                        · rw [if_neg c43] at H
                          have c43b0 : decide (((rd_T36 ((rd_T34 l0_0 a1).f3) x7_1).f3) < 0) = false := decide_eq_false c43
                          clear c43
                          by_cases c49 : ((rd_T36 ((rd_T34 l0_0 a1).f3) x7_1).f3) > ((rd_T34 l0_0 ((rd_T36 ((rd_T34 l0_0 a1).f3) x7_1).f2)).f1)
                          · rw [if_pos c49] at H
                            have c49b0 : decide (((rd_T34 l0_0 ((rd_T36 ((rd_T34 l0_0 a1).f3) x7_1).f2)).f1) < ((rd_T36 ((rd_T34 l0_0 a1).f3) x7_1).f3)) = true := decide_eq_true c49
                            clear c49
                            obtain rfl := Option.some.inj H
                            have hnb50 := NB101_103.out
                            have hnc50 := NB103_101.out
                            have hnb51 := NB101_105.out
                            have hnc51 := NB105_101.out
                            have hcz52_0 : wc.cell? ⟨gb101, 0, none⟩ = some (.slice (some ad102) l0_0.length c0_0) := (blk_cell BK101.out 0).trans rfl
                            have hcz52_1 : wc.cell? ⟨gb101, 1, none⟩ = some (.int .i64 a0_1) := (blk_cell BK101.out 1).trans rfl
                            have hcz52_2 : wc.cell? ⟨gb101, 2, none⟩ = some (.bool a0_2) := (blk_cell BK101.out 2).trans rfl
                            have hfz52_0 := blk_frozen BK101.out 0
                            have hfz52_1 := blk_frozen BK101.out 1
                            have hfz52_2 := blk_frozen BK101.out 2
                            have hnb53 := NB105_103.out
                            have hnc53 := NB103_105.out
                            have hcz54_0 : wc.cell? ⟨gb105, 0, none⟩ = some (.int .i64 ((rd_T36 ((rd_T34 l0_0 a1).f3) x7_1).f0)) := (blk_cell BK105.out 0).trans rfl
                            have hcz54_1 : wc.cell? ⟨gb105, 1, none⟩ = some (.int .i64 ((rd_T36 ((rd_T34 l0_0 a1).f3) x7_1).f1)) := (blk_cell BK105.out 1).trans rfl
                            have hcz54_2 : wc.cell? ⟨gb105, 2, none⟩ = some (.int .i64 ((rd_T36 ((rd_T34 l0_0 a1).f3) x7_1).f2)) := (blk_cell BK105.out 2).trans rfl
                            have hcz54_3 : wc.cell? ⟨gb105, 3, none⟩ = some (.int .i64 ((rd_T36 ((rd_T34 l0_0 a1).f3) x7_1).f3)) := (blk_cell BK105.out 3).trans rfl
                            have hfz54_0 := blk_frozen BK105.out 0
                            have hfz54_1 := blk_frozen BK105.out 1
                            have hfz54_2 := blk_frozen BK105.out 2
                            have hfz54_3 := blk_frozen BK105.out 3
                            have p106 : 0 ≤ (((rd_T36 ((rd_T34 l0_0 a1).f3) x7_1).f2) : Int) := of_decide_eq_true (by first | (with_reducible assumption) | assumption)
                            have q106 : ((rd_T36 ((rd_T34 l0_0 a1).f3) x7_1).f2) < (l0_0.length : Int) := of_decide_eq_true (by first | (with_reducible assumption) | assumption)
                            obtain ⟨ad106, A106_3, c106_3, A106_4, c106_4, A106_8, c106_8, A106_9, c106_9, e106, hx106_0, hx106_1, hx106_2, hx106_3, hx106_4, hx106_5, hx106_6, hx106_7, hx106_8, hx106_9, hl106_3, hi106_3, hl106_4, hi106_4, hl106_8, hi106_8, hl106_9, hi106_9⟩ := at_T34 HR0_0.out ((rd_T36 ((rd_T34 l0_0 a1).f3) x7_1).f2) p106 q106
                            obtain rfl : ad102 = ad106 := (by injection e106)
                            replace hx106_0 := (HB.out.cell (World.block_lt_of_cell? w _ hx106_0)).trans hx106_0
                            replace hx106_1 := (HB.out.cell (World.block_lt_of_cell? w _ hx106_1)).trans hx106_1
                            replace hx106_2 := (HB.out.cell (World.block_lt_of_cell? w _ hx106_2)).trans hx106_2
                            replace hx106_3 := (HB.out.cell (World.block_lt_of_cell? w _ hx106_3)).trans hx106_3
                            replace hx106_4 := (HB.out.cell (World.block_lt_of_cell? w _ hx106_4)).trans hx106_4
                            replace hx106_5 := (HB.out.cell (World.block_lt_of_cell? w _ hx106_5)).trans hx106_5
                            replace hx106_6 := (HB.out.cell (World.block_lt_of_cell? w _ hx106_6)).trans hx106_6
                            replace hx106_7 := (HB.out.cell (World.block_lt_of_cell? w _ hx106_7)).trans hx106_7
                            replace hx106_8 := (HB.out.cell (World.block_lt_of_cell? w _ hx106_8)).trans hx106_8
                            replace hx106_9 := (HB.out.cell (World.block_lt_of_cell? w _ hx106_9)).trans hx106_9
                            have HR106_3 := Aside0.mk hi106_3
                            have HC106_3 := Aside0.mk hl106_3
                            clear hi106_3 hl106_3
                            have HR106_4 := Aside0.mk hi106_4
                            have HC106_4 := Aside0.mk hl106_4
                            clear hi106_4 hl106_4
                            have HR106_8 := Aside0.mk hi106_8
                            have HC106_8 := Aside0.mk hl106_8
                            clear hi106_8 hl106_8
                            have HR106_9 := Aside0.mk hi106_9
                            have HC106_9 := Aside0.mk hl106_9
                            clear hi106_9 hl106_9
                            replace p106 := eq_true p106
                            replace q106 := eq_true q106
                            go_wp2
                            go_ret
                            exact ⟨by first | rfl | (simp [errW_none, errW_some] <;> rfl) | (simp [*, errW_none, errW_some] <;> rfl), by repeat (first | (with_reducible first | exact HB.out | apply below_alloc | apply pw_below_drewN | apply below_drew1 | refine below_set ?_ GE101.out | refine below_set ?_ GE103.out | refine below_set ?_ GE105.out) | exact HB.out)⟩
                          · rw [if_neg c49] at H
                            have c49b0 : decide (((rd_T34 l0_0 ((rd_T36 ((rd_T34 l0_0 a1).f3) x7_1).f2)).f1) < ((rd_T36 ((rd_T34 l0_0 a1).f3) x7_1).f3)) = false := decide_eq_false c49
                            clear c49
                            by_cases c55 : ((rd_T36 ((rd_T34 l0_0 a1).f3) x7_1).f1) > (wrap64 (((rd_T34 l0_0 ((rd_T36 ((rd_T34 l0_0 a1).f3) x7_1).f2)).f1) - ((rd_T36 ((rd_T34 l0_0 a1).f3) x7_1).f3)))
                            · rw [if_pos c55] at H
                              have c55b0 : decide ((wrap64 (((rd_T34 l0_0 ((rd_T36 ((rd_T34 l0_0 a1).f3) x7_1).f2)).f1) - ((rd_T36 ((rd_T34 l0_0 a1).f3) x7_1).f3))) < ((rd_T36 ((rd_T34 l0_0 a1).f3) x7_1).f1)) = true := decide_eq_true c55
                              clear c55
                              obtain rfl := Option.some.inj H
                              have hnb56 := NB101_103.out
                              have hnc56 := NB103_101.out
                              have hnb57 := NB101_105.out
                              have hnc57 := NB105_101.out
                              have hcz58_0 : wc.cell? ⟨gb101, 0, none⟩ = some (.slice (some ad102) l0_0.length c0_0) := (blk_cell BK101.out 0).trans rfl
                              have hcz58_1 : wc.cell? ⟨gb101, 1, none⟩ = some (.int .i64 a0_1) := (blk_cell BK101.out 1).trans rfl
                              have hcz58_2 : wc.cell? ⟨gb101, 2, none⟩ = some (.bool a0_2) := (blk_cell BK101.out 2).trans rfl
                              have hfz58_0 := blk_frozen BK101.out 0
                              have hfz58_1 := blk_frozen BK101.out 1
                              have hfz58_2 := blk_frozen BK101.out 2
                              have hnb59 := NB105_103.out
                              have hnc59 := NB103_105.out
                              have hcz60_0 : wc.cell? ⟨gb105, 0, none⟩ = some (.int .i64 ((rd_T36 ((rd_T34 l0_0 a1).f3) x7_1).f0)) := (blk_cell BK105.out 0).trans rfl
                              have hcz60_1 : wc.cell? ⟨gb105, 1, none⟩ = some (.int .i64 ((rd_T36 ((rd_T34 l0_0 a1).f3) x7_1).f1)) := (blk_cell BK105.out 1).trans rfl
                              have hcz60_2 : wc.cell? ⟨gb105, 2, none⟩ = some (.int .i64 ((rd_T36 ((rd_T34 l0_0 a1).f3) x7_1).f2)) := (blk_cell BK105.out 2).trans rfl
                              have hcz60_3 : wc.cell? ⟨gb105, 3, none⟩ = some (.int .i64 ((rd_T36 ((rd_T34 l0_0 a1).f3) x7_1).f3)) := (blk_cell BK105.out 3).trans rfl
                              have hfz60_0 := blk_frozen BK105.out 0
                              have hfz60_1 := blk_frozen BK105.out 1
                              have hfz60_2 := blk_frozen BK105.out 2
                              have hfz60_3 := blk_frozen BK105.out 3
                              have p106 : 0 ≤ (((rd_T36 ((rd_T34 l0_0 a1).f3) x7_1).f2) : Int) := of_decide_eq_true (by first | (with_reducible assumption) | assumption)
                              have q106 : ((rd_T36 ((rd_T34 l0_0 a1).f3) x7_1).f2) < (l0_0.length : Int) := of_decide_eq_true (by first | (with_reducible assumption) | assumption)
                              obtain ⟨ad106, A106_3, c106_3, A106_4, c106_4, A106_8, c106_8, A106_9, c106_9, e106, hx106_0, hx106_1, hx106_2, hx106_3, hx106_4, hx106_5, hx106_6, hx106_7, hx106_8, hx106_9, hl106_3, hi106_3, hl106_4, hi106_4, hl106_8, hi106_8, hl106_9, hi106_9⟩ := at_T34 HR0_0.out ((rd_T36 ((rd_T34 l0_0 a1).f3) x7_1).f2) p106 q106
                              obtain rfl : ad102 = ad106 := (by injection e106)
                              replace hx106_0 := (HB.out.cell (World.block_lt_of_cell? w _ hx106_0)).trans hx106_0
                              replace hx106_1 := (HB.out.cell (World.block_lt_of_cell? w _ hx106_1)).trans hx106_1
                              replace hx106_2 := (HB.out.cell (World.block_lt_of_cell? w _ hx106_2)).trans hx106_2
                              replace hx106_3 := (HB.out.cell (World.block_lt_of_cell? w _ hx106_3)).trans hx106_3
                              replace hx106_4 := (HB.out.cell (World.block_lt_of_cell? w _ hx106_4)).trans hx106_4
                              replace hx106_5 := (HB.out.cell (World.block_lt_of_cell? w _ hx106_5)).trans hx106_5
                              replace hx106_6 := (HB.out.cell (World.block_lt_of_cell? w _ hx106_6)).trans hx106_6
                              replace hx106_7 := (HB.out.cell (World.block_lt_of_cell? w _ hx106_7)).trans hx106_7
                              replace hx106_8 := (HB.out.cell (World.block_lt_of_cell? w _ hx106_8)).trans hx106_8
                              replace hx106_9 := (HB.out.cell (World.block_lt_of_cell? w _ hx106_9)).trans hx106_9
                              have HR106_3 := Aside0.mk hi106_3
                              have HC106_3 := Aside0.mk hl106_3
                              clear hi106_3 hl106_3
                              have HR106_4 := Aside0.mk hi106_4
                              have HC106_4 := Aside0.mk hl106_4
                              clear hi106_4 hl106_4
                              have HR106_8 := Aside0.mk hi106_8
                              have HC106_8 := Aside0.mk hl106_8
                              clear hi106_8 hl106_8
                              have HR106_9 := Aside0.mk hi106_9
                              have HC106_9 := Aside0.mk hl106_9
                              clear hi106_9 hl106_9
                              replace p106 := eq_true p106
                              replace q106 := eq_true q106
                              go_wp2
                              go_ret
                              exact ⟨by first | rfl | (simp [errW_none, errW_some] <;> rfl) | (simp [*, errW_none, errW_some] <;> rfl), by repeat (first | (with_reducible first | exact HB.out | apply below_alloc | apply pw_below_drewN | apply below_drew1 | refine below_set ?_ GE101.out | refine below_set ?_ GE103.out | refine below_set ?_ GE105.out) | exact HB.out)⟩
                            · rw [if_neg c55] at H
                              have c55b0 : decide ((wrap64 (((rd_T34 l0_0 ((rd_T36 ((rd_T34 l0_0 a1).f3) x7_1).f2)).f1) - ((rd_T36 ((rd_T34 l0_0 a1).f3) x7_1).f3))) < ((rd_T36 ((rd_T34 l0_0 a1).f3) x7_1).f1)) = false := decide_eq_false c55
                              clear c55
                              have H' := Aside0.mk H
                              clear H
                              have hnb61 := NB101_103.out
                              have hnc61 := NB103_101.out
                              have hnb62 := NB101_105.out
                              have hnc62 := NB105_101.out
                              have hcz63_0 : wc.cell? ⟨gb101, 0, none⟩ = some (.slice (some ad102) l0_0.length c0_0) := (blk_cell BK101.out 0).trans rfl
                              have hcz63_1 : wc.cell? ⟨gb101, 1, none⟩ = some (.int .i64 a0_1) := (blk_cell BK101.out 1).trans rfl
                              have hcz63_2 : wc.cell? ⟨gb101, 2, none⟩ = some (.bool a0_2) := (blk_cell BK101.out 2).trans rfl
                              have hfz63_0 := blk_frozen BK101.out 0
                              have hfz63_1 := blk_frozen BK101.out 1
                              have hfz63_2 := blk_frozen BK101.out 2
                              have hnb64 := NB105_103.out
                              have hnc64 := NB103_105.out
                              have hcz65_0 : wc.cell? ⟨gb105, 0, none⟩ = some (.int .i64 ((rd_T36 ((rd_T34 l0_0 a1).f3) x7_1).f0)) := (blk_cell BK105.out 0).trans rfl
                              have hcz65_1 : wc.cell? ⟨gb105, 1, none⟩ = some (.int .i64 ((rd_T36 ((rd_T34 l0_0 a1).f3) x7_1).f1)) := (blk_cell BK105.out 1).trans rfl
                              have hcz65_2 : wc.cell? ⟨gb105, 2, none⟩ = some (.int .i64 ((rd_T36 ((rd_T34 l0_0 a1).f3) x7_1).f2)) := (blk_cell BK105.out 2).trans rfl
                              have hcz65_3 : wc.cell? ⟨gb105, 3, none⟩ = some (.int .i64 ((rd_T36 ((rd_T34 l0_0 a1).f3) x7_1).f3)) := (blk_cell BK105.out 3).trans rfl
                              have hfz65_0 := blk_frozen BK105.out 0
                              have hfz65_1 := blk_frozen BK105.out 1
                              have hfz65_2 := blk_frozen BK105.out 2
                              have hfz65_3 := blk_frozen BK105.out 3
                              have p106 : 0 ≤ (((rd_T36 ((rd_T34 l0_0 a1).f3) x7_1).f2) : Int) := of_decide_eq_true (by first | (with_reducible assumption) | assumption)
                              have q106 : ((rd_T36 ((rd_T34 l0_0 a1).f3) x7_1).f2) < (l0_0.length : Int) := of_decide_eq_true (by first | (with_reducible assumption) | assumption)
                              obtain ⟨ad106, A106_3, c106_3, A106_4, c106_4, A106_8, c106_8, A106_9, c106_9, e106, hx106_0, hx106_1, hx106_2, hx106_3, hx106_4, hx106_5, hx106_6, hx106_7, hx106_8, hx106_9, hl106_3, hi106_3, hl106_4, hi106_4, hl106_8, hi106_8, hl106_9, hi106_9⟩ := at_T34 HR0_0.out ((rd_T36 ((rd_T34 l0_0 a1).f3) x7_1).f2) p106 q106
                              obtain rfl : ad102 = ad106 := (by injection e106)
                              replace hx106_0 := (HB.out.cell (World.block_lt_of_cell? w _ hx106_0)).trans hx106_0
                              replace hx106_1 := (HB.out.cell (World.block_lt_of_cell? w _ hx106_1)).trans hx106_1
                              replace hx106_2 := (HB.out.cell (World.block_lt_of_cell? w _ hx106_2)).trans hx106_2
                              replace hx106_3 := (HB.out.cell (World.block_lt_of_cell? w _ hx106_3)).trans hx106_3
                              replace hx106_4 := (HB.out.cell (World.block_lt_of_cell? w _ hx106_4)).trans hx106_4
                              replace hx106_5 := (HB.out.cell (World.block_lt_of_cell? w _ hx106_5)).trans hx106_5
                              replace hx106_6 := (HB.out.cell (World.block_lt_of_cell? w _ hx106_6)).trans hx106_6
                              replace hx106_7 := (HB.out.cell (World.block_lt_of_cell? w _ hx106_7)).trans hx106_7
                              replace hx106_8 := (HB.out.cell (World.block_lt_of_cell? w _ hx106_8)).trans hx106_8
                              replace hx106_9 := (HB.out.cell (World.block_lt_of_cell? w _ hx106_9)).trans hx106_9
                              have HR106_3 := Aside0.mk hi106_3
                              have HC106_3 := Aside0.mk hl106_3
                              clear hi106_3 hl106_3
                              have HR106_4 := Aside0.mk hi106_4
                              have HC106_4 := Aside0.mk hl106_4
                              clear hi106_4 hl106_4
                              have HR106_8 := Aside0.mk hi106_8
                              have HC106_8 := Aside0.mk hl106_8
                              clear hi106_8 hl106_8
                              have HR106_9 := Aside0.mk hi106_9
                              have HC106_9 := Aside0.mk hl106_9
                              clear hi106_9 hl106_9
                              replace p106 := eq_true p106
                              replace q106 := eq_true q106
                              go_wp2
                              go_roundg kj11
                              case measure => have := HK1.out; have := HJ11.out; omega
                              case rel => exact ⟨(wrap64 (x6_1 + ((rd_T36 ((rd_T34 l0_0 a1).f3) x7_1).f1))), (wrap64 (x7_1 + 1)), (by first | rfl | (simp; done) | (simp [*]; done)), (by first | rfl | (simp; done) | (simp [*]; done)), H', ⟨by have := HK1.out; have := HJ11.out; omega⟩, ⟨by (with_reducible repeat (first | refine blk_drewN ?_ _ | refine blk_drew ?_ | refine blk_alloc ?_ _)); exact BK101.out⟩, ⟨by (with_reducible repeat (first | refine blk_drewN ?_ _ | refine blk_drew ?_ | refine blk_alloc ?_ _)); exact BK103.out⟩, ⟨by repeat (first | (with_reducible first | exact HB.out | apply below_alloc | apply pw_below_drewN | apply below_drew1 | refine below_set ?_ GE101.out | refine below_set ?_ GE103.out | refine below_set ?_ GE105.out) | exact HB.out)⟩⟩
                      · rw [if_neg c42] at H
                        exact absurd H (by simp)
                    · rw [if_neg c41] at H
                      exact absurd H (by simp)
            · rw [if_neg c11] at H
              exact absurd H (by simp)
          · rw [if_neg c10] at H
            have c10b0 : decide (x7_1 < (((rd_T34 l0_0 a1).f3).length : Int)) = false := decide_eq_false c10
            clear c10
            by_cases c66 : (((rd_T34 l0_0 a1).f3).length : Int) ≥ 1
            · rw [if_pos c66] at H
              have c66b0 : decide (1 ≤ (((rd_T34 l0_0 a1).f3).length : Int)) = true := decide_eq_true c66
              have c66b1 : decide (1 ≤ ((rd_T34 l0_0 a1).f3).length) = true := decide_eq_true (by omega)
              clear c66
              by_cases c67 : (((rd_T34 l0_0 a1).f3).length : Int) ≤ 1000
              · rw [if_pos c67] at H
                have c67b0 : decide ((((rd_T34 l0_0 a1).f3).length : Int) ≤ 1000) = true := decide_eq_true c67
                have c67b1 : decide (((rd_T34 l0_0 a1).f3).length ≤ 1000) = true := decide_eq_true (by omega)
                clear c67
                obtain rfl := Option.some.inj H
                have hnb68 := NB103_101.out
                have hnc68 := NB101_103.out
                have hcz69_0 : wr.cell? ⟨gb103, 0, none⟩ = some (.int .i64 ((rd_T34 l0_0 a1).f0)) := (blk_cell BK103.out 0).trans rfl
                have hcz69_1 : wr.cell? ⟨gb103, 1, none⟩ = some (.int .i64 ((rd_T34 l0_0 a1).f1)) := (blk_cell BK103.out 1).trans rfl
                have hcz69_2 : wr.cell? ⟨gb103, 2, none⟩ = some (.int .i64 ((rd_T34 l0_0 a1).f2)) := (blk_cell BK103.out 2).trans rfl
                have hcz69_3 : wr.cell? ⟨gb103, 3, none⟩ = some (.slice A102_3 ((rd_T34 l0_0 a1).f3).length c102_3) := (blk_cell BK103.out 3).trans rfl
                have hcz69_4 : wr.cell? ⟨gb103, 4, none⟩ = some (.slice A102_4 ((rd_T34 l0_0 a1).f4).length c102_4) := (blk_cell BK103.out 4).trans rfl
                have hcz69_5 : wr.cell? ⟨gb103, 5, none⟩ = some (.int .i64 ((rd_T34 l0_0 a1).f5)) := (blk_cell BK103.out 5).trans rfl
                have hcz69_6 : wr.cell? ⟨gb103, 6, none⟩ = some (.int .i64 ((rd_T34 l0_0 a1).f6)) := (blk_cell BK103.out 6).trans rfl
                have hcz69_7 : wr.cell? ⟨gb103, 7, none⟩ = some (.int .i64 ((rd_T34 l0_0 a1).f7)) := (blk_cell BK103.out 7).trans rfl
                have hcz69_8 : wr.cell? ⟨gb103, 8, none⟩ = some (.slice A102_8 ((rd_T34 l0_0 a1).f8).length c102_8) := (blk_cell BK103.out 8).trans rfl
                have hcz69_9 : wr.cell? ⟨gb103, 9, none⟩ = some (.slice A102_9 ((rd_T34 l0_0 a1).f9).length c102_9) := (blk_cell BK103.out 9).trans rfl
                have hfz69_0 := blk_frozen BK103.out 0
                have hfz69_1 := blk_frozen BK103.out 1
                have hfz69_2 := blk_frozen BK103.out 2
                have hfz69_3 := blk_frozen BK103.out 3
                have hfz69_4 := blk_frozen BK103.out 4
                have hfz69_5 := blk_frozen BK103.out 5
                have hfz69_6 := blk_frozen BK103.out 6
                have hfz69_7 := blk_frozen BK103.out 7
                have hfz69_8 := blk_frozen BK103.out 8
                have hfz69_9 := blk_frozen BK103.out 9
                go_wp2
                go_ret
                exact ⟨by first | rfl | (simp [errW_none, errW_some] <;> rfl) | (simp [*, errW_none, errW_some] <;> rfl), by repeat (first | (with_reducible first | exact HB.out | apply below_alloc | apply pw_below_drewN | apply below_drew1 | refine below_set ?_ GE101.out | refine below_set ?_ GE103.out) | exact HB.out)⟩
              · rw [if_neg c67] at H
                have c67b0 : decide ((((rd_T34 l0_0 a1).f3).length : Int) ≤ 1000) = false := decide_eq_false c67
                have c67b1 : decide (((rd_T34 l0_0 a1).f3).length ≤ 1000) = false := decide_eq_false (by omega)
                clear c67
                obtain rfl := Option.some.inj H
                have hnb70 := NB103_101.out
                have hnc70 := NB101_103.out
                have hcz71_0 : wr.cell? ⟨gb103, 0, none⟩ = some (.int .i64 ((rd_T34 l0_0 a1).f0)) := (blk_cell BK103.out 0).trans rfl
                have hcz71_1 : wr.cell? ⟨gb103, 1, none⟩ = some (.int .i64 ((rd_T34 l0_0 a1).f1)) := (blk_cell BK103.out 1).trans rfl
                have hcz71_2 : wr.cell? ⟨gb103, 2, none⟩ = some (.int .i64 ((rd_T34 l0_0 a1).f2)) := (blk_cell BK103.out 2).trans rfl
                have hcz71_3 : wr.cell? ⟨gb103, 3, none⟩ = some (.slice A102_3 ((rd_T34 l0_0 a1).f3).length c102_3) := (blk_cell BK103.out 3).trans rfl
                have hcz71_4 : wr.cell? ⟨gb103, 4, none⟩ = some (.slice A102_4 ((rd_T34 l0_0 a1).f4).length c102_4) := (blk_cell BK103.out 4).trans rfl
                have hcz71_5 : wr.cell? ⟨gb103, 5, none⟩ = some (.int .i64 ((rd_T34 l0_0 a1).f5)) := (blk_cell BK103.out 5).trans rfl
                have hcz71_6 : wr.cell? ⟨gb103, 6, none⟩ = some (.int .i64 ((rd_T34 l0_0 a1).f6)) := (blk_cell BK103.out 6).trans rfl
                have hcz71_7 : wr.cell? ⟨gb103, 7, none⟩ = some (.int .i64 ((rd_T34 l0_0 a1).f7)) := (blk_cell BK103.out 7).trans rfl
                have hcz71_8 : wr.cell? ⟨gb103, 8, none⟩ = some (.slice A102_8 ((rd_T34 l0_0 a1).f8).length c102_8) := (blk_cell BK103.out 8).trans rfl
                have hcz71_9 : wr.cell? ⟨gb103, 9, none⟩ = some (.slice A102_9 ((rd_T34 l0_0 a1).f9).length c102_9) := (blk_cell BK103.out 9).trans rfl
                have hfz71_0 := blk_frozen BK103.out 0
                have hfz71_1 := blk_frozen BK103.out 1
                have hfz71_2 := blk_frozen BK103.out 2
                have hfz71_3 := blk_frozen BK103.out 3
                have hfz71_4 := blk_frozen BK103.out 4
                have hfz71_5 := blk_frozen BK103.out 5
                have hfz71_6 := blk_frozen BK103.out 6
                have hfz71_7 := blk_frozen BK103.out 7
                have hfz71_8 := blk_frozen BK103.out 8
                have hfz71_9 := blk_frozen BK103.out 9
                go_wp2
                go_ret
                exact ⟨by first | rfl | (simp [errW_none, errW_some] <;> rfl) | (simp [*, errW_none, errW_some] <;> rfl), by repeat (first | (with_reducible first | exact HB.out | apply below_alloc | apply pw_below_drewN | apply below_drew1 | refine below_set ?_ GE101.out | refine below_set ?_ GE103.out) | exact HB.out)⟩
            · rw [if_neg c66] at H
              have c66b0 : decide (1 ≤ (((rd_T34 l0_0 a1).f3).length : Int)) = false := decide_eq_false c66
              have c66b1 : decide (1 ≤ ((rd_T34 l0_0 a1).f3).length) = false := decide_eq_false (by omega)
              clear c66
              obtain rfl := Option.some.inj H
              have hnb72 := NB103_101.out
              have hnc72 := NB101_103.out
              have hcz73_0 : wr.cell? ⟨gb103, 0, none⟩ = some (.int .i64 ((rd_T34 l0_0 a1).f0)) := (blk_cell BK103.out 0).trans rfl
              have hcz73_1 : wr.cell? ⟨gb103, 1, none⟩ = some (.int .i64 ((rd_T34 l0_0 a1).f1)) := (blk_cell BK103.out 1).trans rfl
              have hcz73_2 : wr.cell? ⟨gb103, 2, none⟩ = some (.int .i64 ((rd_T34 l0_0 a1).f2)) := (blk_cell BK103.out 2).trans rfl
              have hcz73_3 : wr.cell? ⟨gb103, 3, none⟩ = some (.slice A102_3 ((rd_T34 l0_0 a1).f3).length c102_3) := (blk_cell BK103.out 3).trans rfl
              have hcz73_4 : wr.cell? ⟨gb103, 4, none⟩ = some (.slice A102_4 ((rd_T34 l0_0 a1).f4).length c102_4) := (blk_cell BK103.out 4).trans rfl
              have hcz73_5 : wr.cell? ⟨gb103, 5, none⟩ = some (.int .i64 ((rd_T34 l0_0 a1).f5)) := (blk_cell BK103.out 5).trans rfl
              have hcz73_6 : wr.cell? ⟨gb103, 6, none⟩ = some (.int .i64 ((rd_T34 l0_0 a1).f6)) := (blk_cell BK103.out 6).trans rfl
              have hcz73_7 : wr.cell? ⟨gb103, 7, none⟩ = some (.int .i64 ((rd_T34 l0_0 a1).f7)) := (blk_cell BK103.out 7).trans rfl
              have hcz73_8 : wr.cell? ⟨gb103, 8, none⟩ = some (.slice A102_8 ((rd_T34 l0_0 a1).f8).length c102_8) := (blk_cell BK103.out 8).trans rfl
              have hcz73_9 : wr.cell? ⟨gb103, 9, none⟩ = some (.slice A102_9 ((rd_T34 l0_0 a1).f9).length c102_9) := (blk_cell BK103.out 9).trans rfl
              have hfz73_0 := blk_frozen BK103.out 0
              have hfz73_1 := blk_frozen BK103.out 1
              have hfz73_2 := blk_frozen BK103.out 2
              have hfz73_3 := blk_frozen BK103.out 3
              have hfz73_4 := blk_frozen BK103.out 4
              have hfz73_5 := blk_frozen BK103.out 5
              have hfz73_6 := blk_frozen BK103.out 6
              have hfz73_7 := blk_frozen BK103.out 7
              have hfz73_8 := blk_frozen BK103.out 8
              have hfz73_9 := blk_frozen BK103.out 9
              go_wp2
              go_ret
              exact ⟨by first | rfl | (simp [errW_none, errW_some] <;> rfl) | (simp [*, errW_none, errW_some] <;> rfl), by repeat (first | (with_reducible first | exact HB.out | apply below_alloc | apply pw_below_drewN | apply below_drew1 | refine below_set ?_ GE101.out | refine below_set ?_ GE103.out) | exact HB.out)⟩
    · rw [if_neg c4] at H
      exact absurd H (by simp)
  · rw [if_neg c3] at H
    exact absurd H (by simp)

end Go.Proofs.Ytneglmnffdmbiaa.P
