/- Proved here: what the functions named below compute (or, in a text Law.., that the law holds), at every argument that the theorems' own premises allow. Written by a program of this session over the kit's printer; Lean checks it. -/
import Derived.Test.YtocclfjddihmbaaP0
import Derived.Test.YtocclfjddihmbaaPcofferdamlaw10alive
import Derived.Test.YtocclfjddihmbaaPlexScan
namespace Go.Proofs.Ytocclfjddihmbaa.P
open Go.RowKit Go.Proofs.YtocclfjddihmbaaW.PrintWords Go.Proofs.YtocclfjddihmbaaW.PrintLast Go.Proofs.YtocclfjddihmbaaW.PrintMore
attribute [local go_sem] max2_int min2_int max_two min_two max_three min_three max_four min_four   -- for this text's walks alone
set_option linter.unusedVariables false
set_option linter.unusedSimpArgs false

/-! ### cofferdamlaw10_LexPlaces: function 9 -/
mutual
def cofferdamlaw10_LexPlaces.l0 : Nat → ByteArray → List (S41) → Int → Int → Option (Bool)
  | 0, _, _, _, _ => none
  | k + 1, x0, x3, x6, x7 => if x7 < (x3.length : Int) then (if 0 ≤ x7 then (if ((rd_T41 x3 x7).f3) < x6 then (cofferdamlaw10_LexPlaces.j1 k x0 x3 x7 true ((rd_T41 x3 x7).f0) ((rd_T41 x3 x7).f1) ((rd_T41 x3 x7).f2) ((rd_T41 x3 x7).f3)) else (cofferdamlaw10_LexPlaces.j1 k x0 x3 x7 (decide (((rd_T41 x3 x7).f3) ≥ (x0.size : Int))) ((rd_T41 x3 x7).f0) ((rd_T41 x3 x7).f1) ((rd_T41 x3 x7).f2) ((rd_T41 x3 x7).f3))) else (none)) else ((cofferdamlaw10_alive.f k).bind fun t155 => (some t155))
def cofferdamlaw10_LexPlaces.j1 : Nat → ByteArray → List (S41) → Int → Bool → Int → ByteArray → Int → Int → Option (Bool)
  | 0, _, _, _, _, _, _, _, _ => none
  | k + 1, x0, x3, x7, x56, x158000, x158001, x158002, x158003 => if x56 = true then (some false) else (if 0 ≤ x158003 then (if x158003 < (x0.size : Int) then (if x158000 = 1 then (cofferdamlaw10_LexPlaces.l1 k x0 x3 x7 0 0 x158000 x158001 x158002 x158003) else (if x158000 = 2 then (if (bt x0 x158003) = 36 then (if (wrap64 (x158003 + (wrap64 (1 + (x158001.size : Int))))) > (x0.size : Int) then (some false) else (if 0 ≤ (wrap64 (x158003 + 1)) then (if (wrap64 (x158003 + 1)) ≤ (wrap64 (x158003 + (wrap64 (1 + (x158001.size : Int))))) then (if (wrap64 (x158003 + (wrap64 (1 + (x158001.size : Int))))) ≤ (x0.size : Int) then (if (x0.extract ((wrap64 (x158003 + 1)) : Int).toNat ((wrap64 (x158003 + (wrap64 (1 + (x158001.size : Int))))) : Int).toNat).toList = x158001.toList then (cofferdamlaw10_LexPlaces.l0 k x0 x3 (wrap64 (x158003 + (wrap64 (1 + (x158001.size : Int))))) (wrap64 (x7 + 1))) else (some false)) else (none)) else (none)) else (none))) else (some false)) else (if (x158001.size : Int) = 0 then (some false) else (if (wrap64 (x158003 + (x158001.size : Int))) > (x0.size : Int) then (some false) else (if x158003 ≤ (wrap64 (x158003 + (x158001.size : Int))) then (if (wrap64 (x158003 + (x158001.size : Int))) ≤ (x0.size : Int) then (if (x0.extract (x158003 : Int).toNat ((wrap64 (x158003 + (x158001.size : Int))) : Int).toNat).toList = x158001.toList then (cofferdamlaw10_LexPlaces.l0 k x0 x3 (wrap64 (x158003 + (x158001.size : Int))) (wrap64 (x7 + 1))) else (some false)) else (none)) else (none)))))) else (none)) else (none))
def cofferdamlaw10_LexPlaces.l1 : Nat → ByteArray → List (S41) → Int → Int → Int → Int → ByteArray → Int → Int → Option (Bool)
  | 0, _, _, _, _, _, _, _, _, _ => none
  | k + 1, x0, x3, x7, x10, x11, x158000, x158001, x158002, x158003 => if (wrap64 (x158003 + x10)) < (x0.size : Int) then (if 0 ≤ (wrap64 (x158003 + x10)) then (if (bt x0 (wrap64 (x158003 + x10))) ≥ 48 then (if (bt x0 (wrap64 (x158003 + x10))) ≤ 57 then (if x10 < 9 then (cofferdamlaw10_LexPlaces.l1 k x0 x3 x7 (wrap64 (x10 + 1)) (wrap64 ((wrap64 (10 * x11)) + (((bt x0 (wrap64 (x158003 + x10))) - 48) % 256))) x158000 x158001 x158002 x158003) else (if x10 = 0 then (some false) else (if x11 = x158002 then (cofferdamlaw10_LexPlaces.l0 k x0 x3 (wrap64 (x158003 + x10)) (wrap64 (x7 + 1))) else (some false)))) else (if x10 = 0 then (some false) else (if x11 = x158002 then (cofferdamlaw10_LexPlaces.l0 k x0 x3 (wrap64 (x158003 + x10)) (wrap64 (x7 + 1))) else (some false)))) else (if x10 = 0 then (some false) else (if x11 = x158002 then (cofferdamlaw10_LexPlaces.l0 k x0 x3 (wrap64 (x158003 + x10)) (wrap64 (x7 + 1))) else (some false)))) else (none)) else (if x10 = 0 then (some false) else (if x11 = x158002 then (cofferdamlaw10_LexPlaces.l0 k x0 x3 (wrap64 (x158003 + x10)) (wrap64 (x7 + 1))) else (some false)))
end
def cofferdamlaw10_LexPlaces.f (k : Nat) (a0 : ByteArray) : Option (Bool) := (lex_Scan.f k a0).bind fun bt149 => (if bt149.2.1 = 0 then (cofferdamlaw10_LexPlaces.l0 k a0 bt149.1 0 0) else ((cofferdamlaw10_alive.f k).bind fun t154 => (if t154 = true then (if (bt149.1.length : Int) = 0 then (if bt149.2.2 ≥ 0 then (some (decide (bt149.2.2 ≤ (a0.size : Int)))) else (some false)) else (some false)) else (some false))))
theorem cofferdamlaw10_LexPlaces.mono_l : ∀ k, (∀ y0 y1 y2 y3, LeO (cofferdamlaw10_LexPlaces.l0 k y0 y1 y2 y3) (cofferdamlaw10_LexPlaces.l0 (k + 1) y0 y1 y2 y3)) ∧ (∀ y0 y1 y2 y3 y4 y5 y6 y7, LeO (cofferdamlaw10_LexPlaces.j1 k y0 y1 y2 y3 y4 y5 y6 y7) (cofferdamlaw10_LexPlaces.j1 (k + 1) y0 y1 y2 y3 y4 y5 y6 y7)) ∧ (∀ y0 y1 y2 y3 y4 y5 y6 y7 y8, LeO (cofferdamlaw10_LexPlaces.l1 k y0 y1 y2 y3 y4 y5 y6 y7 y8) (cofferdamlaw10_LexPlaces.l1 (k + 1) y0 y1 y2 y3 y4 y5 y6 y7 y8))
  | 0 => ⟨fun _ _ _ _ r h => by simp [cofferdamlaw10_LexPlaces.l0] at h, fun _ _ _ _ _ _ _ _ r h => by simp [cofferdamlaw10_LexPlaces.j1] at h, fun _ _ _ _ _ _ _ _ _ r h => by simp [cofferdamlaw10_LexPlaces.l1] at h⟩
  | k + 1 => by
    obtain ⟨ih0, ih1, ih2⟩ := cofferdamlaw10_LexPlaces.mono_l k
    refine ⟨?_, ?_, ?_⟩
    · intro y0 y1 y2 y3
      unfold cofferdamlaw10_LexPlaces.l0
      repeat' first
      | (with_reducible exact ih0 _ _ _ _)
      | (with_reducible exact ih1 _ _ _ _ _ _ _ _)
      | (with_reducible exact ih2 _ _ _ _ _ _ _ _ _)
      | (with_reducible exact cofferdamlaw10_alive.mono _)
      | (with_reducible exact lex_Scan.mono _ _)
      | (with_reducible exact LeO.refl _)
      | (with_reducible exact LeO.none _)
      | (with_reducible refine LeO.ite ?_ ?_)
      | (with_reducible refine LeO.bind ?_ (fun _ => ?_))
      | exact ih0 _ _ _ _
      | exact ih1 _ _ _ _ _ _ _ _
      | exact ih2 _ _ _ _ _ _ _ _ _
      | exact cofferdamlaw10_alive.mono _
      | exact lex_Scan.mono _ _
      | exact LeO.none _
      | refine LeO.ite ?_ ?_
      | refine LeO.bind ?_ (fun _ => ?_)
    · intro y0 y1 y2 y3 y4 y5 y6 y7
      unfold cofferdamlaw10_LexPlaces.j1
      repeat' first
      | (with_reducible exact ih0 _ _ _ _)
      | (with_reducible exact ih1 _ _ _ _ _ _ _ _)
      | (with_reducible exact ih2 _ _ _ _ _ _ _ _ _)
      | (with_reducible exact cofferdamlaw10_alive.mono _)
      | (with_reducible exact lex_Scan.mono _ _)
      | (with_reducible exact LeO.refl _)
      | (with_reducible exact LeO.none _)
      | (with_reducible refine LeO.ite ?_ ?_)
      | (with_reducible refine LeO.bind ?_ (fun _ => ?_))
      | exact ih0 _ _ _ _
      | exact ih1 _ _ _ _ _ _ _ _
      | exact ih2 _ _ _ _ _ _ _ _ _
      | exact cofferdamlaw10_alive.mono _
      | exact lex_Scan.mono _ _
      | exact LeO.none _
      | refine LeO.ite ?_ ?_
      | refine LeO.bind ?_ (fun _ => ?_)
    · intro y0 y1 y2 y3 y4 y5 y6 y7 y8
      unfold cofferdamlaw10_LexPlaces.l1
      repeat' first
      | (with_reducible exact ih0 _ _ _ _)
      | (with_reducible exact ih1 _ _ _ _ _ _ _ _)
      | (with_reducible exact ih2 _ _ _ _ _ _ _ _ _)
      | (with_reducible exact cofferdamlaw10_alive.mono _)
      | (with_reducible exact lex_Scan.mono _ _)
      | (with_reducible exact LeO.refl _)
      | (with_reducible exact LeO.none _)
      | (with_reducible refine LeO.ite ?_ ?_)
      | (with_reducible refine LeO.bind ?_ (fun _ => ?_))
      | exact ih0 _ _ _ _
      | exact ih1 _ _ _ _ _ _ _ _
      | exact ih2 _ _ _ _ _ _ _ _ _
      | exact cofferdamlaw10_alive.mono _
      | exact lex_Scan.mono _ _
      | exact LeO.none _
      | refine LeO.ite ?_ ?_
      | refine LeO.bind ?_ (fun _ => ?_)
theorem cofferdamlaw10_LexPlaces.mono : ∀ a0 k, LeO (cofferdamlaw10_LexPlaces.f k a0) (cofferdamlaw10_LexPlaces.f (k + 1) a0) := by
  intro a0 k
  obtain ⟨ih0, ih1, ih2⟩ := cofferdamlaw10_LexPlaces.mono_l k
  unfold cofferdamlaw10_LexPlaces.f
  repeat' first
      | (with_reducible exact ih0 _ _ _ _)
      | (with_reducible exact ih1 _ _ _ _ _ _ _ _)
      | (with_reducible exact ih2 _ _ _ _ _ _ _ _ _)
      | (with_reducible exact cofferdamlaw10_alive.mono _)
      | (with_reducible exact lex_Scan.mono _ _)
      | (with_reducible exact LeO.refl _)
      | (with_reducible exact LeO.none _)
      | (with_reducible refine LeO.ite ?_ ?_)
      | (with_reducible refine LeO.bind ?_ (fun _ => ?_))
      | exact ih0 _ _ _ _
      | exact ih1 _ _ _ _ _ _ _ _
      | exact ih2 _ _ _ _ _ _ _ _ _
      | exact cofferdamlaw10_alive.mono _
      | exact lex_Scan.mono _ _
      | exact LeO.none _
      | refine LeO.ite ?_ ?_
      | refine LeO.bind ?_ (fun _ => ?_)
set_option maxHeartbeats 8000000 in
set_option maxRecDepth 100000 in
theorem cofferdamlaw10_LexPlaces.calls (k : Nat) (a0 : ByteArray) (r : Bool) (w : World) (h : cofferdamlaw10_LexPlaces.f k a0 = some r) :
    Calls Try.prog 9 #[.string a0] w fun e w' => e = .returned (.bool r) ∧ Below w.heap.size w w' := by
  have hu41 := Try.underlying41
  have HB := Aside0.mk (Below.refl w.heap.size w)
  have H : ((lex_Scan.f k a0).bind fun bt149 => (if bt149.2.1 = 0 then (cofferdamlaw10_LexPlaces.l0 k a0 bt149.1 0 0) else ((cofferdamlaw10_alive.f k).bind fun t154 => (if t154 = true then (if (bt149.1.length : Int) = 0 then (if bt149.2.2 ≥ 0 then (some (decide (bt149.2.2 ≤ (a0.size : Int)))) else (some false)) else (some false)) else (some false))))) = some r := h
  clear h
  replace H := Option.bind_eq_some_iff.mp H
  obtain ⟨⟨t149, t150, t151⟩, A20, H⟩ := H
  replace H : (if t150 = 0 then (cofferdamlaw10_LexPlaces.l0 k a0 t149 0 0) else ((cofferdamlaw10_alive.f k).bind fun t154 => (if t154 = true then (if (t149.length : Int) = 0 then (if t151 ≥ 0 then (some (decide (t151 ≤ (a0.size : Int)))) else (some false)) else (some false)) else (some false)))) = some r := H
  have A2 := Aside0.mk A20
  clear A20
  by_cases c3 : t150 = 0
  · rw [if_pos c3] at H
    have c3b0 : (t150 == 0) = true := beq_iff_eq.mpr c3
    have c3b1 : (t150 != 0) = false := bne_eq_false_iff_eq.mpr c3
    clear c3
    have H' := Aside0.mk H
    clear H
    go_enter Try.func9, Try.ntmps9
    go_wp2_with (first | (go_at_call 23; (with_reducible refine (lex_Scan.calls k a0 t149 t150 t151 _ A2.out).mono ?_); rintro e w4 ⟨v152, rfl, ho0, hb⟩; have n0_ := Aside0.mk (Kd.R_lower ho0 (below_size (by repeat (first | (with_reducible first | exact HB.out | apply below_alloc | apply pw_below_drewN | apply below_drew1) | exact HB.out)))); have n1_ := Aside0.mk (below_step (by repeat (first | (with_reducible first | exact HB.out | apply below_alloc | apply pw_below_drewN | apply below_drew1) | exact HB.out)) hb); clear HB; have HO153 := n0_; have HB := n1_; clear n0_ n1_; (try clear hb); (try clear hb2); (try clear hk); (try clear hi); (try clear ho0)))
    repeat (go_quiet (first | (go_at_call 23; (with_reducible refine (lex_Scan.calls k a0 t149 t150 t151 _ A2.out).mono ?_); rintro e w4 ⟨v152, rfl, ho0, hb⟩; have n0_ := Aside0.mk (Kd.R_lower ho0 (below_size (by repeat (first | (with_reducible first | exact HB.out | apply below_alloc | apply pw_below_drewN | apply below_drew1) | exact HB.out)))); have n1_ := Aside0.mk (below_step (by repeat (first | (with_reducible first | exact HB.out | apply below_alloc | apply pw_below_drewN | apply below_drew1) | exact HB.out)) hb); clear HB; have HO153 := n0_; have HB := n1_; clear n0_ n1_; (try clear hb); (try clear hb2); (try clear hk); (try clear hi); (try clear ho0))); try go_wp2_with (first | (go_at_call 23; (with_reducible refine (lex_Scan.calls k a0 t149 t150 t151 _ A2.out).mono ?_); rintro e w4 ⟨v152, rfl, ho0, hb⟩; have n0_ := Aside0.mk (Kd.R_lower ho0 (below_size (by repeat (first | (with_reducible first | exact HB.out | apply below_alloc | apply pw_below_drewN | apply below_drew1) | exact HB.out)))); have n1_ := Aside0.mk (below_step (by repeat (first | (with_reducible first | exact HB.out | apply below_alloc | apply pw_below_drewN | apply below_drew1) | exact HB.out)) hb); clear HB; have HO153 := n0_; have HB := n1_; clear n0_ n1_; (try clear hb); (try clear hb2); (try clear hk); (try clear hi); (try clear ho0))))
    go_loopg [6, 7] k (fun kq v6 v7 w' => ∃ (x6_1 : Int) (x7_1 : Int), v6 = .int .i64 x6_1 ∧ v7 = .int .i64 x7_1 ∧ Aside0 (cofferdamlaw10_LexPlaces.l0 kq a0 t149 x6_1 x7_1 = some r) ∧ Aside0 (kq ≤ k) ∧ Aside0 (Kd.R k41 41 w' w.heap.size (fun _ => True) v152 t149) ∧ Aside0 (Below w.heap.size w w'))
    case atStart => exact ⟨(0), (0), (by first | rfl | (simp; done) | (simp [*]; done)), (by first | rfl | (simp; done) | (simp [*]; done)), H', ⟨Nat.le_refl _⟩, ⟨by (with_reducible repeat (first | apply Kd.R_alloc | apply Kd.R_drewN | apply Kd.R_drew)); exact HO153.out⟩, ⟨by repeat (first | (with_reducible first | exact HB.out | apply below_alloc | apply pw_below_drewN | apply below_drew1) | exact HB.out)⟩⟩
    case round =>
      clear H'
      try clear p2
      try clear c3
      try clear c3b0
      try clear c3b1
      obtain ⟨x6_1, x7_1, rfl, rfl, HA, HK1, HO_3, HB⟩ := hrel
      cases gk with
      | zero => exact absurd HA.out (by simp [cofferdamlaw10_LexPlaces.l0])
      | succ k1 =>
        have H := HA.out
        clear HA
        simp only [cofferdamlaw10_LexPlaces.l0] at H
        by_cases c5 : x7_1 < (t149.length : Int)
        · rw [if_pos c5] at H
          have c5b0 : decide (x7_1 < (t149.length : Int)) = true := decide_eq_true c5
          clear c5
          by_cases c6 : 0 ≤ x7_1
          · rw [if_pos c6] at H
            have c6b0 : decide (0 ≤ x7_1) = true := decide_eq_true c6
            clear c6
            have HC7 := Aside0.mk H
            clear H
            obtain ⟨Ao8, co8, eo8⟩ := Kd.R_slice HO_3.out
            subst eo8
            have p156 : 0 ≤ (x7_1 : Int) := of_decide_eq_true (by first | (with_reducible assumption) | assumption)
            have q156 : x7_1 < (t149.length : Int) := of_decide_eq_true (by first | (with_reducible assumption) | assumption)
            obtain ⟨ad156, e156, hx156_0, hx156_1, hx156_2, hx156_3⟩ := at_T41 (Kd.R_reads' HO_3.out).2.2 x7_1 p156 q156
            cases e156
            replace p156 := eq_true p156
            replace q156 := eq_true q156
            go_upto_region 9 with (first | ((with_reducible refine gate_dst (N := 8) rfl ?_); (try (refine gate_guard (by rfl) ?_; dsimp only)); refine box_event ?hg (N := 8) ?hd (cs := #[.int .i64 0, .string (⟨#[]⟩ : ByteArray), .int .i64 0, .int .i64 0]) (t := 41) ?hr ?_; (case hd => rfl); (case hg => rfl); (case hr => first | (go_simp; done) | (go_simp; rfl)); intro gb157 hg w9 hbox hb; have n0_ := Aside0.mk (Kd.R_below (Kd.R_elderB (by (with_reducible repeat (first | apply Kd.R_alloc | apply Kd.R_drewN | apply Kd.R_drew)); exact HO_3.out) gb157 (Nat.le_of_eq hg.symm)) hb); have n1_ := Aside0.mk (below_step (by repeat (first | (with_reducible first | exact HB.out | apply below_alloc | apply pw_below_drewN | apply below_drew1) | exact HB.out)) hb); have n2_ := Aside0.mk (hbox); have n3_ := Aside0.mk ((by rw [hg]; exact (below_size (by repeat (first | (with_reducible first | exact HB.out | apply below_alloc | apply pw_below_drewN | apply below_drew1) | exact HB.out))) : w.heap.size ≤ gb157)); have n4_ := Aside0.mk ((by rw [hg]; exact (below_size (by repeat (first | (with_reducible first | exact HB.out | apply below_alloc | apply pw_below_drewN | apply below_drew1) | exact HB.out))) : w.heap.size ≤ gb157)); clear HO_3; clear HB; have HO_3 := n0_; have HB := n1_; have BK157 := n2_; have GW157 := n3_; have GE157 := n4_; clear n0_ n1_ n2_ n3_ n4_; clear hb hbox hg; have hcz10_0 : w9.cell? ⟨gb157, 0, none⟩ = some (.int .i64 0) := (blk_cell BK157.out 0).trans rfl; have hcz10_1 : w9.cell? ⟨gb157, 1, none⟩ = some (.string (⟨#[]⟩ : ByteArray)) := (blk_cell BK157.out 1).trans rfl; have hcz10_2 : w9.cell? ⟨gb157, 2, none⟩ = some (.int .i64 0) := (blk_cell BK157.out 2).trans rfl; have hcz10_3 : w9.cell? ⟨gb157, 3, none⟩ = some (.int .i64 0) := (blk_cell BK157.out 3).trans rfl; have hfz10_0 := blk_frozen BK157.out 0; have hfz10_1 := blk_frozen BK157.out 1; have hfz10_2 := blk_frozen BK157.out 2; have hfz10_3 := blk_frozen BK157.out 3))
            repeat (go_quiet (first | ((with_reducible refine gate_dst (N := 8) rfl ?_); (try (refine gate_guard (by rfl) ?_; dsimp only)); refine box_event ?hg (N := 8) ?hd (cs := #[.int .i64 0, .string (⟨#[]⟩ : ByteArray), .int .i64 0, .int .i64 0]) (t := 41) ?hr ?_; (case hd => rfl); (case hg => rfl); (case hr => first | (go_simp; done) | (go_simp; rfl)); intro gb157 hg w9 hbox hb; have n0_ := Aside0.mk (Kd.R_below (Kd.R_elderB (by (with_reducible repeat (first | apply Kd.R_alloc | apply Kd.R_drewN | apply Kd.R_drew)); exact HO_3.out) gb157 (Nat.le_of_eq hg.symm)) hb); have n1_ := Aside0.mk (below_step (by repeat (first | (with_reducible first | exact HB.out | apply below_alloc | apply pw_below_drewN | apply below_drew1) | exact HB.out)) hb); have n2_ := Aside0.mk (hbox); have n3_ := Aside0.mk ((by rw [hg]; exact (below_size (by repeat (first | (with_reducible first | exact HB.out | apply below_alloc | apply pw_below_drewN | apply below_drew1) | exact HB.out))) : w.heap.size ≤ gb157)); have n4_ := Aside0.mk ((by rw [hg]; exact (below_size (by repeat (first | (with_reducible first | exact HB.out | apply below_alloc | apply pw_below_drewN | apply below_drew1) | exact HB.out))) : w.heap.size ≤ gb157)); clear HO_3; clear HB; have HO_3 := n0_; have HB := n1_; have BK157 := n2_; have GW157 := n3_; have GE157 := n4_; clear n0_ n1_ n2_ n3_ n4_; clear hb hbox hg; have hcz10_0 : w9.cell? ⟨gb157, 0, none⟩ = some (.int .i64 0) := (blk_cell BK157.out 0).trans rfl; have hcz10_1 : w9.cell? ⟨gb157, 1, none⟩ = some (.string (⟨#[]⟩ : ByteArray)) := (blk_cell BK157.out 1).trans rfl; have hcz10_2 : w9.cell? ⟨gb157, 2, none⟩ = some (.int .i64 0) := (blk_cell BK157.out 2).trans rfl; have hcz10_3 : w9.cell? ⟨gb157, 3, none⟩ = some (.int .i64 0) := (blk_cell BK157.out 3).trans rfl; have hfz10_0 := blk_frozen BK157.out 0; have hfz10_1 := blk_frozen BK157.out 1; have hfz10_2 := blk_frozen BK157.out 2; have hfz10_3 := blk_frozen BK157.out 3)); go_upto_region 9 with (first | ((with_reducible refine gate_dst (N := 8) rfl ?_); (try (refine gate_guard (by rfl) ?_; dsimp only)); refine box_event ?hg (N := 8) ?hd (cs := #[.int .i64 0, .string (⟨#[]⟩ : ByteArray), .int .i64 0, .int .i64 0]) (t := 41) ?hr ?_; (case hd => rfl); (case hg => rfl); (case hr => first | (go_simp; done) | (go_simp; rfl)); intro gb157 hg w9 hbox hb; have n0_ := Aside0.mk (Kd.R_below (Kd.R_elderB (by (with_reducible repeat (first | apply Kd.R_alloc | apply Kd.R_drewN | apply Kd.R_drew)); exact HO_3.out) gb157 (Nat.le_of_eq hg.symm)) hb); have n1_ := Aside0.mk (below_step (by repeat (first | (with_reducible first | exact HB.out | apply below_alloc | apply pw_below_drewN | apply below_drew1) | exact HB.out)) hb); have n2_ := Aside0.mk (hbox); have n3_ := Aside0.mk ((by rw [hg]; exact (below_size (by repeat (first | (with_reducible first | exact HB.out | apply below_alloc | apply pw_below_drewN | apply below_drew1) | exact HB.out))) : w.heap.size ≤ gb157)); have n4_ := Aside0.mk ((by rw [hg]; exact (below_size (by repeat (first | (with_reducible first | exact HB.out | apply below_alloc | apply pw_below_drewN | apply below_drew1) | exact HB.out))) : w.heap.size ≤ gb157)); clear HO_3; clear HB; have HO_3 := n0_; have HB := n1_; have BK157 := n2_; have GW157 := n3_; have GE157 := n4_; clear n0_ n1_ n2_ n3_ n4_; clear hb hbox hg; have hcz10_0 : w9.cell? ⟨gb157, 0, none⟩ = some (.int .i64 0) := (blk_cell BK157.out 0).trans rfl; have hcz10_1 : w9.cell? ⟨gb157, 1, none⟩ = some (.string (⟨#[]⟩ : ByteArray)) := (blk_cell BK157.out 1).trans rfl; have hcz10_2 : w9.cell? ⟨gb157, 2, none⟩ = some (.int .i64 0) := (blk_cell BK157.out 2).trans rfl; have hcz10_3 : w9.cell? ⟨gb157, 3, none⟩ = some (.int .i64 0) := (blk_cell BK157.out 3).trans rfl; have hfz10_0 := blk_frozen BK157.out 0; have hfz10_1 := blk_frozen BK157.out 1; have hfz10_2 := blk_frozen BK157.out 2; have hfz10_3 := blk_frozen BK157.out 3)))
            (try simp only [Act.put, List.setIfInBounds_toArray, List.set_cons_zero, List.set_cons_succ])
            go_cut [56] (fun v56 wc => ∃ (kq : Nat) (x56_6 : Bool), v56 = .bool x56_6 ∧ Aside0 (cofferdamlaw10_LexPlaces.j1 kq a0 t149 x7_1 x56_6 ((rd_T41 t149 x7_1).f0) ((rd_T41 t149 x7_1).f1) ((rd_T41 t149 x7_1).f2) ((rd_T41 t149 x7_1).f3) = some r) ∧ Aside0 (kq ≤ k1) ∧ Aside0 (Kd.R k41 41 wc w.heap.size (fun k_ => k_ ≠ gb157) (.slice (some ad156) t149.length co8) t149) ∧ Aside0 (wc.heap[gb157]? = some (.cells #[.int .i64 ((rd_T41 t149 x7_1).f0), .string ((rd_T41 t149 x7_1).f1), .int .i64 ((rd_T41 t149 x7_1).f2), .int .i64 ((rd_T41 t149 x7_1).f3)] 41 (0, 0))) ∧ Aside0 (Below w.heap.size w wc))
            case first =>
              have H := HC7.out
              clear HC7
              by_cases c11 : ((rd_T41 t149 x7_1).f3) < x6_1
              · rw [if_pos c11] at H
                have c11b0 : decide (((rd_T41 t149 x7_1).f3) < x6_1) = true := decide_eq_true c11
                clear c11
                (first | rw [c11b0] | (simp only [i64_w, i32_w]; rw [c11b0]) | skip)
                have H' := Aside0.mk H
                clear H
                have hcz12_0 : w9.cell? ⟨gb157, 0, none⟩ = some (.int .i64 0) := (blk_cell BK157.out 0).trans rfl
                have hcz12_1 : w9.cell? ⟨gb157, 1, none⟩ = some (.string (⟨#[]⟩ : ByteArray)) := (blk_cell BK157.out 1).trans rfl
                have hcz12_2 : w9.cell? ⟨gb157, 2, none⟩ = some (.int .i64 0) := (blk_cell BK157.out 2).trans rfl
                have hcz12_3 : w9.cell? ⟨gb157, 3, none⟩ = some (.int .i64 0) := (blk_cell BK157.out 3).trans rfl
                have hfz12_0 := blk_frozen BK157.out 0
                have hfz12_1 := blk_frozen BK157.out 1
                have hfz12_2 := blk_frozen BK157.out 2
                have hfz12_3 := blk_frozen BK157.out 3
                go_wp2
                repeat (go_quiet (fail); try go_wp2)
                go_meet
                case rel => exact ⟨_, (true), (by first | rfl | (simp; done) | (simp [*]; done)), H', ⟨by have := HK1.out; first | omega | exact Nat.le_refl _⟩, ⟨by (with_reducible repeat (first | apply Kd.R_alloc | apply Kd.R_drewN | apply Kd.R_drew)); exact Kd.R_mono (Kd.R_far (p := ⟨gb157, 3, none⟩) (Kd.R_far (p := ⟨gb157, 2, none⟩) (Kd.R_far (p := ⟨gb157, 1, none⟩) (Kd.R_far (p := ⟨gb157, 0, none⟩) (Kd.R_mono HO_3.out (fun k_ hk => (⟨hk, hk.2⟩ : _ ∧ k_ ≠ gb157))) (fun _ hk => hk.2) (.int .i64 ((rd_T41 t149 x7_1).f0))) (fun _ hk => hk.2) (.string ((rd_T41 t149 x7_1).f1))) (fun _ hk => hk.2) (.int .i64 ((rd_T41 t149 x7_1).f2))) (fun _ hk => hk.2) (.int .i64 ((rd_T41 t149 x7_1).f3))) (fun _ hk => hk.1.2)⟩, ⟨by (with_reducible repeat (first | refine blk_drewN ?_ _ | refine blk_drew ?_ | refine blk_alloc ?_ _)); refine blk_put (cs := #[.int .i64 ((rd_T41 t149 x7_1).f0), .string ((rd_T41 t149 x7_1).f1), .int .i64 ((rd_T41 t149 x7_1).f2), .int .i64 0]) ?_ 3 _ rfl; (with_reducible repeat (first | refine blk_drewN ?_ _ | refine blk_drew ?_ | refine blk_alloc ?_ _)); refine blk_put (cs := #[.int .i64 ((rd_T41 t149 x7_1).f0), .string ((rd_T41 t149 x7_1).f1), .int .i64 0, .int .i64 0]) ?_ 2 _ rfl; (with_reducible repeat (first | refine blk_drewN ?_ _ | refine blk_drew ?_ | refine blk_alloc ?_ _)); refine blk_put (cs := #[.int .i64 ((rd_T41 t149 x7_1).f0), .string (⟨#[]⟩ : ByteArray), .int .i64 0, .int .i64 0]) ?_ 1 _ rfl; (with_reducible repeat (first | refine blk_drewN ?_ _ | refine blk_drew ?_ | refine blk_alloc ?_ _)); refine blk_put (cs := #[.int .i64 0, .string (⟨#[]⟩ : ByteArray), .int .i64 0, .int .i64 0]) ?_ 0 _ rfl; (with_reducible repeat (first | refine blk_drewN ?_ _ | refine blk_drew ?_ | refine blk_alloc ?_ _)); exact BK157.out⟩, ⟨by repeat (first | (with_reducible first | exact HB.out | apply below_alloc | apply pw_below_drewN | apply below_drew1 | refine below_set ?_ GE157.out) | exact HB.out)⟩⟩
              · rw [if_neg c11] at H
                have c11b0 : decide (((rd_T41 t149 x7_1).f3) < x6_1) = false := decide_eq_false c11
                clear c11
                (first | rw [c11b0] | (simp only [i64_w, i32_w]; rw [c11b0]) | skip)
                have H' := Aside0.mk H
                clear H
                have hcz13_0 : w9.cell? ⟨gb157, 0, none⟩ = some (.int .i64 0) := (blk_cell BK157.out 0).trans rfl
                have hcz13_1 : w9.cell? ⟨gb157, 1, none⟩ = some (.string (⟨#[]⟩ : ByteArray)) := (blk_cell BK157.out 1).trans rfl
                have hcz13_2 : w9.cell? ⟨gb157, 2, none⟩ = some (.int .i64 0) := (blk_cell BK157.out 2).trans rfl
                have hcz13_3 : w9.cell? ⟨gb157, 3, none⟩ = some (.int .i64 0) := (blk_cell BK157.out 3).trans rfl
                have hfz13_0 := blk_frozen BK157.out 0
                have hfz13_1 := blk_frozen BK157.out 1
                have hfz13_2 := blk_frozen BK157.out 2
                have hfz13_3 := blk_frozen BK157.out 3
                go_wp2
                repeat (go_quiet (fail); try go_wp2)
                go_meet
                case rel => exact ⟨_, (decide (((rd_T41 t149 x7_1).f3) ≥ (a0.size : Int))), (by first | rfl | (simp; done) | (simp [*]; done)), H', ⟨by have := HK1.out; first | omega | exact Nat.le_refl _⟩, ⟨by (with_reducible repeat (first | apply Kd.R_alloc | apply Kd.R_drewN | apply Kd.R_drew)); exact Kd.R_mono (Kd.R_far (p := ⟨gb157, 3, none⟩) (Kd.R_far (p := ⟨gb157, 2, none⟩) (Kd.R_far (p := ⟨gb157, 1, none⟩) (Kd.R_far (p := ⟨gb157, 0, none⟩) (Kd.R_mono HO_3.out (fun k_ hk => (⟨hk, hk.2⟩ : _ ∧ k_ ≠ gb157))) (fun _ hk => hk.2) (.int .i64 ((rd_T41 t149 x7_1).f0))) (fun _ hk => hk.2) (.string ((rd_T41 t149 x7_1).f1))) (fun _ hk => hk.2) (.int .i64 ((rd_T41 t149 x7_1).f2))) (fun _ hk => hk.2) (.int .i64 ((rd_T41 t149 x7_1).f3))) (fun _ hk => hk.1.2)⟩, ⟨by (with_reducible repeat (first | refine blk_drewN ?_ _ | refine blk_drew ?_ | refine blk_alloc ?_ _)); refine blk_put (cs := #[.int .i64 ((rd_T41 t149 x7_1).f0), .string ((rd_T41 t149 x7_1).f1), .int .i64 ((rd_T41 t149 x7_1).f2), .int .i64 0]) ?_ 3 _ rfl; (with_reducible repeat (first | refine blk_drewN ?_ _ | refine blk_drew ?_ | refine blk_alloc ?_ _)); refine blk_put (cs := #[.int .i64 ((rd_T41 t149 x7_1).f0), .string ((rd_T41 t149 x7_1).f1), .int .i64 0, .int .i64 0]) ?_ 2 _ rfl; (with_reducible repeat (first | refine blk_drewN ?_ _ | refine blk_drew ?_ | refine blk_alloc ?_ _)); refine blk_put (cs := #[.int .i64 ((rd_T41 t149 x7_1).f0), .string (⟨#[]⟩ : ByteArray), .int .i64 0, .int .i64 0]) ?_ 1 _ rfl; (with_reducible repeat (first | refine blk_drewN ?_ _ | refine blk_drew ?_ | refine blk_alloc ?_ _)); refine blk_put (cs := #[.int .i64 0, .string (⟨#[]⟩ : ByteArray), .int .i64 0, .int .i64 0]) ?_ 0 _ rfl; (with_reducible repeat (first | refine blk_drewN ?_ _ | refine blk_drew ?_ | refine blk_alloc ?_ _)); exact BK157.out⟩, ⟨by repeat (first | (with_reducible first | exact HB.out | apply below_alloc | apply pw_below_drewN | apply below_drew1 | refine below_set ?_ GE157.out) | exact HB.out)⟩⟩
            case rest =>
              clear HC7
              try clear c1
              try clear p1
              try clear q1
              try clear hx1
              try clear p2
              try clear c3
              try clear c3b0
              try clear c3b1
              try clear c5
              try clear c5b0
              try clear c6
              try clear c6b0
              try clear c9
              try clear c11
              try clear c11b0
              try clear hcz10_0
              try clear hcz10_1
              try clear hcz10_2
              try clear hcz10_3
              try clear hcz12_0
              try clear hcz12_1
              try clear hcz12_2
              try clear hcz12_3
              try clear hcz13_0
              try clear hcz13_1
              try clear hcz13_2
              try clear hcz13_3
              try clear hfz10_0
              try clear hfz10_1
              try clear hfz10_2
              try clear hfz10_3
              try clear hfz12_0
              try clear hfz12_1
              try clear hfz12_2
              try clear hfz12_3
              try clear hfz13_0
              try clear hfz13_1
              try clear hfz13_2
              try clear hfz13_3
              try clear hx156_0
              try clear hx156_1
              try clear hx156_2
              try clear hx156_3
              try clear p156
              try clear p2
              try clear q156
              obtain ⟨kq, x56_6, rfl, HA, HJ6, HO_3, BK157, HB⟩ := hcut
              cases kq with
              | zero => exact absurd HA.out (by simp [cofferdamlaw10_LexPlaces.j1])
              | succ kj6 =>
                have H := HA.out
                clear HA
                simp only [cofferdamlaw10_LexPlaces.j1] at H
                by_cases c14 : x56_6 = true
                · subst c14
                  have H1 : (some false) = some r := by rw [if_pos rfl] at H; exact H
                  clear H
                  have H := H1
                  clear H1
                  obtain rfl := Option.some.inj H
                  go_wp2
                  repeat (go_quiet (fail); try go_wp2)
                  go_ret
                  exact ⟨by first | rfl | (simp [errW_none, errW_some] <;> rfl) | (simp [*, errW_none, errW_some] <;> rfl), by repeat (first | (with_reducible first | exact HB.out | apply below_alloc | apply pw_below_drewN | apply below_drew1 | refine below_set ?_ GE157.out) | exact HB.out)⟩
                · replace c14 := Bool.eq_false_iff.mpr c14
                  subst c14
                  have H1 : (if 0 ≤ ((rd_T41 t149 x7_1).f3) then (if ((rd_T41 t149 x7_1).f3) < (a0.size : Int) then (if ((rd_T41 t149 x7_1).f0) = 1 then (cofferdamlaw10_LexPlaces.l1 kj6 a0 t149 x7_1 0 0 ((rd_T41 t149 x7_1).f0) ((rd_T41 t149 x7_1).f1) ((rd_T41 t149 x7_1).f2) ((rd_T41 t149 x7_1).f3)) else (if ((rd_T41 t149 x7_1).f0) = 2 then (if (bt a0 ((rd_T41 t149 x7_1).f3)) = 36 then (if (wrap64 (((rd_T41 t149 x7_1).f3) + (wrap64 (1 + (((rd_T41 t149 x7_1).f1).size : Int))))) > (a0.size : Int) then (some false) else (if 0 ≤ (wrap64 (((rd_T41 t149 x7_1).f3) + 1)) then (if (wrap64 (((rd_T41 t149 x7_1).f3) + 1)) ≤ (wrap64 (((rd_T41 t149 x7_1).f3) + (wrap64 (1 + (((rd_T41 t149 x7_1).f1).size : Int))))) then (if (wrap64 (((rd_T41 t149 x7_1).f3) + (wrap64 (1 + (((rd_T41 t149 x7_1).f1).size : Int))))) ≤ (a0.size : Int) then (if (a0.extract ((wrap64 (((rd_T41 t149 x7_1).f3) + 1)) : Int).toNat ((wrap64 (((rd_T41 t149 x7_1).f3) + (wrap64 (1 + (((rd_T41 t149 x7_1).f1).size : Int))))) : Int).toNat).toList = ((rd_T41 t149 x7_1).f1).toList then (cofferdamlaw10_LexPlaces.l0 kj6 a0 t149 (wrap64 (((rd_T41 t149 x7_1).f3) + (wrap64 (1 + (((rd_T41 t149 x7_1).f1).size : Int))))) (wrap64 (x7_1 + 1))) else (some false)) else (none)) else (none)) else (none))) else (some false)) else (if (((rd_T41 t149 x7_1).f1).size : Int) = 0 then (some false) else (if (wrap64 (((rd_T41 t149 x7_1).f3) + (((rd_T41 t149 x7_1).f1).size : Int))) > (a0.size : Int) then (some false) else (if ((rd_T41 t149 x7_1).f3) ≤ (wrap64 (((rd_T41 t149 x7_1).f3) + (((rd_T41 t149 x7_1).f1).size : Int))) then (if (wrap64 (((rd_T41 t149 x7_1).f3) + (((rd_T41 t149 x7_1).f1).size : Int))) ≤ (a0.size : Int) then (if (a0.extract (((rd_T41 t149 x7_1).f3) : Int).toNat ((wrap64 (((rd_T41 t149 x7_1).f3) + (((rd_T41 t149 x7_1).f1).size : Int))) : Int).toNat).toList = ((rd_T41 t149 x7_1).f1).toList then (cofferdamlaw10_LexPlaces.l0 kj6 a0 t149 (wrap64 (((rd_T41 t149 x7_1).f3) + (((rd_T41 t149 x7_1).f1).size : Int))) (wrap64 (x7_1 + 1))) else (some false)) else (none)) else (none)))))) else (none)) else (none)) = some r := by rw [if_neg (show ¬ (false = true) by decide)] at H; exact H
                  clear H
                  have H := H1
                  clear H1
                  by_cases c15 : 0 ≤ ((rd_T41 t149 x7_1).f3)
                  · rw [if_pos c15] at H
                    have c15b0 : decide (0 ≤ ((rd_T41 t149 x7_1).f3)) = true := decide_eq_true c15
                    clear c15
                    by_cases c16 : ((rd_T41 t149 x7_1).f3) < (a0.size : Int)
                    · rw [if_pos c16] at H
                      have c16b0 : decide (((rd_T41 t149 x7_1).f3) < (a0.size : Int)) = true := decide_eq_true c16
                      clear c16
                      by_cases c18 : ((rd_T41 t149 x7_1).f0) = 1
                      · rw [if_pos c18] at H
                        have c18b0 : (((rd_T41 t149 x7_1).f0) == 1) = true := beq_iff_eq.mpr c18
                        have c18b1 : (((rd_T41 t149 x7_1).f0) != 1) = false := bne_eq_false_iff_eq.mpr c18
                        clear c18
                        have H' := Aside0.mk H
                        clear H
                        have hcz19_0 : wc.cell? ⟨gb157, 0, none⟩ = some (.int .i64 ((rd_T41 t149 x7_1).f0)) := (blk_cell BK157.out 0).trans rfl
                        have hcz19_1 : wc.cell? ⟨gb157, 1, none⟩ = some (.string ((rd_T41 t149 x7_1).f1)) := (blk_cell BK157.out 1).trans rfl
                        have hcz19_2 : wc.cell? ⟨gb157, 2, none⟩ = some (.int .i64 ((rd_T41 t149 x7_1).f2)) := (blk_cell BK157.out 2).trans rfl
                        have hcz19_3 : wc.cell? ⟨gb157, 3, none⟩ = some (.int .i64 ((rd_T41 t149 x7_1).f3)) := (blk_cell BK157.out 3).trans rfl
                        have hfz19_0 := blk_frozen BK157.out 0
                        have hfz19_1 := blk_frozen BK157.out 1
                        have hfz19_2 := blk_frozen BK157.out 2
                        have hfz19_3 := blk_frozen BK157.out 3
                        have p17 : 0 ≤ (((rd_T41 t149 x7_1).f3) : Int) := of_decide_eq_true (by first | (with_reducible assumption) | assumption)
                        have q17 : ((rd_T41 t149 x7_1).f3) < (a0.size : Int) := of_decide_eq_true (by first | (with_reducible assumption) | assumption)
                        have hx17 := bt_at a0 ((rd_T41 t149 x7_1).f3)
                        replace p17 := eq_true p17
                        replace q17 := eq_true q17
                        go_wp2
                        repeat (go_quiet (fail); try go_wp2)
                        go_loopg [10, 11] kj6 (fun kq v10 v11 w' => ∃ (x10_3 : Int) (x11_3 : Int), v10 = .int .i64 x10_3 ∧ v11 = .int .i64 x11_3 ∧ Aside0 (cofferdamlaw10_LexPlaces.l1 kq a0 t149 x7_1 x10_3 x11_3 ((rd_T41 t149 x7_1).f0) ((rd_T41 t149 x7_1).f1) ((rd_T41 t149 x7_1).f2) ((rd_T41 t149 x7_1).f3) = some r) ∧ Aside0 (kq ≤ kj6) ∧ Aside0 (Kd.R k41 41 w' w.heap.size (fun k_ => k_ ≠ gb157) (.slice (some ad156) t149.length co8) t149) ∧ Aside0 (w'.heap[gb157]? = some (.cells #[.int .i64 ((rd_T41 t149 x7_1).f0), .string ((rd_T41 t149 x7_1).f1), .int .i64 ((rd_T41 t149 x7_1).f2), .int .i64 ((rd_T41 t149 x7_1).f3)] 41 (0, 0))) ∧ Aside0 (Below w.heap.size w w'))
                        case atStart => exact ⟨(0), (0), (by first | rfl | (simp; done) | (simp [*]; done)), (by first | rfl | (simp; done) | (simp [*]; done)), H', ⟨Nat.le_refl _⟩, ⟨by (with_reducible repeat (first | apply Kd.R_alloc | apply Kd.R_drewN | apply Kd.R_drew)); exact HO_3.out⟩, ⟨by (with_reducible repeat (first | refine blk_drewN ?_ _ | refine blk_drew ?_ | refine blk_alloc ?_ _)); exact BK157.out⟩, ⟨by repeat (first | (with_reducible first | exact HB.out | apply below_alloc | apply pw_below_drewN | apply below_drew1 | refine below_set ?_ GE157.out) | exact HB.out)⟩⟩
                        case round =>
                          clear H'
                          try clear c1
                          try clear p1
                          try clear q1
                          try clear hx1
                          try clear p2
                          try clear c3
                          try clear c3b0
                          try clear c3b1
                          try clear c5
                          try clear c5b0
                          try clear c6
                          try clear c6b0
                          try clear p6
                          try clear c9
                          try clear c11
                          try clear c11b0
                          try clear c14
                          try clear c15
                          try clear c15b0
                          try clear p15
                          try clear q15
                          try clear hx15
                          try clear c16
                          try clear c16b0
                          try clear p17
                          try clear q17
                          try clear hx17
                          try clear c18
                          try clear c18b0
                          try clear c18b1
                          try clear hcz10_0
                          try clear hcz10_1
                          try clear hcz10_2
                          try clear hcz10_3
                          try clear hcz12_0
                          try clear hcz12_1
                          try clear hcz12_2
                          try clear hcz12_3
                          try clear hcz13_0
                          try clear hcz13_1
                          try clear hcz13_2
                          try clear hcz13_3
                          try clear hcz19_0
                          try clear hcz19_1
                          try clear hcz19_2
                          try clear hcz19_3
                          try clear hfz10_0
                          try clear hfz10_1
                          try clear hfz10_2
                          try clear hfz10_3
                          try clear hfz12_0
                          try clear hfz12_1
                          try clear hfz12_2
                          try clear hfz12_3
                          try clear hfz13_0
                          try clear hfz13_1
                          try clear hfz13_2
                          try clear hfz13_3
                          try clear hfz19_0
                          try clear hfz19_1
                          try clear hfz19_2
                          try clear hfz19_3
                          try clear hx156_0
                          try clear hx156_1
                          try clear hx156_2
                          try clear hx156_3
                          try clear p1
                          try clear p156
                          try clear p17
                          try clear p2
                          try clear q1
                          try clear q156
                          try clear q17
                          obtain ⟨x10_3, x11_3, rfl, rfl, HA, HK3, HO_3, BK157, HB⟩ := hrel
                          cases gk with
                          | zero => exact absurd HA.out (by simp [cofferdamlaw10_LexPlaces.l1])
                          | succ k3 =>
                            have H := HA.out
                            clear HA
                            simp only [cofferdamlaw10_LexPlaces.l1] at H
                            by_cases c20 : (wrap64 (((rd_T41 t149 x7_1).f3) + x10_3)) < (a0.size : Int)
                            · rw [if_pos c20] at H
                              have c20b0 : decide ((wrap64 (((rd_T41 t149 x7_1).f3) + x10_3)) < (a0.size : Int)) = true := decide_eq_true c20
                              clear c20
                              obtain ⟨ji21, hji21⟩ : ∃ j_ : Int, (wrap64 (((rd_T41 t149 x7_1).f3) + x10_3)) = j_ := ⟨_, rfl⟩
                              replace H : (if 0 ≤ (ji21) then (if (bt a0 (ji21)) ≥ 48 then (if (bt a0 (ji21)) ≤ 57 then (if x10_3 < 9 then (cofferdamlaw10_LexPlaces.l1 k3 a0 t149 x7_1 (wrap64 (x10_3 + 1)) (wrap64 ((wrap64 (10 * x11_3)) + (((bt a0 (ji21)) - 48) % 256))) ((rd_T41 t149 x7_1).f0) ((rd_T41 t149 x7_1).f1) ((rd_T41 t149 x7_1).f2) ((rd_T41 t149 x7_1).f3)) else (if x10_3 = 0 then (some false) else (if x11_3 = ((rd_T41 t149 x7_1).f2) then (cofferdamlaw10_LexPlaces.l0 k3 a0 t149 ji21 (wrap64 (x7_1 + 1))) else (some false)))) else (if x10_3 = 0 then (some false) else (if x11_3 = ((rd_T41 t149 x7_1).f2) then (cofferdamlaw10_LexPlaces.l0 k3 a0 t149 ji21 (wrap64 (x7_1 + 1))) else (some false)))) else (if x10_3 = 0 then (some false) else (if x11_3 = ((rd_T41 t149 x7_1).f2) then (cofferdamlaw10_LexPlaces.l0 k3 a0 t149 ji21 (wrap64 (x7_1 + 1))) else (some false)))) else (none)) = some r := by first | (rw [hji21] at H; exact H) | (simp only [hji21] at H ⊢; exact H)
                              (try rw [hji21] at c20b0)
                              have hji21w : (IntKind.i64.wrap (((rd_T41 t149 x7_1).f3) + x10_3)) = ji21 := (i64_w _).trans hji21
                              by_cases c22 : 0 ≤ (ji21)
                              · rw [if_pos c22] at H
                                have c22b0 : decide (0 ≤ (ji21)) = true := decide_eq_true c22
                                clear c22
                                by_cases c24 : (bt a0 (ji21)) ≥ 48
                                · rw [if_pos c24] at H
                                  have c24b0 : decide (48 ≤ (bt a0 (ji21))) = true := decide_eq_true c24
                                  clear c24
                                  by_cases c26 : (bt a0 (ji21)) ≤ 57
                                  · rw [if_pos c26] at H
                                    have c26b0 : decide ((bt a0 (ji21)) ≤ 57) = true := decide_eq_true c26
                                    clear c26
                                    by_cases c27 : x10_3 < 9
                                    · rw [if_pos c27] at H
                                      have c27b0 : decide (x10_3 < 9) = true := decide_eq_true c27
                                      clear c27
                                      have H' := Aside0.mk H
                                      clear H
                                      have hcz29_0 : wr.cell? ⟨gb157, 0, none⟩ = some (.int .i64 ((rd_T41 t149 x7_1).f0)) := (blk_cell BK157.out 0).trans rfl
                                      have hcz29_1 : wr.cell? ⟨gb157, 1, none⟩ = some (.string ((rd_T41 t149 x7_1).f1)) := (blk_cell BK157.out 1).trans rfl
                                      have hcz29_2 : wr.cell? ⟨gb157, 2, none⟩ = some (.int .i64 ((rd_T41 t149 x7_1).f2)) := (blk_cell BK157.out 2).trans rfl
                                      have hcz29_3 : wr.cell? ⟨gb157, 3, none⟩ = some (.int .i64 ((rd_T41 t149 x7_1).f3)) := (blk_cell BK157.out 3).trans rfl
                                      have hfz29_0 := blk_frozen BK157.out 0
                                      have hfz29_1 := blk_frozen BK157.out 1
                                      have hfz29_2 := blk_frozen BK157.out 2
                                      have hfz29_3 := blk_frozen BK157.out 3
                                      have p23 : 0 ≤ ((ji21) : Int) := of_decide_eq_true (by first | (with_reducible assumption) | assumption)
                                      have q23 : (ji21) < (a0.size : Int) := of_decide_eq_true (by first | (with_reducible assumption) | assumption)
                                      have hx23 := bt_at a0 (ji21)
                                      replace p23 := eq_true p23
                                      replace q23 := eq_true q23
                                      have p25 : 0 ≤ ((ji21) : Int) := of_decide_eq_true (by first | (with_reducible assumption) | assumption)
                                      have q25 : (ji21) < (a0.size : Int) := of_decide_eq_true (by first | (with_reducible assumption) | assumption)
                                      have hx25 := bt_at a0 (ji21)
                                      replace p25 := eq_true p25
                                      replace q25 := eq_true q25
                                      have p28 : 0 ≤ ((ji21) : Int) := of_decide_eq_true (by first | (with_reducible assumption) | assumption)
                                      have q28 : (ji21) < (a0.size : Int) := of_decide_eq_true (by first | (with_reducible assumption) | assumption)
                                      have hx28 := bt_at a0 (ji21)
                                      replace p28 := eq_true p28
                                      replace q28 := eq_true q28
                                      go_wp2
                                      repeat (go_quiet (fail); try go_wp2)
                                      go_roundg k3
                                      case measure => have := HK1.out; have := HJ6.out; have := HK3.out; omega
                                      case rel => exact ⟨(wrap64 (x10_3 + 1)), (wrap64 ((wrap64 (10 * x11_3)) + (((bt a0 (ji21)) - 48) % 256))), (by first | rfl | (simp; done) | (simp [*]; done)), (by first | rfl | (simp; done) | (simp only [← hji21] <;> (first | rfl | simp)) | (simp [*]; done)), H', ⟨by have := HK1.out; have := HJ6.out; have := HK3.out; omega⟩, ⟨by (with_reducible repeat (first | apply Kd.R_alloc | apply Kd.R_drewN | apply Kd.R_drew)); exact HO_3.out⟩, ⟨by (with_reducible repeat (first | refine blk_drewN ?_ _ | refine blk_drew ?_ | refine blk_alloc ?_ _)); exact BK157.out⟩, ⟨by repeat (first | (with_reducible first | exact HB.out | apply below_alloc | apply pw_below_drewN | apply below_drew1 | refine below_set ?_ GE157.out) | exact HB.out)⟩⟩
                                    · rw [if_neg c27] at H
                                      have c27b0 : decide (x10_3 < 9) = false := decide_eq_false c27
                                      clear c27
                                      by_cases c30 : x10_3 = 0
                                      · rw [if_pos c30] at H
                                        have c30b0 : (x10_3 == 0) = true := beq_iff_eq.mpr c30
                                        have c30b1 : (x10_3 != 0) = false := bne_eq_false_iff_eq.mpr c30
                                        clear c30
                                        obtain rfl := Option.some.inj H
                                        have hcz31_0 : wr.cell? ⟨gb157, 0, none⟩ = some (.int .i64 ((rd_T41 t149 x7_1).f0)) := (blk_cell BK157.out 0).trans rfl
                                        have hcz31_1 : wr.cell? ⟨gb157, 1, none⟩ = some (.string ((rd_T41 t149 x7_1).f1)) := (blk_cell BK157.out 1).trans rfl
                                        have hcz31_2 : wr.cell? ⟨gb157, 2, none⟩ = some (.int .i64 ((rd_T41 t149 x7_1).f2)) := (blk_cell BK157.out 2).trans rfl
                                        have hcz31_3 : wr.cell? ⟨gb157, 3, none⟩ = some (.int .i64 ((rd_T41 t149 x7_1).f3)) := (blk_cell BK157.out 3).trans rfl
                                        have hfz31_0 := blk_frozen BK157.out 0
                                        have hfz31_1 := blk_frozen BK157.out 1
                                        have hfz31_2 := blk_frozen BK157.out 2
                                        have hfz31_3 := blk_frozen BK157.out 3
                                        have p23 : 0 ≤ ((ji21) : Int) := of_decide_eq_true (by first | (with_reducible assumption) | assumption)
                                        have q23 : (ji21) < (a0.size : Int) := of_decide_eq_true (by first | (with_reducible assumption) | assumption)
                                        have hx23 := bt_at a0 (ji21)
                                        replace p23 := eq_true p23
                                        replace q23 := eq_true q23
                                        have p25 : 0 ≤ ((ji21) : Int) := of_decide_eq_true (by first | (with_reducible assumption) | assumption)
                                        have q25 : (ji21) < (a0.size : Int) := of_decide_eq_true (by first | (with_reducible assumption) | assumption)
                                        have hx25 := bt_at a0 (ji21)
                                        replace p25 := eq_true p25
                                        replace q25 := eq_true q25
                                        go_wp2
                                        repeat (go_quiet (fail); try go_wp2)
                                        go_ret
                                        exact ⟨by first | rfl | (simp [errW_none, errW_some] <;> rfl) | (simp only [← hji21]; first | rfl | (simp [errW_none, errW_some] <;> rfl)) | (simp [*, errW_none, errW_some] <;> rfl), by repeat (first | (with_reducible first | exact HB.out | apply below_alloc | apply pw_below_drewN | apply below_drew1 | refine below_set ?_ GE157.out) | exact HB.out)⟩
                                      · rw [if_neg c30] at H
                                        have c30b0 : (x10_3 == 0) = false := beq_eq_false_iff_ne.mpr c30
                                        have c30b1 : (x10_3 != 0) = true := bne_iff_ne.mpr c30
                                        by_cases c32 : x11_3 = ((rd_T41 t149 x7_1).f2)
                                        · rw [if_pos c32] at H
                                          have c32b0 : (x11_3 == ((rd_T41 t149 x7_1).f2)) = true := beq_iff_eq.mpr c32
                                          have c32b1 : (x11_3 != ((rd_T41 t149 x7_1).f2)) = false := bne_eq_false_iff_eq.mpr c32
                                          clear c32
                                          have H' := Aside0.mk H
                                          clear H
                                          have hcz33_0 : wr.cell? ⟨gb157, 0, none⟩ = some (.int .i64 ((rd_T41 t149 x7_1).f0)) := (blk_cell BK157.out 0).trans rfl
                                          have hcz33_1 : wr.cell? ⟨gb157, 1, none⟩ = some (.string ((rd_T41 t149 x7_1).f1)) := (blk_cell BK157.out 1).trans rfl
                                          have hcz33_2 : wr.cell? ⟨gb157, 2, none⟩ = some (.int .i64 ((rd_T41 t149 x7_1).f2)) := (blk_cell BK157.out 2).trans rfl
                                          have hcz33_3 : wr.cell? ⟨gb157, 3, none⟩ = some (.int .i64 ((rd_T41 t149 x7_1).f3)) := (blk_cell BK157.out 3).trans rfl
                                          have hfz33_0 := blk_frozen BK157.out 0
                                          have hfz33_1 := blk_frozen BK157.out 1
                                          have hfz33_2 := blk_frozen BK157.out 2
                                          have hfz33_3 := blk_frozen BK157.out 3
                                          have p23 : 0 ≤ ((ji21) : Int) := of_decide_eq_true (by first | (with_reducible assumption) | assumption)
                                          have q23 : (ji21) < (a0.size : Int) := of_decide_eq_true (by first | (with_reducible assumption) | assumption)
                                          have hx23 := bt_at a0 (ji21)
                                          replace p23 := eq_true p23
                                          replace q23 := eq_true q23
                                          have p25 : 0 ≤ ((ji21) : Int) := of_decide_eq_true (by first | (with_reducible assumption) | assumption)
                                          have q25 : (ji21) < (a0.size : Int) := of_decide_eq_true (by first | (with_reducible assumption) | assumption)
                                          have hx25 := bt_at a0 (ji21)
                                          replace p25 := eq_true p25
                                          replace q25 := eq_true q25
                                          go_wp2
                                          repeat (go_quiet (fail); try go_wp2)
                                          go_roundg k3
                                          case measure => have := HK1.out; have := HJ6.out; have := HK3.out; omega
                                          case rel => exact ⟨(ji21), (wrap64 (x7_1 + 1)), (by first | rfl | (simp; done) | (simp only [← hji21] <;> (first | rfl | simp)) | (simp [*]; done)), (by first | rfl | (simp; done) | (simp [*]; done)), H', ⟨by have := HK1.out; have := HJ6.out; have := HK3.out; omega⟩, ⟨by (with_reducible repeat (first | apply Kd.R_alloc | apply Kd.R_drewN | apply Kd.R_drew)); exact Kd.R_mono HO_3.out (fun _ hk => trivial)⟩, ⟨by repeat (first | (with_reducible first | exact HB.out | apply below_alloc | apply pw_below_drewN | apply below_drew1 | refine below_set ?_ GE157.out) | exact HB.out)⟩⟩
                                        · rw [if_neg c32] at H
                                          have c32b0 : (x11_3 == ((rd_T41 t149 x7_1).f2)) = false := beq_eq_false_iff_ne.mpr c32
                                          have c32b1 : (x11_3 != ((rd_T41 t149 x7_1).f2)) = true := bne_iff_ne.mpr c32
                                          obtain rfl := Option.some.inj H
                                          have hcz34_0 : wr.cell? ⟨gb157, 0, none⟩ = some (.int .i64 ((rd_T41 t149 x7_1).f0)) := (blk_cell BK157.out 0).trans rfl
                                          have hcz34_1 : wr.cell? ⟨gb157, 1, none⟩ = some (.string ((rd_T41 t149 x7_1).f1)) := (blk_cell BK157.out 1).trans rfl
                                          have hcz34_2 : wr.cell? ⟨gb157, 2, none⟩ = some (.int .i64 ((rd_T41 t149 x7_1).f2)) := (blk_cell BK157.out 2).trans rfl
                                          have hcz34_3 : wr.cell? ⟨gb157, 3, none⟩ = some (.int .i64 ((rd_T41 t149 x7_1).f3)) := (blk_cell BK157.out 3).trans rfl
                                          have hfz34_0 := blk_frozen BK157.out 0
                                          have hfz34_1 := blk_frozen BK157.out 1
                                          have hfz34_2 := blk_frozen BK157.out 2
                                          have hfz34_3 := blk_frozen BK157.out 3
                                          have p23 : 0 ≤ ((ji21) : Int) := of_decide_eq_true (by first | (with_reducible assumption) | assumption)
                                          have q23 : (ji21) < (a0.size : Int) := of_decide_eq_true (by first | (with_reducible assumption) | assumption)
                                          have hx23 := bt_at a0 (ji21)
                                          replace p23 := eq_true p23
                                          replace q23 := eq_true q23
                                          have p25 : 0 ≤ ((ji21) : Int) := of_decide_eq_true (by first | (with_reducible assumption) | assumption)
                                          have q25 : (ji21) < (a0.size : Int) := of_decide_eq_true (by first | (with_reducible assumption) | assumption)
                                          have hx25 := bt_at a0 (ji21)
                                          replace p25 := eq_true p25
                                          replace q25 := eq_true q25
                                          go_wp2
                                          repeat (go_quiet (fail); try go_wp2)
                                          go_ret
                                          exact ⟨by first | rfl | (simp [errW_none, errW_some] <;> rfl) | (simp only [← hji21]; first | rfl | (simp [errW_none, errW_some] <;> rfl)) | (simp [*, errW_none, errW_some] <;> rfl), by repeat (first | (with_reducible first | exact HB.out | apply below_alloc | apply pw_below_drewN | apply below_drew1 | refine below_set ?_ GE157.out) | exact HB.out)⟩
                                  · rw [if_neg c26] at H
                                    have c26b0 : decide ((bt a0 (ji21)) ≤ 57) = false := decide_eq_false c26
                                    clear c26
                                    by_cases c35 : x10_3 = 0
                                    · rw [if_pos c35] at H
                                      have c35b0 : (x10_3 == 0) = true := beq_iff_eq.mpr c35
                                      have c35b1 : (x10_3 != 0) = false := bne_eq_false_iff_eq.mpr c35
                                      clear c35
                                      obtain rfl := Option.some.inj H
                                      have hcz36_0 : wr.cell? ⟨gb157, 0, none⟩ = some (.int .i64 ((rd_T41 t149 x7_1).f0)) := (blk_cell BK157.out 0).trans rfl
                                      have hcz36_1 : wr.cell? ⟨gb157, 1, none⟩ = some (.string ((rd_T41 t149 x7_1).f1)) := (blk_cell BK157.out 1).trans rfl
                                      have hcz36_2 : wr.cell? ⟨gb157, 2, none⟩ = some (.int .i64 ((rd_T41 t149 x7_1).f2)) := (blk_cell BK157.out 2).trans rfl
                                      have hcz36_3 : wr.cell? ⟨gb157, 3, none⟩ = some (.int .i64 ((rd_T41 t149 x7_1).f3)) := (blk_cell BK157.out 3).trans rfl
                                      have hfz36_0 := blk_frozen BK157.out 0
                                      have hfz36_1 := blk_frozen BK157.out 1
                                      have hfz36_2 := blk_frozen BK157.out 2
                                      have hfz36_3 := blk_frozen BK157.out 3
                                      have p23 : 0 ≤ ((ji21) : Int) := of_decide_eq_true (by first | (with_reducible assumption) | assumption)
                                      have q23 : (ji21) < (a0.size : Int) := of_decide_eq_true (by first | (with_reducible assumption) | assumption)
                                      have hx23 := bt_at a0 (ji21)
                                      replace p23 := eq_true p23
                                      replace q23 := eq_true q23
                                      have p25 : 0 ≤ ((ji21) : Int) := of_decide_eq_true (by first | (with_reducible assumption) | assumption)
                                      have q25 : (ji21) < (a0.size : Int) := of_decide_eq_true (by first | (with_reducible assumption) | assumption)
                                      have hx25 := bt_at a0 (ji21)
                                      replace p25 := eq_true p25
                                      replace q25 := eq_true q25
                                      go_wp2
                                      repeat (go_quiet (fail); try go_wp2)
                                      go_ret
                                      exact ⟨by first | rfl | (simp [errW_none, errW_some] <;> rfl) | (simp only [← hji21]; first | rfl | (simp [errW_none, errW_some] <;> rfl)) | (simp [*, errW_none, errW_some] <;> rfl), by repeat (first | (with_reducible first | exact HB.out | apply below_alloc | apply pw_below_drewN | apply below_drew1 | refine below_set ?_ GE157.out) | exact HB.out)⟩
                                    · rw [if_neg c35] at H
                                      have c35b0 : (x10_3 == 0) = false := beq_eq_false_iff_ne.mpr c35
                                      have c35b1 : (x10_3 != 0) = true := bne_iff_ne.mpr c35
                                      by_cases c37 : x11_3 = ((rd_T41 t149 x7_1).f2)
                                      · rw [if_pos c37] at H
                                        have c37b0 : (x11_3 == ((rd_T41 t149 x7_1).f2)) = true := beq_iff_eq.mpr c37
                                        have c37b1 : (x11_3 != ((rd_T41 t149 x7_1).f2)) = false := bne_eq_false_iff_eq.mpr c37
                                        clear c37
                                        have H' := Aside0.mk H
                                        clear H
                                        have hcz38_0 : wr.cell? ⟨gb157, 0, none⟩ = some (.int .i64 ((rd_T41 t149 x7_1).f0)) := (blk_cell BK157.out 0).trans rfl
                                        have hcz38_1 : wr.cell? ⟨gb157, 1, none⟩ = some (.string ((rd_T41 t149 x7_1).f1)) := (blk_cell BK157.out 1).trans rfl
                                        have hcz38_2 : wr.cell? ⟨gb157, 2, none⟩ = some (.int .i64 ((rd_T41 t149 x7_1).f2)) := (blk_cell BK157.out 2).trans rfl
                                        have hcz38_3 : wr.cell? ⟨gb157, 3, none⟩ = some (.int .i64 ((rd_T41 t149 x7_1).f3)) := (blk_cell BK157.out 3).trans rfl
                                        have hfz38_0 := blk_frozen BK157.out 0
                                        have hfz38_1 := blk_frozen BK157.out 1
                                        have hfz38_2 := blk_frozen BK157.out 2
                                        have hfz38_3 := blk_frozen BK157.out 3
                                        have p23 : 0 ≤ ((ji21) : Int) := of_decide_eq_true (by first | (with_reducible assumption) | assumption)
                                        have q23 : (ji21) < (a0.size : Int) := of_decide_eq_true (by first | (with_reducible assumption) | assumption)
                                        have hx23 := bt_at a0 (ji21)
                                        replace p23 := eq_true p23
                                        replace q23 := eq_true q23
                                        have p25 : 0 ≤ ((ji21) : Int) := of_decide_eq_true (by first | (with_reducible assumption) | assumption)
                                        have q25 : (ji21) < (a0.size : Int) := of_decide_eq_true (by first | (with_reducible assumption) | assumption)
                                        have hx25 := bt_at a0 (ji21)
                                        replace p25 := eq_true p25
                                        replace q25 := eq_true q25
                                        go_wp2
                                        repeat (go_quiet (fail); try go_wp2)
                                        go_roundg k3
                                        case measure => have := HK1.out; have := HJ6.out; have := HK3.out; omega
                                        case rel => exact ⟨(ji21), (wrap64 (x7_1 + 1)), (by first | rfl | (simp; done) | (simp only [← hji21] <;> (first | rfl | simp)) | (simp [*]; done)), (by first | rfl | (simp; done) | (simp [*]; done)), H', ⟨by have := HK1.out; have := HJ6.out; have := HK3.out; omega⟩, ⟨by (with_reducible repeat (first | apply Kd.R_alloc | apply Kd.R_drewN | apply Kd.R_drew)); exact Kd.R_mono HO_3.out (fun _ hk => trivial)⟩, ⟨by repeat (first | (with_reducible first | exact HB.out | apply below_alloc | apply pw_below_drewN | apply below_drew1 | refine below_set ?_ GE157.out) | exact HB.out)⟩⟩
                                      · rw [if_neg c37] at H
                                        have c37b0 : (x11_3 == ((rd_T41 t149 x7_1).f2)) = false := beq_eq_false_iff_ne.mpr c37
                                        have c37b1 : (x11_3 != ((rd_T41 t149 x7_1).f2)) = true := bne_iff_ne.mpr c37
                                        obtain rfl := Option.some.inj H
                                        have hcz39_0 : wr.cell? ⟨gb157, 0, none⟩ = some (.int .i64 ((rd_T41 t149 x7_1).f0)) := (blk_cell BK157.out 0).trans rfl
                                        have hcz39_1 : wr.cell? ⟨gb157, 1, none⟩ = some (.string ((rd_T41 t149 x7_1).f1)) := (blk_cell BK157.out 1).trans rfl
                                        have hcz39_2 : wr.cell? ⟨gb157, 2, none⟩ = some (.int .i64 ((rd_T41 t149 x7_1).f2)) := (blk_cell BK157.out 2).trans rfl
                                        have hcz39_3 : wr.cell? ⟨gb157, 3, none⟩ = some (.int .i64 ((rd_T41 t149 x7_1).f3)) := (blk_cell BK157.out 3).trans rfl
                                        have hfz39_0 := blk_frozen BK157.out 0
                                        have hfz39_1 := blk_frozen BK157.out 1
                                        have hfz39_2 := blk_frozen BK157.out 2
                                        have hfz39_3 := blk_frozen BK157.out 3
                                        have p23 : 0 ≤ ((ji21) : Int) := of_decide_eq_true (by first | (with_reducible assumption) | assumption)
                                        have q23 : (ji21) < (a0.size : Int) := of_decide_eq_true (by first | (with_reducible assumption) | assumption)
                                        have hx23 := bt_at a0 (ji21)
                                        replace p23 := eq_true p23
                                        replace q23 := eq_true q23
                                        have p25 : 0 ≤ ((ji21) : Int) := of_decide_eq_true (by first | (with_reducible assumption) | assumption)
                                        have q25 : (ji21) < (a0.size : Int) := of_decide_eq_true (by first | (with_reducible assumption) | assumption)
                                        have hx25 := bt_at a0 (ji21)
                                        replace p25 := eq_true p25
                                        replace q25 := eq_true q25
                                        go_wp2
                                        repeat (go_quiet (fail); try go_wp2)
                                        go_ret
                                        exact ⟨by first | rfl | (simp [errW_none, errW_some] <;> rfl) | (simp only [← hji21]; first | rfl | (simp [errW_none, errW_some] <;> rfl)) | (simp [*, errW_none, errW_some] <;> rfl), by repeat (first | (with_reducible first | exact HB.out | apply below_alloc | apply pw_below_drewN | apply below_drew1 | refine below_set ?_ GE157.out) | exact HB.out)⟩
                                · rw [if_neg c24] at H
                                  have c24b0 : decide (48 ≤ (bt a0 (ji21))) = false := decide_eq_false c24
                                  clear c24
                                  by_cases c40 : x10_3 = 0
                                  · rw [if_pos c40] at H
                                    have c40b0 : (x10_3 == 0) = true := beq_iff_eq.mpr c40
                                    have c40b1 : (x10_3 != 0) = false := bne_eq_false_iff_eq.mpr c40
                                    clear c40
                                    obtain rfl := Option.some.inj H
                                    have hcz41_0 : wr.cell? ⟨gb157, 0, none⟩ = some (.int .i64 ((rd_T41 t149 x7_1).f0)) := (blk_cell BK157.out 0).trans rfl
                                    have hcz41_1 : wr.cell? ⟨gb157, 1, none⟩ = some (.string ((rd_T41 t149 x7_1).f1)) := (blk_cell BK157.out 1).trans rfl
                                    have hcz41_2 : wr.cell? ⟨gb157, 2, none⟩ = some (.int .i64 ((rd_T41 t149 x7_1).f2)) := (blk_cell BK157.out 2).trans rfl
                                    have hcz41_3 : wr.cell? ⟨gb157, 3, none⟩ = some (.int .i64 ((rd_T41 t149 x7_1).f3)) := (blk_cell BK157.out 3).trans rfl
                                    have hfz41_0 := blk_frozen BK157.out 0
                                    have hfz41_1 := blk_frozen BK157.out 1
                                    have hfz41_2 := blk_frozen BK157.out 2
                                    have hfz41_3 := blk_frozen BK157.out 3
                                    have p23 : 0 ≤ ((ji21) : Int) := of_decide_eq_true (by first | (with_reducible assumption) | assumption)
                                    have q23 : (ji21) < (a0.size : Int) := of_decide_eq_true (by first | (with_reducible assumption) | assumption)
                                    have hx23 := bt_at a0 (ji21)
                                    replace p23 := eq_true p23
                                    replace q23 := eq_true q23
                                    go_wp2
                                    repeat (go_quiet (fail); try go_wp2)
                                    go_ret
                                    exact ⟨by first | rfl | (simp [errW_none, errW_some] <;> rfl) | (simp only [← hji21]; first | rfl | (simp [errW_none, errW_some] <;> rfl)) | (simp [*, errW_none, errW_some] <;> rfl), by repeat (first | (with_reducible first | exact HB.out | apply below_alloc | apply pw_below_drewN | apply below_drew1 | refine below_set ?_ GE157.out) | exact HB.out)⟩
                                  · rw [if_neg c40] at H
                                    have c40b0 : (x10_3 == 0) = false := beq_eq_false_iff_ne.mpr c40
                                    have c40b1 : (x10_3 != 0) = true := bne_iff_ne.mpr c40
                                    by_cases c42 : x11_3 = ((rd_T41 t149 x7_1).f2)
                                    · rw [if_pos c42] at H
                                      have c42b0 : (x11_3 == ((rd_T41 t149 x7_1).f2)) = true := beq_iff_eq.mpr c42
                                      have c42b1 : (x11_3 != ((rd_T41 t149 x7_1).f2)) = false := bne_eq_false_iff_eq.mpr c42
                                      clear c42
                                      have H' := Aside0.mk H
                                      clear H
                                      have hcz43_0 : wr.cell? ⟨gb157, 0, none⟩ = some (.int .i64 ((rd_T41 t149 x7_1).f0)) := (blk_cell BK157.out 0).trans rfl
                                      have hcz43_1 : wr.cell? ⟨gb157, 1, none⟩ = some (.string ((rd_T41 t149 x7_1).f1)) := (blk_cell BK157.out 1).trans rfl
                                      have hcz43_2 : wr.cell? ⟨gb157, 2, none⟩ = some (.int .i64 ((rd_T41 t149 x7_1).f2)) := (blk_cell BK157.out 2).trans rfl
                                      have hcz43_3 : wr.cell? ⟨gb157, 3, none⟩ = some (.int .i64 ((rd_T41 t149 x7_1).f3)) := (blk_cell BK157.out 3).trans rfl
                                      have hfz43_0 := blk_frozen BK157.out 0
                                      have hfz43_1 := blk_frozen BK157.out 1
                                      have hfz43_2 := blk_frozen BK157.out 2
                                      have hfz43_3 := blk_frozen BK157.out 3
                                      have p23 : 0 ≤ ((ji21) : Int) := of_decide_eq_true (by first | (with_reducible assumption) | assumption)
                                      have q23 : (ji21) < (a0.size : Int) := of_decide_eq_true (by first | (with_reducible assumption) | assumption)
                                      have hx23 := bt_at a0 (ji21)
                                      replace p23 := eq_true p23
                                      replace q23 := eq_true q23
                                      go_wp2
                                      repeat (go_quiet (fail); try go_wp2)
                                      go_roundg k3
                                      case measure => have := HK1.out; have := HJ6.out; have := HK3.out; omega
                                      case rel => exact ⟨(ji21), (wrap64 (x7_1 + 1)), (by first | rfl | (simp; done) | (simp only [← hji21] <;> (first | rfl | simp)) | (simp [*]; done)), (by first | rfl | (simp; done) | (simp [*]; done)), H', ⟨by have := HK1.out; have := HJ6.out; have := HK3.out; omega⟩, ⟨by (with_reducible repeat (first | apply Kd.R_alloc | apply Kd.R_drewN | apply Kd.R_drew)); exact Kd.R_mono HO_3.out (fun _ hk => trivial)⟩, ⟨by repeat (first | (with_reducible first | exact HB.out | apply below_alloc | apply pw_below_drewN | apply below_drew1 | refine below_set ?_ GE157.out) | exact HB.out)⟩⟩
                                    · rw [if_neg c42] at H
                                      have c42b0 : (x11_3 == ((rd_T41 t149 x7_1).f2)) = false := beq_eq_false_iff_ne.mpr c42
                                      have c42b1 : (x11_3 != ((rd_T41 t149 x7_1).f2)) = true := bne_iff_ne.mpr c42
                                      obtain rfl := Option.some.inj H
                                      have hcz44_0 : wr.cell? ⟨gb157, 0, none⟩ = some (.int .i64 ((rd_T41 t149 x7_1).f0)) := (blk_cell BK157.out 0).trans rfl
                                      have hcz44_1 : wr.cell? ⟨gb157, 1, none⟩ = some (.string ((rd_T41 t149 x7_1).f1)) := (blk_cell BK157.out 1).trans rfl
                                      have hcz44_2 : wr.cell? ⟨gb157, 2, none⟩ = some (.int .i64 ((rd_T41 t149 x7_1).f2)) := (blk_cell BK157.out 2).trans rfl
                                      have hcz44_3 : wr.cell? ⟨gb157, 3, none⟩ = some (.int .i64 ((rd_T41 t149 x7_1).f3)) := (blk_cell BK157.out 3).trans rfl
                                      have hfz44_0 := blk_frozen BK157.out 0
                                      have hfz44_1 := blk_frozen BK157.out 1
                                      have hfz44_2 := blk_frozen BK157.out 2
                                      have hfz44_3 := blk_frozen BK157.out 3
                                      have p23 : 0 ≤ ((ji21) : Int) := of_decide_eq_true (by first | (with_reducible assumption) | assumption)
                                      have q23 : (ji21) < (a0.size : Int) := of_decide_eq_true (by first | (with_reducible assumption) | assumption)
                                      have hx23 := bt_at a0 (ji21)
                                      replace p23 := eq_true p23
                                      replace q23 := eq_true q23
                                      go_wp2
                                      repeat (go_quiet (fail); try go_wp2)
                                      go_ret
                                      exact ⟨by first | rfl | (simp [errW_none, errW_some] <;> rfl) | (simp only [← hji21]; first | rfl | (simp [errW_none, errW_some] <;> rfl)) | (simp [*, errW_none, errW_some] <;> rfl), by repeat (first | (with_reducible first | exact HB.out | apply below_alloc | apply pw_below_drewN | apply below_drew1 | refine below_set ?_ GE157.out) | exact HB.out)⟩
                              · rw [if_neg c22] at H
                                exact absurd H (by simp)
                            · rw [if_neg c20] at H
                              have c20b0 : decide ((wrap64 (((rd_T41 t149 x7_1).f3) + x10_3)) < (a0.size : Int)) = false := decide_eq_false c20
                              clear c20
                              by_cases c45 : x10_3 = 0
                              · rw [if_pos c45] at H
                                have c45b0 : (x10_3 == 0) = true := beq_iff_eq.mpr c45
                                have c45b1 : (x10_3 != 0) = false := bne_eq_false_iff_eq.mpr c45
                                clear c45
                                obtain rfl := Option.some.inj H
                                have hcz46_0 : wr.cell? ⟨gb157, 0, none⟩ = some (.int .i64 ((rd_T41 t149 x7_1).f0)) := (blk_cell BK157.out 0).trans rfl
                                have hcz46_1 : wr.cell? ⟨gb157, 1, none⟩ = some (.string ((rd_T41 t149 x7_1).f1)) := (blk_cell BK157.out 1).trans rfl
                                have hcz46_2 : wr.cell? ⟨gb157, 2, none⟩ = some (.int .i64 ((rd_T41 t149 x7_1).f2)) := (blk_cell BK157.out 2).trans rfl
                                have hcz46_3 : wr.cell? ⟨gb157, 3, none⟩ = some (.int .i64 ((rd_T41 t149 x7_1).f3)) := (blk_cell BK157.out 3).trans rfl
                                have hfz46_0 := blk_frozen BK157.out 0
                                have hfz46_1 := blk_frozen BK157.out 1
                                have hfz46_2 := blk_frozen BK157.out 2
                                have hfz46_3 := blk_frozen BK157.out 3
                                go_wp2
                                repeat (go_quiet (fail); try go_wp2)
                                go_ret
                                exact ⟨by first | rfl | (simp [errW_none, errW_some] <;> rfl) | (simp [*, errW_none, errW_some] <;> rfl), by repeat (first | (with_reducible first | exact HB.out | apply below_alloc | apply pw_below_drewN | apply below_drew1 | refine below_set ?_ GE157.out) | exact HB.out)⟩
                              · rw [if_neg c45] at H
                                have c45b0 : (x10_3 == 0) = false := beq_eq_false_iff_ne.mpr c45
                                have c45b1 : (x10_3 != 0) = true := bne_iff_ne.mpr c45
                                by_cases c47 : x11_3 = ((rd_T41 t149 x7_1).f2)
                                · rw [if_pos c47] at H
                                  have c47b0 : (x11_3 == ((rd_T41 t149 x7_1).f2)) = true := beq_iff_eq.mpr c47
                                  have c47b1 : (x11_3 != ((rd_T41 t149 x7_1).f2)) = false := bne_eq_false_iff_eq.mpr c47
                                  clear c47
                                  have H' := Aside0.mk H
                                  clear H
                                  have hcz48_0 : wr.cell? ⟨gb157, 0, none⟩ = some (.int .i64 ((rd_T41 t149 x7_1).f0)) := (blk_cell BK157.out 0).trans rfl
                                  have hcz48_1 : wr.cell? ⟨gb157, 1, none⟩ = some (.string ((rd_T41 t149 x7_1).f1)) := (blk_cell BK157.out 1).trans rfl
                                  have hcz48_2 : wr.cell? ⟨gb157, 2, none⟩ = some (.int .i64 ((rd_T41 t149 x7_1).f2)) := (blk_cell BK157.out 2).trans rfl
                                  have hcz48_3 : wr.cell? ⟨gb157, 3, none⟩ = some (.int .i64 ((rd_T41 t149 x7_1).f3)) := (blk_cell BK157.out 3).trans rfl
                                  have hfz48_0 := blk_frozen BK157.out 0
                                  have hfz48_1 := blk_frozen BK157.out 1
                                  have hfz48_2 := blk_frozen BK157.out 2
                                  have hfz48_3 := blk_frozen BK157.out 3
                                  go_wp2
                                  repeat (go_quiet (fail); try go_wp2)
                                  go_roundg k3
                                  case measure => have := HK1.out; have := HJ6.out; have := HK3.out; omega
                                  case rel => exact ⟨(wrap64 (((rd_T41 t149 x7_1).f3) + x10_3)), (wrap64 (x7_1 + 1)), (by first | rfl | (simp; done) | (simp [*]; done)), (by first | rfl | (simp; done) | (simp [*]; done)), H', ⟨by have := HK1.out; have := HJ6.out; have := HK3.out; omega⟩, ⟨by (with_reducible repeat (first | apply Kd.R_alloc | apply Kd.R_drewN | apply Kd.R_drew)); exact Kd.R_mono HO_3.out (fun _ hk => trivial)⟩, ⟨by repeat (first | (with_reducible first | exact HB.out | apply below_alloc | apply pw_below_drewN | apply below_drew1 | refine below_set ?_ GE157.out) | exact HB.out)⟩⟩
                                · rw [if_neg c47] at H
                                  have c47b0 : (x11_3 == ((rd_T41 t149 x7_1).f2)) = false := beq_eq_false_iff_ne.mpr c47
                                  have c47b1 : (x11_3 != ((rd_T41 t149 x7_1).f2)) = true := bne_iff_ne.mpr c47
                                  obtain rfl := Option.some.inj H
                                  have hcz49_0 : wr.cell? ⟨gb157, 0, none⟩ = some (.int .i64 ((rd_T41 t149 x7_1).f0)) := (blk_cell BK157.out 0).trans rfl
                                  have hcz49_1 : wr.cell? ⟨gb157, 1, none⟩ = some (.string ((rd_T41 t149 x7_1).f1)) := (blk_cell BK157.out 1).trans rfl
                                  have hcz49_2 : wr.cell? ⟨gb157, 2, none⟩ = some (.int .i64 ((rd_T41 t149 x7_1).f2)) := (blk_cell BK157.out 2).trans rfl
                                  have hcz49_3 : wr.cell? ⟨gb157, 3, none⟩ = some (.int .i64 ((rd_T41 t149 x7_1).f3)) := (blk_cell BK157.out 3).trans rfl
                                  have hfz49_0 := blk_frozen BK157.out 0
                                  have hfz49_1 := blk_frozen BK157.out 1
                                  have hfz49_2 := blk_frozen BK157.out 2
                                  have hfz49_3 := blk_frozen BK157.out 3
                                  go_wp2
                                  repeat (go_quiet (fail); try go_wp2)
                                  go_ret
                                  exact ⟨by first | rfl | (simp [errW_none, errW_some] <;> rfl) | (simp [*, errW_none, errW_some] <;> rfl), by repeat (first | (with_reducible first | exact HB.out | apply below_alloc | apply pw_below_drewN | apply below_drew1 | refine below_set ?_ GE157.out) | exact HB.out)⟩
                      · rw [if_neg c18] at H
                        have c18b0 : (((rd_T41 t149 x7_1).f0) == 1) = false := beq_eq_false_iff_ne.mpr c18
                        have c18b1 : (((rd_T41 t149 x7_1).f0) != 1) = true := bne_iff_ne.mpr c18
                        by_cases c50 : ((rd_T41 t149 x7_1).f0) = 2
                        · rw [if_pos c50] at H
                          have c50b0 : (((rd_T41 t149 x7_1).f0) == 2) = true := beq_iff_eq.mpr c50
                          have c50b1 : (((rd_T41 t149 x7_1).f0) != 2) = false := bne_eq_false_iff_eq.mpr c50
                          clear c50
                          by_cases c51 : (bt a0 ((rd_T41 t149 x7_1).f3)) = 36
                          · rw [if_pos c51] at H
                            have c51b0 : ((bt a0 ((rd_T41 t149 x7_1).f3)) == 36) = true := beq_iff_eq.mpr c51
                            have c51b1 : ((bt a0 ((rd_T41 t149 x7_1).f3)) != 36) = false := bne_eq_false_iff_eq.mpr c51
                            clear c51
                            by_cases c52 : (wrap64 (((rd_T41 t149 x7_1).f3) + (wrap64 (1 + (((rd_T41 t149 x7_1).f1).size : Int))))) > (a0.size : Int)
                            · rw [if_pos c52] at H
                              have c52b0 : decide ((a0.size : Int) < (wrap64 (((rd_T41 t149 x7_1).f3) + (wrap64 (1 + (((rd_T41 t149 x7_1).f1).size : Int)))))) = true := decide_eq_true c52
                              clear c52
                              obtain rfl := Option.some.inj H
                              have hcz53_0 : wc.cell? ⟨gb157, 0, none⟩ = some (.int .i64 ((rd_T41 t149 x7_1).f0)) := (blk_cell BK157.out 0).trans rfl
                              have hcz53_1 : wc.cell? ⟨gb157, 1, none⟩ = some (.string ((rd_T41 t149 x7_1).f1)) := (blk_cell BK157.out 1).trans rfl
                              have hcz53_2 : wc.cell? ⟨gb157, 2, none⟩ = some (.int .i64 ((rd_T41 t149 x7_1).f2)) := (blk_cell BK157.out 2).trans rfl
                              have hcz53_3 : wc.cell? ⟨gb157, 3, none⟩ = some (.int .i64 ((rd_T41 t149 x7_1).f3)) := (blk_cell BK157.out 3).trans rfl
                              have hfz53_0 := blk_frozen BK157.out 0
                              have hfz53_1 := blk_frozen BK157.out 1
                              have hfz53_2 := blk_frozen BK157.out 2
                              have hfz53_3 := blk_frozen BK157.out 3
                              have p17 : 0 ≤ (((rd_T41 t149 x7_1).f3) : Int) := of_decide_eq_true (by first | (with_reducible assumption) | assumption)
                              have q17 : ((rd_T41 t149 x7_1).f3) < (a0.size : Int) := of_decide_eq_true (by first | (with_reducible assumption) | assumption)
                              have hx17 := bt_at a0 ((rd_T41 t149 x7_1).f3)
                              replace p17 := eq_true p17
                              replace q17 := eq_true q17
                              go_wp2
                              repeat (go_quiet (fail); try go_wp2)
                              go_ret
                              exact ⟨by first | rfl | (simp [errW_none, errW_some] <;> rfl) | (simp [*, errW_none, errW_some] <;> rfl), by repeat (first | (with_reducible first | exact HB.out | apply below_alloc | apply pw_below_drewN | apply below_drew1 | refine below_set ?_ GE157.out) | exact HB.out)⟩
                            · rw [if_neg c52] at H
                              have c52b0 : decide ((a0.size : Int) < (wrap64 (((rd_T41 t149 x7_1).f3) + (wrap64 (1 + (((rd_T41 t149 x7_1).f1).size : Int)))))) = false := decide_eq_false c52
                              clear c52
                              obtain ⟨ji54, hji54⟩ : ∃ j_ : Int, (wrap64 (((rd_T41 t149 x7_1).f3) + 1)) = j_ := ⟨_, rfl⟩
                              replace H : (if 0 ≤ (ji54) then (if (ji54) ≤ (wrap64 (((rd_T41 t149 x7_1).f3) + (wrap64 (1 + (((rd_T41 t149 x7_1).f1).size : Int))))) then (if (wrap64 (((rd_T41 t149 x7_1).f3) + (wrap64 (1 + (((rd_T41 t149 x7_1).f1).size : Int))))) ≤ (a0.size : Int) then (if (a0.extract ((ji54) : Int).toNat ((wrap64 (((rd_T41 t149 x7_1).f3) + (wrap64 (1 + (((rd_T41 t149 x7_1).f1).size : Int))))) : Int).toNat).toList = ((rd_T41 t149 x7_1).f1).toList then (cofferdamlaw10_LexPlaces.l0 kj6 a0 t149 (wrap64 (((rd_T41 t149 x7_1).f3) + (wrap64 (1 + (((rd_T41 t149 x7_1).f1).size : Int))))) (wrap64 (x7_1 + 1))) else (some false)) else (none)) else (none)) else (none)) = some r := by first | (rw [hji54] at H; exact H) | (simp only [hji54] at H ⊢; exact H)
                              have hji54w : (IntKind.i64.wrap (((rd_T41 t149 x7_1).f3) + 1)) = ji54 := (i64_w _).trans hji54
                              by_cases c55 : 0 ≤ (ji54)
                              · rw [if_pos c55] at H
                                have c55b0 := eq_true c55
                                have c55b1 : decide (0 ≤ (ji54)) = true := decide_eq_true c55
                                clear c55
                                by_cases c56 : (ji54) ≤ (wrap64 (((rd_T41 t149 x7_1).f3) + (wrap64 (1 + (((rd_T41 t149 x7_1).f1).size : Int)))))
                                · rw [if_pos c56] at H
                                  have c56b0 := eq_true c56
                                  have c56b1 : decide ((ji54) ≤ (wrap64 (((rd_T41 t149 x7_1).f3) + (wrap64 (1 + (((rd_T41 t149 x7_1).f1).size : Int)))))) = true := decide_eq_true c56
                                  by_cases c57 : (wrap64 (((rd_T41 t149 x7_1).f3) + (wrap64 (1 + (((rd_T41 t149 x7_1).f1).size : Int))))) ≤ (a0.size : Int)
                                  · rw [if_pos c57] at H
                                    have c57b0 := eq_true c57
                                    have c57b1 : decide ((wrap64 (((rd_T41 t149 x7_1).f3) + (wrap64 (1 + (((rd_T41 t149 x7_1).f1).size : Int))))) ≤ (a0.size : Int)) = true := decide_eq_true c57
                                    by_cases c58 : (a0.extract ((ji54) : Int).toNat ((wrap64 (((rd_T41 t149 x7_1).f3) + (wrap64 (1 + (((rd_T41 t149 x7_1).f1).size : Int))))) : Int).toNat).toList = ((rd_T41 t149 x7_1).f1).toList
                                    · rw [if_pos c58] at H
                                      have c58b0 : ((a0.extract ((ji54) : Int).toNat ((wrap64 (((rd_T41 t149 x7_1).f3) + (wrap64 (1 + (((rd_T41 t149 x7_1).f1).size : Int))))) : Int).toNat).toList == ((rd_T41 t149 x7_1).f1).toList) = true := beq_iff_eq.mpr c58
                                      have c58b1 : ((a0.extract ((ji54) : Int).toNat ((wrap64 (((rd_T41 t149 x7_1).f3) + (wrap64 (1 + (((rd_T41 t149 x7_1).f1).size : Int))))) : Int).toNat).toList != ((rd_T41 t149 x7_1).f1).toList) = false := bne_eq_false_iff_eq.mpr c58
                                      clear c58
                                      have H' := Aside0.mk H
                                      clear H
                                      have hcz59_0 : wc.cell? ⟨gb157, 0, none⟩ = some (.int .i64 ((rd_T41 t149 x7_1).f0)) := (blk_cell BK157.out 0).trans rfl
                                      have hcz59_1 : wc.cell? ⟨gb157, 1, none⟩ = some (.string ((rd_T41 t149 x7_1).f1)) := (blk_cell BK157.out 1).trans rfl
                                      have hcz59_2 : wc.cell? ⟨gb157, 2, none⟩ = some (.int .i64 ((rd_T41 t149 x7_1).f2)) := (blk_cell BK157.out 2).trans rfl
                                      have hcz59_3 : wc.cell? ⟨gb157, 3, none⟩ = some (.int .i64 ((rd_T41 t149 x7_1).f3)) := (blk_cell BK157.out 3).trans rfl
                                      have hfz59_0 := blk_frozen BK157.out 0
                                      have hfz59_1 := blk_frozen BK157.out 1
                                      have hfz59_2 := blk_frozen BK157.out 2
                                      have hfz59_3 := blk_frozen BK157.out 3
                                      have p17 : 0 ≤ (((rd_T41 t149 x7_1).f3) : Int) := of_decide_eq_true (by first | (with_reducible assumption) | assumption)
                                      have q17 : ((rd_T41 t149 x7_1).f3) < (a0.size : Int) := of_decide_eq_true (by first | (with_reducible assumption) | assumption)
                                      have hx17 := bt_at a0 ((rd_T41 t149 x7_1).f3)
                                      replace p17 := eq_true p17
                                      replace q17 := eq_true q17
                                      go_wp2
                                      repeat (go_quiet (fail); try go_wp2)
                                      go_roundg kj6
                                      case measure => have := HK1.out; have := HJ6.out; omega
                                      case rel => exact ⟨(wrap64 (((rd_T41 t149 x7_1).f3) + (wrap64 (1 + (((rd_T41 t149 x7_1).f1).size : Int))))), (wrap64 (x7_1 + 1)), (by first | rfl | (simp; done) | (simp [*]; done)), (by first | rfl | (simp; done) | (simp [*]; done)), H', ⟨by have := HK1.out; have := HJ6.out; omega⟩, ⟨by (with_reducible repeat (first | apply Kd.R_alloc | apply Kd.R_drewN | apply Kd.R_drew)); exact Kd.R_mono HO_3.out (fun _ hk => trivial)⟩, ⟨by repeat (first | (with_reducible first | exact HB.out | apply below_alloc | apply pw_below_drewN | apply below_drew1 | refine below_set ?_ GE157.out) | exact HB.out)⟩⟩
                                    · rw [if_neg c58] at H
                                      have c58b0 : ((a0.extract ((ji54) : Int).toNat ((wrap64 (((rd_T41 t149 x7_1).f3) + (wrap64 (1 + (((rd_T41 t149 x7_1).f1).size : Int))))) : Int).toNat).toList == ((rd_T41 t149 x7_1).f1).toList) = false := beq_eq_false_iff_ne.mpr c58
                                      have c58b1 : ((a0.extract ((ji54) : Int).toNat ((wrap64 (((rd_T41 t149 x7_1).f3) + (wrap64 (1 + (((rd_T41 t149 x7_1).f1).size : Int))))) : Int).toNat).toList != ((rd_T41 t149 x7_1).f1).toList) = true := bne_iff_ne.mpr c58
                                      obtain rfl := Option.some.inj H
                                      have hcz60_0 : wc.cell? ⟨gb157, 0, none⟩ = some (.int .i64 ((rd_T41 t149 x7_1).f0)) := (blk_cell BK157.out 0).trans rfl
                                      have hcz60_1 : wc.cell? ⟨gb157, 1, none⟩ = some (.string ((rd_T41 t149 x7_1).f1)) := (blk_cell BK157.out 1).trans rfl
                                      have hcz60_2 : wc.cell? ⟨gb157, 2, none⟩ = some (.int .i64 ((rd_T41 t149 x7_1).f2)) := (blk_cell BK157.out 2).trans rfl
                                      have hcz60_3 : wc.cell? ⟨gb157, 3, none⟩ = some (.int .i64 ((rd_T41 t149 x7_1).f3)) := (blk_cell BK157.out 3).trans rfl
                                      have hfz60_0 := blk_frozen BK157.out 0
                                      have hfz60_1 := blk_frozen BK157.out 1
                                      have hfz60_2 := blk_frozen BK157.out 2
                                      have hfz60_3 := blk_frozen BK157.out 3
                                      have p17 : 0 ≤ (((rd_T41 t149 x7_1).f3) : Int) := of_decide_eq_true (by first | (with_reducible assumption) | assumption)
                                      have q17 : ((rd_T41 t149 x7_1).f3) < (a0.size : Int) := of_decide_eq_true (by first | (with_reducible assumption) | assumption)
                                      have hx17 := bt_at a0 ((rd_T41 t149 x7_1).f3)
                                      replace p17 := eq_true p17
                                      replace q17 := eq_true q17
                                      go_wp2
                                      repeat (go_quiet (fail); try go_wp2)
                                      go_ret
                                      exact ⟨by first | rfl | (simp [errW_none, errW_some] <;> rfl) | (simp only [← hji54]; first | rfl | (simp [errW_none, errW_some] <;> rfl)) | (simp [*, errW_none, errW_some] <;> rfl), by repeat (first | (with_reducible first | exact HB.out | apply below_alloc | apply pw_below_drewN | apply below_drew1 | refine below_set ?_ GE157.out) | exact HB.out)⟩
                                  · rw [if_neg c57] at H
                                    exact absurd H (by simp)
                                · rw [if_neg c56] at H
                                  exact absurd H (by simp)
                              · rw [if_neg c55] at H
                                exact absurd H (by simp)
                          · rw [if_neg c51] at H
                            have c51b0 : ((bt a0 ((rd_T41 t149 x7_1).f3)) == 36) = false := beq_eq_false_iff_ne.mpr c51
                            have c51b1 : ((bt a0 ((rd_T41 t149 x7_1).f3)) != 36) = true := bne_iff_ne.mpr c51
                            obtain rfl := Option.some.inj H
                            have hcz61_0 : wc.cell? ⟨gb157, 0, none⟩ = some (.int .i64 ((rd_T41 t149 x7_1).f0)) := (blk_cell BK157.out 0).trans rfl
                            have hcz61_1 : wc.cell? ⟨gb157, 1, none⟩ = some (.string ((rd_T41 t149 x7_1).f1)) := (blk_cell BK157.out 1).trans rfl
                            have hcz61_2 : wc.cell? ⟨gb157, 2, none⟩ = some (.int .i64 ((rd_T41 t149 x7_1).f2)) := (blk_cell BK157.out 2).trans rfl
                            have hcz61_3 : wc.cell? ⟨gb157, 3, none⟩ = some (.int .i64 ((rd_T41 t149 x7_1).f3)) := (blk_cell BK157.out 3).trans rfl
                            have hfz61_0 := blk_frozen BK157.out 0
                            have hfz61_1 := blk_frozen BK157.out 1
                            have hfz61_2 := blk_frozen BK157.out 2
                            have hfz61_3 := blk_frozen BK157.out 3
                            have p17 : 0 ≤ (((rd_T41 t149 x7_1).f3) : Int) := of_decide_eq_true (by first | (with_reducible assumption) | assumption)
                            have q17 : ((rd_T41 t149 x7_1).f3) < (a0.size : Int) := of_decide_eq_true (by first | (with_reducible assumption) | assumption)
                            have hx17 := bt_at a0 ((rd_T41 t149 x7_1).f3)
                            replace p17 := eq_true p17
                            replace q17 := eq_true q17
                            go_wp2
                            repeat (go_quiet (fail); try go_wp2)
                            go_ret
                            exact ⟨by first | rfl | (simp [errW_none, errW_some] <;> rfl) | (simp [*, errW_none, errW_some] <;> rfl), by repeat (first | (with_reducible first | exact HB.out | apply below_alloc | apply pw_below_drewN | apply below_drew1 | refine below_set ?_ GE157.out) | exact HB.out)⟩
                        · rw [if_neg c50] at H
                          have c50b0 : (((rd_T41 t149 x7_1).f0) == 2) = false := beq_eq_false_iff_ne.mpr c50
                          have c50b1 : (((rd_T41 t149 x7_1).f0) != 2) = true := bne_iff_ne.mpr c50
                          by_cases c62 : (((rd_T41 t149 x7_1).f1).size : Int) = 0
                          · rw [if_pos c62] at H
                            have c62b0 : ((((rd_T41 t149 x7_1).f1).size : Int) == 0) = true := beq_iff_eq.mpr c62
                            have c62b1 : ((((rd_T41 t149 x7_1).f1).size : Int) != 0) = false := bne_eq_false_iff_eq.mpr c62
                            clear c62
                            obtain rfl := Option.some.inj H
                            have hcz63_0 : wc.cell? ⟨gb157, 0, none⟩ = some (.int .i64 ((rd_T41 t149 x7_1).f0)) := (blk_cell BK157.out 0).trans rfl
                            have hcz63_1 : wc.cell? ⟨gb157, 1, none⟩ = some (.string ((rd_T41 t149 x7_1).f1)) := (blk_cell BK157.out 1).trans rfl
                            have hcz63_2 : wc.cell? ⟨gb157, 2, none⟩ = some (.int .i64 ((rd_T41 t149 x7_1).f2)) := (blk_cell BK157.out 2).trans rfl
                            have hcz63_3 : wc.cell? ⟨gb157, 3, none⟩ = some (.int .i64 ((rd_T41 t149 x7_1).f3)) := (blk_cell BK157.out 3).trans rfl
                            have hfz63_0 := blk_frozen BK157.out 0
                            have hfz63_1 := blk_frozen BK157.out 1
                            have hfz63_2 := blk_frozen BK157.out 2
                            have hfz63_3 := blk_frozen BK157.out 3
                            have p17 : 0 ≤ (((rd_T41 t149 x7_1).f3) : Int) := of_decide_eq_true (by first | (with_reducible assumption) | assumption)
                            have q17 : ((rd_T41 t149 x7_1).f3) < (a0.size : Int) := of_decide_eq_true (by first | (with_reducible assumption) | assumption)
                            have hx17 := bt_at a0 ((rd_T41 t149 x7_1).f3)
                            replace p17 := eq_true p17
                            replace q17 := eq_true q17
                            go_wp2
                            repeat (go_quiet (fail); try go_wp2)
                            go_ret
                            exact ⟨by first | rfl | (simp [errW_none, errW_some] <;> rfl) | (simp [*, errW_none, errW_some] <;> rfl), by repeat (first | (with_reducible first | exact HB.out | apply below_alloc | apply pw_below_drewN | apply below_drew1 | refine below_set ?_ GE157.out) | exact HB.out)⟩
                          · rw [if_neg c62] at H
                            have c62b0 : ((((rd_T41 t149 x7_1).f1).size : Int) == 0) = false := beq_eq_false_iff_ne.mpr c62
                            have c62b1 : ((((rd_T41 t149 x7_1).f1).size : Int) != 0) = true := bne_iff_ne.mpr c62
                            by_cases c64 : (wrap64 (((rd_T41 t149 x7_1).f3) + (((rd_T41 t149 x7_1).f1).size : Int))) > (a0.size : Int)
                            · rw [if_pos c64] at H
                              have c64b0 : decide ((a0.size : Int) < (wrap64 (((rd_T41 t149 x7_1).f3) + (((rd_T41 t149 x7_1).f1).size : Int)))) = true := decide_eq_true c64
                              clear c64
                              obtain rfl := Option.some.inj H
                              have hcz65_0 : wc.cell? ⟨gb157, 0, none⟩ = some (.int .i64 ((rd_T41 t149 x7_1).f0)) := (blk_cell BK157.out 0).trans rfl
                              have hcz65_1 : wc.cell? ⟨gb157, 1, none⟩ = some (.string ((rd_T41 t149 x7_1).f1)) := (blk_cell BK157.out 1).trans rfl
                              have hcz65_2 : wc.cell? ⟨gb157, 2, none⟩ = some (.int .i64 ((rd_T41 t149 x7_1).f2)) := (blk_cell BK157.out 2).trans rfl
                              have hcz65_3 : wc.cell? ⟨gb157, 3, none⟩ = some (.int .i64 ((rd_T41 t149 x7_1).f3)) := (blk_cell BK157.out 3).trans rfl
                              have hfz65_0 := blk_frozen BK157.out 0
                              have hfz65_1 := blk_frozen BK157.out 1
                              have hfz65_2 := blk_frozen BK157.out 2
                              have hfz65_3 := blk_frozen BK157.out 3
                              have p17 : 0 ≤ (((rd_T41 t149 x7_1).f3) : Int) := of_decide_eq_true (by first | (with_reducible assumption) | assumption)
                              have q17 : ((rd_T41 t149 x7_1).f3) < (a0.size : Int) := of_decide_eq_true (by first | (with_reducible assumption) | assumption)
                              have hx17 := bt_at a0 ((rd_T41 t149 x7_1).f3)
                              replace p17 := eq_true p17
                              replace q17 := eq_true q17
                              go_wp2
                              repeat (go_quiet (fail); try go_wp2)
                              go_ret
                              exact ⟨by first | rfl | (simp [errW_none, errW_some] <;> rfl) | (simp [*, errW_none, errW_some] <;> rfl), by repeat (first | (with_reducible first | exact HB.out | apply below_alloc | apply pw_below_drewN | apply below_drew1 | refine below_set ?_ GE157.out) | exact HB.out)⟩
                            · rw [if_neg c64] at H
                              have c64b0 : decide ((a0.size : Int) < (wrap64 (((rd_T41 t149 x7_1).f3) + (((rd_T41 t149 x7_1).f1).size : Int)))) = false := decide_eq_false c64
                              clear c64
                              have c66b0 := eq_true (of_decide_eq_true (by first | (with_reducible assumption) | assumption) : 0 ≤ ((rd_T41 t149 x7_1).f3))
                              by_cases c67 : ((rd_T41 t149 x7_1).f3) ≤ (wrap64 (((rd_T41 t149 x7_1).f3) + (((rd_T41 t149 x7_1).f1).size : Int)))
                              · rw [if_pos c67] at H
                                have c67b0 := eq_true c67
                                have c67b1 : decide (((rd_T41 t149 x7_1).f3) ≤ (wrap64 (((rd_T41 t149 x7_1).f3) + (((rd_T41 t149 x7_1).f1).size : Int)))) = true := decide_eq_true c67
                                by_cases c68 : (wrap64 (((rd_T41 t149 x7_1).f3) + (((rd_T41 t149 x7_1).f1).size : Int))) ≤ (a0.size : Int)
                                · rw [if_pos c68] at H
                                  have c68b0 := eq_true c68
                                  have c68b1 : decide ((wrap64 (((rd_T41 t149 x7_1).f3) + (((rd_T41 t149 x7_1).f1).size : Int))) ≤ (a0.size : Int)) = true := decide_eq_true c68
                                  by_cases c69 : (a0.extract (((rd_T41 t149 x7_1).f3) : Int).toNat ((wrap64 (((rd_T41 t149 x7_1).f3) + (((rd_T41 t149 x7_1).f1).size : Int))) : Int).toNat).toList = ((rd_T41 t149 x7_1).f1).toList
                                  · rw [if_pos c69] at H
                                    have c69b0 : ((a0.extract (((rd_T41 t149 x7_1).f3) : Int).toNat ((wrap64 (((rd_T41 t149 x7_1).f3) + (((rd_T41 t149 x7_1).f1).size : Int))) : Int).toNat).toList == ((rd_T41 t149 x7_1).f1).toList) = true := beq_iff_eq.mpr c69
                                    have c69b1 : ((a0.extract (((rd_T41 t149 x7_1).f3) : Int).toNat ((wrap64 (((rd_T41 t149 x7_1).f3) + (((rd_T41 t149 x7_1).f1).size : Int))) : Int).toNat).toList != ((rd_T41 t149 x7_1).f1).toList) = false := bne_eq_false_iff_eq.mpr c69
                                    clear c69
                                    have H' := Aside0.mk H
                                    clear H
                                    have hcz70_0 : wc.cell? ⟨gb157, 0, none⟩ = some (.int .i64 ((rd_T41 t149 x7_1).f0)) := (blk_cell BK157.out 0).trans rfl
                                    have hcz70_1 : wc.cell? ⟨gb157, 1, none⟩ = some (.string ((rd_T41 t149 x7_1).f1)) := (blk_cell BK157.out 1).trans rfl
                                    have hcz70_2 : wc.cell? ⟨gb157, 2, none⟩ = some (.int .i64 ((rd_T41 t149 x7_1).f2)) := (blk_cell BK157.out 2).trans rfl
                                    have hcz70_3 : wc.cell? ⟨gb157, 3, none⟩ = some (.int .i64 ((rd_T41 t149 x7_1).f3)) := (blk_cell BK157.out 3).trans rfl
                                    have hfz70_0 := blk_frozen BK157.out 0
                                    have hfz70_1 := blk_frozen BK157.out 1
                                    have hfz70_2 := blk_frozen BK157.out 2
                                    have hfz70_3 := blk_frozen BK157.out 3
                                    have p17 : 0 ≤ (((rd_T41 t149 x7_1).f3) : Int) := of_decide_eq_true (by first | (with_reducible assumption) | assumption)
                                    have q17 : ((rd_T41 t149 x7_1).f3) < (a0.size : Int) := of_decide_eq_true (by first | (with_reducible assumption) | assumption)
                                    have hx17 := bt_at a0 ((rd_T41 t149 x7_1).f3)
                                    replace p17 := eq_true p17
                                    replace q17 := eq_true q17
                                    go_wp2
                                    repeat (go_quiet (fail); try go_wp2)
                                    go_roundg kj6
                                    case measure => have := HK1.out; have := HJ6.out; omega
                                    case rel => exact ⟨(wrap64 (((rd_T41 t149 x7_1).f3) + (((rd_T41 t149 x7_1).f1).size : Int))), (wrap64 (x7_1 + 1)), (by first | rfl | (simp; done) | (simp [*]; done)), (by first | rfl | (simp; done) | (simp [*]; done)), H', ⟨by have := HK1.out; have := HJ6.out; omega⟩, ⟨by (with_reducible repeat (first | apply Kd.R_alloc | apply Kd.R_drewN | apply Kd.R_drew)); exact Kd.R_mono HO_3.out (fun _ hk => trivial)⟩, ⟨by repeat (first | (with_reducible first | exact HB.out | apply below_alloc | apply pw_below_drewN | apply below_drew1 | refine below_set ?_ GE157.out) | exact HB.out)⟩⟩
                                  · rw [if_neg c69] at H
                                    have c69b0 : ((a0.extract (((rd_T41 t149 x7_1).f3) : Int).toNat ((wrap64 (((rd_T41 t149 x7_1).f3) + (((rd_T41 t149 x7_1).f1).size : Int))) : Int).toNat).toList == ((rd_T41 t149 x7_1).f1).toList) = false := beq_eq_false_iff_ne.mpr c69
                                    have c69b1 : ((a0.extract (((rd_T41 t149 x7_1).f3) : Int).toNat ((wrap64 (((rd_T41 t149 x7_1).f3) + (((rd_T41 t149 x7_1).f1).size : Int))) : Int).toNat).toList != ((rd_T41 t149 x7_1).f1).toList) = true := bne_iff_ne.mpr c69
                                    obtain rfl := Option.some.inj H
                                    have hcz71_0 : wc.cell? ⟨gb157, 0, none⟩ = some (.int .i64 ((rd_T41 t149 x7_1).f0)) := (blk_cell BK157.out 0).trans rfl
                                    have hcz71_1 : wc.cell? ⟨gb157, 1, none⟩ = some (.string ((rd_T41 t149 x7_1).f1)) := (blk_cell BK157.out 1).trans rfl
                                    have hcz71_2 : wc.cell? ⟨gb157, 2, none⟩ = some (.int .i64 ((rd_T41 t149 x7_1).f2)) := (blk_cell BK157.out 2).trans rfl
                                    have hcz71_3 : wc.cell? ⟨gb157, 3, none⟩ = some (.int .i64 ((rd_T41 t149 x7_1).f3)) := (blk_cell BK157.out 3).trans rfl
                                    have hfz71_0 := blk_frozen BK157.out 0
                                    have hfz71_1 := blk_frozen BK157.out 1
                                    have hfz71_2 := blk_frozen BK157.out 2
                                    have hfz71_3 := blk_frozen BK157.out 3
                                    have p17 : 0 ≤ (((rd_T41 t149 x7_1).f3) : Int) := of_decide_eq_true (by first | (with_reducible assumption) | assumption)
                                    have q17 : ((rd_T41 t149 x7_1).f3) < (a0.size : Int) := of_decide_eq_true (by first | (with_reducible assumption) | assumption)
                                    have hx17 := bt_at a0 ((rd_T41 t149 x7_1).f3)
                                    replace p17 := eq_true p17
                                    replace q17 := eq_true q17
                                    go_wp2
                                    repeat (go_quiet (fail); try go_wp2)
                                    go_ret
                                    exact ⟨by first | rfl | (simp [errW_none, errW_some] <;> rfl) | (simp [*, errW_none, errW_some] <;> rfl), by repeat (first | (with_reducible first | exact HB.out | apply below_alloc | apply pw_below_drewN | apply below_drew1 | refine below_set ?_ GE157.out) | exact HB.out)⟩
                                · rw [if_neg c68] at H
                                  exact absurd H (by simp)
                              · rw [if_neg c67] at H
                                exact absurd H (by simp)
                    · rw [if_neg c16] at H
                      exact absurd H (by simp)
                  · rw [if_neg c15] at H
                    exact absurd H (by simp)
          · rw [if_neg c6] at H
            exact absurd H (by simp)
        · rw [if_neg c5] at H
          have c5b0 : decide (x7_1 < (t149.length : Int)) = false := decide_eq_false c5
          clear c5
          replace H := Option.bind_eq_some_iff.mp H
          obtain ⟨t155, A720, H⟩ := H
          replace H : (some t155) = some r := H
          have A72 := Aside0.mk A720
          clear A720
          obtain rfl := Option.some.inj H
          obtain ⟨Ao73, co73, eo73⟩ := Kd.R_slice HO_3.out
          subst eo73
          go_wp2_with (first | (go_at_call 24; (with_reducible refine (cofferdamlaw10_alive.calls k1  t155 _ A72.out).mono ?_); rintro e w74 ⟨rfl, hb⟩; have n0_ := Aside0.mk (Kd.R_below (by (with_reducible repeat (first | apply Kd.R_alloc | apply Kd.R_drewN | apply Kd.R_drew)); exact HO_3.out) hb); have n1_ := Aside0.mk (below_step (by repeat (first | (with_reducible first | exact HB.out | apply below_alloc | apply pw_below_drewN | apply below_drew1) | exact HB.out)) hb); clear HO_3; clear HB; have HO_3 := n0_; have HB := n1_; clear n0_ n1_; (try clear hb); (try clear hb2); (try clear hk); (try clear hi)))
          repeat (go_quiet (first | (go_at_call 24; (with_reducible refine (cofferdamlaw10_alive.calls k1  t155 _ A72.out).mono ?_); rintro e w74 ⟨rfl, hb⟩; have n0_ := Aside0.mk (Kd.R_below (by (with_reducible repeat (first | apply Kd.R_alloc | apply Kd.R_drewN | apply Kd.R_drew)); exact HO_3.out) hb); have n1_ := Aside0.mk (below_step (by repeat (first | (with_reducible first | exact HB.out | apply below_alloc | apply pw_below_drewN | apply below_drew1) | exact HB.out)) hb); clear HO_3; clear HB; have HO_3 := n0_; have HB := n1_; clear n0_ n1_; (try clear hb); (try clear hb2); (try clear hk); (try clear hi))); try go_wp2_with (first | (go_at_call 24; (with_reducible refine (cofferdamlaw10_alive.calls k1  t155 _ A72.out).mono ?_); rintro e w74 ⟨rfl, hb⟩; have n0_ := Aside0.mk (Kd.R_below (by (with_reducible repeat (first | apply Kd.R_alloc | apply Kd.R_drewN | apply Kd.R_drew)); exact HO_3.out) hb); have n1_ := Aside0.mk (below_step (by repeat (first | (with_reducible first | exact HB.out | apply below_alloc | apply pw_below_drewN | apply below_drew1) | exact HB.out)) hb); clear HO_3; clear HB; have HO_3 := n0_; have HB := n1_; clear n0_ n1_; (try clear hb); (try clear hb2); (try clear hk); (try clear hi))))
          go_ret
          exact ⟨by first | rfl | (simp [errW_none, errW_some] <;> rfl) | (simp [*, errW_none, errW_some] <;> rfl), by repeat (first | (with_reducible first | exact HB.out | apply below_alloc | apply pw_below_drewN | apply below_drew1) | exact HB.out)⟩
  · rw [if_neg c3] at H
    have c3b0 : (t150 == 0) = false := beq_eq_false_iff_ne.mpr c3
    have c3b1 : (t150 != 0) = true := bne_iff_ne.mpr c3
    replace H := Option.bind_eq_some_iff.mp H
    obtain ⟨t154, A750, H⟩ := H
    replace H : (if t154 = true then (if (t149.length : Int) = 0 then (if t151 ≥ 0 then (some (decide (t151 ≤ (a0.size : Int)))) else (some false)) else (some false)) else (some false)) = some r := H
    have A75 := Aside0.mk A750
    clear A750
    by_cases c76 : t154 = true
    · subst c76
      have H1 : (if (t149.length : Int) = 0 then (if t151 ≥ 0 then (some (decide (t151 ≤ (a0.size : Int)))) else (some false)) else (some false)) = some r := by rw [if_pos rfl] at H; exact H
      clear H
      have H := H1
      clear H1
      by_cases c77 : (t149.length : Int) = 0
      · rw [if_pos c77] at H
        have c77b0 : ((t149.length : Int) == 0) = true := beq_iff_eq.mpr c77
        have c77b1 : ((t149.length : Int) != 0) = false := bne_eq_false_iff_eq.mpr c77
        clear c77
        by_cases c78 : t151 ≥ 0
        · rw [if_pos c78] at H
          have c78b0 : decide (0 ≤ t151) = true := decide_eq_true c78
          clear c78
          obtain rfl := Option.some.inj H
          go_enter Try.func9, Try.ntmps9
          go_wp2_with (first | (go_at_call 23; (with_reducible refine (lex_Scan.calls k a0 t149 t150 t151 _ A2.out).mono ?_); rintro e w79 ⟨v152, rfl, ho0, hb⟩; have n0_ := Aside0.mk (Kd.R_lower ho0 (below_size (by repeat (first | (with_reducible first | exact HB.out | apply below_alloc | apply pw_below_drewN | apply below_drew1) | exact HB.out)))); have n1_ := Aside0.mk (below_step (by repeat (first | (with_reducible first | exact HB.out | apply below_alloc | apply pw_below_drewN | apply below_drew1) | exact HB.out)) hb); clear HB; have HO153 := n0_; have HB := n1_; clear n0_ n1_; (try clear hb); (try clear hb2); (try clear hk); (try clear hi); (try clear ho0)) | (go_at_call 24; (with_reducible refine (cofferdamlaw10_alive.calls k  true _ A75.out).mono ?_); rintro e w80 ⟨rfl, hb⟩; have n0_ := Aside0.mk (Kd.R_below (by (with_reducible repeat (first | apply Kd.R_alloc | apply Kd.R_drewN | apply Kd.R_drew)); exact HO153.out) hb); have n1_ := Aside0.mk (below_step (by repeat (first | (with_reducible first | exact HB.out | apply below_alloc | apply pw_below_drewN | apply below_drew1) | exact HB.out)) hb); clear HO153; clear HB; have HO153 := n0_; have HB := n1_; clear n0_ n1_; (try clear hb); (try clear hb2); (try clear hk); (try clear hi); obtain ⟨Ao81, co81, eo81⟩ := Kd.R_slice HO153.out; subst eo81))
          repeat (go_quiet (first | (go_at_call 23; (with_reducible refine (lex_Scan.calls k a0 t149 t150 t151 _ A2.out).mono ?_); rintro e w79 ⟨v152, rfl, ho0, hb⟩; have n0_ := Aside0.mk (Kd.R_lower ho0 (below_size (by repeat (first | (with_reducible first | exact HB.out | apply below_alloc | apply pw_below_drewN | apply below_drew1) | exact HB.out)))); have n1_ := Aside0.mk (below_step (by repeat (first | (with_reducible first | exact HB.out | apply below_alloc | apply pw_below_drewN | apply below_drew1) | exact HB.out)) hb); clear HB; have HO153 := n0_; have HB := n1_; clear n0_ n1_; (try clear hb); (try clear hb2); (try clear hk); (try clear hi); (try clear ho0)) | (go_at_call 24; (with_reducible refine (cofferdamlaw10_alive.calls k  true _ A75.out).mono ?_); rintro e w80 ⟨rfl, hb⟩; have n0_ := Aside0.mk (Kd.R_below (by (with_reducible repeat (first | apply Kd.R_alloc | apply Kd.R_drewN | apply Kd.R_drew)); exact HO153.out) hb); have n1_ := Aside0.mk (below_step (by repeat (first | (with_reducible first | exact HB.out | apply below_alloc | apply pw_below_drewN | apply below_drew1) | exact HB.out)) hb); clear HO153; clear HB; have HO153 := n0_; have HB := n1_; clear n0_ n1_; (try clear hb); (try clear hb2); (try clear hk); (try clear hi); obtain ⟨Ao81, co81, eo81⟩ := Kd.R_slice HO153.out; subst eo81)); try go_wp2_with (first | (go_at_call 23; (with_reducible refine (lex_Scan.calls k a0 t149 t150 t151 _ A2.out).mono ?_); rintro e w79 ⟨v152, rfl, ho0, hb⟩; have n0_ := Aside0.mk (Kd.R_lower ho0 (below_size (by repeat (first | (with_reducible first | exact HB.out | apply below_alloc | apply pw_below_drewN | apply below_drew1) | exact HB.out)))); have n1_ := Aside0.mk (below_step (by repeat (first | (with_reducible first | exact HB.out | apply below_alloc | apply pw_below_drewN | apply below_drew1) | exact HB.out)) hb); clear HB; have HO153 := n0_; have HB := n1_; clear n0_ n1_; (try clear hb); (try clear hb2); (try clear hk); (try clear hi); (try clear ho0)) | (go_at_call 24; (with_reducible refine (cofferdamlaw10_alive.calls k  true _ A75.out).mono ?_); rintro e w80 ⟨rfl, hb⟩; have n0_ := Aside0.mk (Kd.R_below (by (with_reducible repeat (first | apply Kd.R_alloc | apply Kd.R_drewN | apply Kd.R_drew)); exact HO153.out) hb); have n1_ := Aside0.mk (below_step (by repeat (first | (with_reducible first | exact HB.out | apply below_alloc | apply pw_below_drewN | apply below_drew1) | exact HB.out)) hb); clear HO153; clear HB; have HO153 := n0_; have HB := n1_; clear n0_ n1_; (try clear hb); (try clear hb2); (try clear hk); (try clear hi); obtain ⟨Ao81, co81, eo81⟩ := Kd.R_slice HO153.out; subst eo81)))
          go_ret
          exact ⟨by first | rfl | (simp [errW_none, errW_some] <;> rfl) | (simp [*, errW_none, errW_some] <;> rfl), by repeat (first | (with_reducible first | exact HB.out | apply below_alloc | apply pw_below_drewN | apply below_drew1) | exact HB.out)⟩
        · rw [if_neg c78] at H
          have c78b0 : decide (0 ≤ t151) = false := decide_eq_false c78
          clear c78
          obtain rfl := Option.some.inj H
          go_enter Try.func9, Try.ntmps9
          go_wp2_with (first | (go_at_call 23; (with_reducible refine (lex_Scan.calls k a0 t149 t150 t151 _ A2.out).mono ?_); rintro e w82 ⟨v152, rfl, ho0, hb⟩; have n0_ := Aside0.mk (Kd.R_lower ho0 (below_size (by repeat (first | (with_reducible first | exact HB.out | apply below_alloc | apply pw_below_drewN | apply below_drew1) | exact HB.out)))); have n1_ := Aside0.mk (below_step (by repeat (first | (with_reducible first | exact HB.out | apply below_alloc | apply pw_below_drewN | apply below_drew1) | exact HB.out)) hb); clear HB; have HO153 := n0_; have HB := n1_; clear n0_ n1_; (try clear hb); (try clear hb2); (try clear hk); (try clear hi); (try clear ho0)) | (go_at_call 24; (with_reducible refine (cofferdamlaw10_alive.calls k  true _ A75.out).mono ?_); rintro e w83 ⟨rfl, hb⟩; have n0_ := Aside0.mk (Kd.R_below (by (with_reducible repeat (first | apply Kd.R_alloc | apply Kd.R_drewN | apply Kd.R_drew)); exact HO153.out) hb); have n1_ := Aside0.mk (below_step (by repeat (first | (with_reducible first | exact HB.out | apply below_alloc | apply pw_below_drewN | apply below_drew1) | exact HB.out)) hb); clear HO153; clear HB; have HO153 := n0_; have HB := n1_; clear n0_ n1_; (try clear hb); (try clear hb2); (try clear hk); (try clear hi); obtain ⟨Ao84, co84, eo84⟩ := Kd.R_slice HO153.out; subst eo84))
          repeat (go_quiet (first | (go_at_call 23; (with_reducible refine (lex_Scan.calls k a0 t149 t150 t151 _ A2.out).mono ?_); rintro e w82 ⟨v152, rfl, ho0, hb⟩; have n0_ := Aside0.mk (Kd.R_lower ho0 (below_size (by repeat (first | (with_reducible first | exact HB.out | apply below_alloc | apply pw_below_drewN | apply below_drew1) | exact HB.out)))); have n1_ := Aside0.mk (below_step (by repeat (first | (with_reducible first | exact HB.out | apply below_alloc | apply pw_below_drewN | apply below_drew1) | exact HB.out)) hb); clear HB; have HO153 := n0_; have HB := n1_; clear n0_ n1_; (try clear hb); (try clear hb2); (try clear hk); (try clear hi); (try clear ho0)) | (go_at_call 24; (with_reducible refine (cofferdamlaw10_alive.calls k  true _ A75.out).mono ?_); rintro e w83 ⟨rfl, hb⟩; have n0_ := Aside0.mk (Kd.R_below (by (with_reducible repeat (first | apply Kd.R_alloc | apply Kd.R_drewN | apply Kd.R_drew)); exact HO153.out) hb); have n1_ := Aside0.mk (below_step (by repeat (first | (with_reducible first | exact HB.out | apply below_alloc | apply pw_below_drewN | apply below_drew1) | exact HB.out)) hb); clear HO153; clear HB; have HO153 := n0_; have HB := n1_; clear n0_ n1_; (try clear hb); (try clear hb2); (try clear hk); (try clear hi); obtain ⟨Ao84, co84, eo84⟩ := Kd.R_slice HO153.out; subst eo84)); try go_wp2_with (first | (go_at_call 23; (with_reducible refine (lex_Scan.calls k a0 t149 t150 t151 _ A2.out).mono ?_); rintro e w82 ⟨v152, rfl, ho0, hb⟩; have n0_ := Aside0.mk (Kd.R_lower ho0 (below_size (by repeat (first | (with_reducible first | exact HB.out | apply below_alloc | apply pw_below_drewN | apply below_drew1) | exact HB.out)))); have n1_ := Aside0.mk (below_step (by repeat (first | (with_reducible first | exact HB.out | apply below_alloc | apply pw_below_drewN | apply below_drew1) | exact HB.out)) hb); clear HB; have HO153 := n0_; have HB := n1_; clear n0_ n1_; (try clear hb); (try clear hb2); (try clear hk); (try clear hi); (try clear ho0)) | (go_at_call 24; (with_reducible refine (cofferdamlaw10_alive.calls k  true _ A75.out).mono ?_); rintro e w83 ⟨rfl, hb⟩; have n0_ := Aside0.mk (Kd.R_below (by (with_reducible repeat (first | apply Kd.R_alloc | apply Kd.R_drewN | apply Kd.R_drew)); exact HO153.out) hb); have n1_ := Aside0.mk (below_step (by repeat (first | (with_reducible first | exact HB.out | apply below_alloc | apply pw_below_drewN | apply below_drew1) | exact HB.out)) hb); clear HO153; clear HB; have HO153 := n0_; have HB := n1_; clear n0_ n1_; (try clear hb); (try clear hb2); (try clear hk); (try clear hi); obtain ⟨Ao84, co84, eo84⟩ := Kd.R_slice HO153.out; subst eo84)))
          go_ret
          exact ⟨by first | rfl | (simp [errW_none, errW_some] <;> rfl) | (simp [*, errW_none, errW_some] <;> rfl), by repeat (first | (with_reducible first | exact HB.out | apply below_alloc | apply pw_below_drewN | apply below_drew1) | exact HB.out)⟩
      · rw [if_neg c77] at H
        have c77b0 : ((t149.length : Int) == 0) = false := beq_eq_false_iff_ne.mpr c77
        have c77b1 : ((t149.length : Int) != 0) = true := bne_iff_ne.mpr c77
        have c77b2 : ¬ (t149 = []) := fun h_ => c77 (by rw [h_]; rfl)
        obtain rfl := Option.some.inj H
        go_enter Try.func9, Try.ntmps9
        go_wp2_with (first | (go_at_call 23; (with_reducible refine (lex_Scan.calls k a0 t149 t150 t151 _ A2.out).mono ?_); rintro e w85 ⟨v152, rfl, ho0, hb⟩; have n0_ := Aside0.mk (Kd.R_lower ho0 (below_size (by repeat (first | (with_reducible first | exact HB.out | apply below_alloc | apply pw_below_drewN | apply below_drew1) | exact HB.out)))); have n1_ := Aside0.mk (below_step (by repeat (first | (with_reducible first | exact HB.out | apply below_alloc | apply pw_below_drewN | apply below_drew1) | exact HB.out)) hb); clear HB; have HO153 := n0_; have HB := n1_; clear n0_ n1_; (try clear hb); (try clear hb2); (try clear hk); (try clear hi); (try clear ho0)) | (go_at_call 24; (with_reducible refine (cofferdamlaw10_alive.calls k  true _ A75.out).mono ?_); rintro e w86 ⟨rfl, hb⟩; have n0_ := Aside0.mk (Kd.R_below (by (with_reducible repeat (first | apply Kd.R_alloc | apply Kd.R_drewN | apply Kd.R_drew)); exact HO153.out) hb); have n1_ := Aside0.mk (below_step (by repeat (first | (with_reducible first | exact HB.out | apply below_alloc | apply pw_below_drewN | apply below_drew1) | exact HB.out)) hb); clear HO153; clear HB; have HO153 := n0_; have HB := n1_; clear n0_ n1_; (try clear hb); (try clear hb2); (try clear hk); (try clear hi); obtain ⟨Ao87, co87, eo87⟩ := Kd.R_slice HO153.out; subst eo87))
        repeat (go_quiet (first | (go_at_call 23; (with_reducible refine (lex_Scan.calls k a0 t149 t150 t151 _ A2.out).mono ?_); rintro e w85 ⟨v152, rfl, ho0, hb⟩; have n0_ := Aside0.mk (Kd.R_lower ho0 (below_size (by repeat (first | (with_reducible first | exact HB.out | apply below_alloc | apply pw_below_drewN | apply below_drew1) | exact HB.out)))); have n1_ := Aside0.mk (below_step (by repeat (first | (with_reducible first | exact HB.out | apply below_alloc | apply pw_below_drewN | apply below_drew1) | exact HB.out)) hb); clear HB; have HO153 := n0_; have HB := n1_; clear n0_ n1_; (try clear hb); (try clear hb2); (try clear hk); (try clear hi); (try clear ho0)) | (go_at_call 24; (with_reducible refine (cofferdamlaw10_alive.calls k  true _ A75.out).mono ?_); rintro e w86 ⟨rfl, hb⟩; have n0_ := Aside0.mk (Kd.R_below (by (with_reducible repeat (first | apply Kd.R_alloc | apply Kd.R_drewN | apply Kd.R_drew)); exact HO153.out) hb); have n1_ := Aside0.mk (below_step (by repeat (first | (with_reducible first | exact HB.out | apply below_alloc | apply pw_below_drewN | apply below_drew1) | exact HB.out)) hb); clear HO153; clear HB; have HO153 := n0_; have HB := n1_; clear n0_ n1_; (try clear hb); (try clear hb2); (try clear hk); (try clear hi); obtain ⟨Ao87, co87, eo87⟩ := Kd.R_slice HO153.out; subst eo87)); try go_wp2_with (first | (go_at_call 23; (with_reducible refine (lex_Scan.calls k a0 t149 t150 t151 _ A2.out).mono ?_); rintro e w85 ⟨v152, rfl, ho0, hb⟩; have n0_ := Aside0.mk (Kd.R_lower ho0 (below_size (by repeat (first | (with_reducible first | exact HB.out | apply below_alloc | apply pw_below_drewN | apply below_drew1) | exact HB.out)))); have n1_ := Aside0.mk (below_step (by repeat (first | (with_reducible first | exact HB.out | apply below_alloc | apply pw_below_drewN | apply below_drew1) | exact HB.out)) hb); clear HB; have HO153 := n0_; have HB := n1_; clear n0_ n1_; (try clear hb); (try clear hb2); (try clear hk); (try clear hi); (try clear ho0)) | (go_at_call 24; (with_reducible refine (cofferdamlaw10_alive.calls k  true _ A75.out).mono ?_); rintro e w86 ⟨rfl, hb⟩; have n0_ := Aside0.mk (Kd.R_below (by (with_reducible repeat (first | apply Kd.R_alloc | apply Kd.R_drewN | apply Kd.R_drew)); exact HO153.out) hb); have n1_ := Aside0.mk (below_step (by repeat (first | (with_reducible first | exact HB.out | apply below_alloc | apply pw_below_drewN | apply below_drew1) | exact HB.out)) hb); clear HO153; clear HB; have HO153 := n0_; have HB := n1_; clear n0_ n1_; (try clear hb); (try clear hb2); (try clear hk); (try clear hi); obtain ⟨Ao87, co87, eo87⟩ := Kd.R_slice HO153.out; subst eo87)))
        go_ret
        exact ⟨by first | rfl | (simp [errW_none, errW_some] <;> rfl) | (simp [*, errW_none, errW_some] <;> rfl), by repeat (first | (with_reducible first | exact HB.out | apply below_alloc | apply pw_below_drewN | apply below_drew1) | exact HB.out)⟩
    · replace c76 := Bool.eq_false_iff.mpr c76
      subst c76
      have H1 : (some false) = some r := by rw [if_neg (show ¬ (false = true) by decide)] at H; exact H
      clear H
      have H := H1
      clear H1
      obtain rfl := Option.some.inj H
      go_enter Try.func9, Try.ntmps9
      go_wp2_with (first | (go_at_call 23; (with_reducible refine (lex_Scan.calls k a0 t149 t150 t151 _ A2.out).mono ?_); rintro e w88 ⟨v152, rfl, ho0, hb⟩; have n0_ := Aside0.mk (Kd.R_lower ho0 (below_size (by repeat (first | (with_reducible first | exact HB.out | apply below_alloc | apply pw_below_drewN | apply below_drew1) | exact HB.out)))); have n1_ := Aside0.mk (below_step (by repeat (first | (with_reducible first | exact HB.out | apply below_alloc | apply pw_below_drewN | apply below_drew1) | exact HB.out)) hb); clear HB; have HO153 := n0_; have HB := n1_; clear n0_ n1_; (try clear hb); (try clear hb2); (try clear hk); (try clear hi); (try clear ho0)) | (go_at_call 24; (with_reducible refine (cofferdamlaw10_alive.calls k  false _ A75.out).mono ?_); rintro e w89 ⟨rfl, hb⟩; have n0_ := Aside0.mk (Kd.R_below (by (with_reducible repeat (first | apply Kd.R_alloc | apply Kd.R_drewN | apply Kd.R_drew)); exact HO153.out) hb); have n1_ := Aside0.mk (below_step (by repeat (first | (with_reducible first | exact HB.out | apply below_alloc | apply pw_below_drewN | apply below_drew1) | exact HB.out)) hb); clear HO153; clear HB; have HO153 := n0_; have HB := n1_; clear n0_ n1_; (try clear hb); (try clear hb2); (try clear hk); (try clear hi)))
      repeat (go_quiet (first | (go_at_call 23; (with_reducible refine (lex_Scan.calls k a0 t149 t150 t151 _ A2.out).mono ?_); rintro e w88 ⟨v152, rfl, ho0, hb⟩; have n0_ := Aside0.mk (Kd.R_lower ho0 (below_size (by repeat (first | (with_reducible first | exact HB.out | apply below_alloc | apply pw_below_drewN | apply below_drew1) | exact HB.out)))); have n1_ := Aside0.mk (below_step (by repeat (first | (with_reducible first | exact HB.out | apply below_alloc | apply pw_below_drewN | apply below_drew1) | exact HB.out)) hb); clear HB; have HO153 := n0_; have HB := n1_; clear n0_ n1_; (try clear hb); (try clear hb2); (try clear hk); (try clear hi); (try clear ho0)) | (go_at_call 24; (with_reducible refine (cofferdamlaw10_alive.calls k  false _ A75.out).mono ?_); rintro e w89 ⟨rfl, hb⟩; have n0_ := Aside0.mk (Kd.R_below (by (with_reducible repeat (first | apply Kd.R_alloc | apply Kd.R_drewN | apply Kd.R_drew)); exact HO153.out) hb); have n1_ := Aside0.mk (below_step (by repeat (first | (with_reducible first | exact HB.out | apply below_alloc | apply pw_below_drewN | apply below_drew1) | exact HB.out)) hb); clear HO153; clear HB; have HO153 := n0_; have HB := n1_; clear n0_ n1_; (try clear hb); (try clear hb2); (try clear hk); (try clear hi))); try go_wp2_with (first | (go_at_call 23; (with_reducible refine (lex_Scan.calls k a0 t149 t150 t151 _ A2.out).mono ?_); rintro e w88 ⟨v152, rfl, ho0, hb⟩; have n0_ := Aside0.mk (Kd.R_lower ho0 (below_size (by repeat (first | (with_reducible first | exact HB.out | apply below_alloc | apply pw_below_drewN | apply below_drew1) | exact HB.out)))); have n1_ := Aside0.mk (below_step (by repeat (first | (with_reducible first | exact HB.out | apply below_alloc | apply pw_below_drewN | apply below_drew1) | exact HB.out)) hb); clear HB; have HO153 := n0_; have HB := n1_; clear n0_ n1_; (try clear hb); (try clear hb2); (try clear hk); (try clear hi); (try clear ho0)) | (go_at_call 24; (with_reducible refine (cofferdamlaw10_alive.calls k  false _ A75.out).mono ?_); rintro e w89 ⟨rfl, hb⟩; have n0_ := Aside0.mk (Kd.R_below (by (with_reducible repeat (first | apply Kd.R_alloc | apply Kd.R_drewN | apply Kd.R_drew)); exact HO153.out) hb); have n1_ := Aside0.mk (below_step (by repeat (first | (with_reducible first | exact HB.out | apply below_alloc | apply pw_below_drewN | apply below_drew1) | exact HB.out)) hb); clear HO153; clear HB; have HO153 := n0_; have HB := n1_; clear n0_ n1_; (try clear hb); (try clear hb2); (try clear hk); (try clear hi))))
      go_ret
      exact ⟨by first | rfl | (simp [errW_none, errW_some] <;> rfl) | (simp [*, errW_none, errW_some] <;> rfl), by repeat (first | (with_reducible first | exact HB.out | apply below_alloc | apply pw_below_drewN | apply below_drew1) | exact HB.out)⟩

/-- THE ONE PURE STATEMENT of cofferdamlaw10_LexPlaces: yours. -/
def cofferdamlaw10_LexPlaces.Pure : Prop := ∀ (a0 : ByteArray), a0.size ≤ 140737488351232 → ∃ k, cofferdamlaw10_LexPlaces.f k a0 = some true
theorem cofferdamlaw10_LexPlaces.walk (P : cofferdamlaw10_LexPlaces.Pure) (a0 : ByteArray) (w : World) (w0 : a0.size ≤ 140737488351232) :
    Calls Try.prog 9 #[.string a0] w fun e w' => e = .returned (.bool true) ∧ Below w.heap.size w w' := by
  obtain ⟨k, h⟩ := P a0 w0
  refine (cofferdamlaw10_LexPlaces.calls k a0 true w h).mono ?_
  rintro e w' ⟨rfl, hd⟩
  exact ⟨rfl, hd⟩

end Go.Proofs.Ytocclfjddihmbaa.P
