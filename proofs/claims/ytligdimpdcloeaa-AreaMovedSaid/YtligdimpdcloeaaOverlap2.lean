import Derived.Test.YtligdimpdcloeaaOverlap1
namespace Go.Proofs.Ytligdimpdcloeaa.P
open Go.RowKit Go.Proofs.YtligdimpdcloeaaW.PrintWords Go.Proofs.YtligdimpdcloeaaW.PrintLast Go.Proofs.YtligdimpdcloeaaW.PrintMore
set_option linter.unusedVariables false
set_option linter.unusedSimpArgs false

theorem okR_real (r1 r2 : Int) : okR r1 r2 = (if r1 ≥ 0 then (if r2 ≥ 1 then (if r1 ≤ 2147483647 then decide (r2 ≤ 2147483647 - r1) else false) else false) else false) := by
  unfold okR okF
  rw [Bool.eq_iff_iff]
  simp only [Bool.and_eq_true, decide_eq_true_eq]
  by_cases h1 : r1 ≥ 0 <;> by_cases h2 : r2 ≥ 1 <;> by_cases h3 : r1 ≤ 2147483647 <;> simp [h1, h2, h3] <;> omega
set_option maxHeartbeats 8000000 in
set_option maxRecDepth 100000 in
theorem real_calls (a0 a1 a2 : Int) (w : World) :
    Calls Try.prog 23 #[.agg #[.int .i64 a0, .int .i64 a1, .int .i64 a2]] w fun e w' => e = .returned (.bool (okR a1 a2)) ∧ Below w.heap.size w w' := by
  have hb := blk_new w (.cells #[.int .i64 a0, .int .i64 a1, .int .i64 a2] 33 (0, 0))
  have hbw : Below w.heap.size w (w.alloc (.cells #[.int .i64 a0, .int .i64 a1, .int .i64 a2] 33 (0, 0))) := below_alloc (Below.refl _ _) _
  have k1 : (w.alloc (.cells #[.int .i64 a0, .int .i64 a1, .int .i64 a2] 33 (0, 0))).cell? ⟨w.heap.size, 1, none⟩ = some (.int .i64 a1) := (blk_cell hb 1).trans rfl
  have k2 : (w.alloc (.cells #[.int .i64 a0, .int .i64 a1, .int .i64 a2] 33 (0, 0))).cell? ⟨w.heap.size, 2, none⟩ = some (.int .i64 a2) := (blk_cell hb 2).trans rfl
  clear hb
  rw [okR_real]
  have HW := Aside0.mk hbw
  clear hbw
  by_cases h1 : a1 ≥ 0
  · have d1 : decide (a1 ≥ 0) = true := decide_eq_true h1
    rw [if_pos h1]
    by_cases h2 : a2 ≥ 1
    · have d2 : decide (a2 ≥ 1) = true := decide_eq_true h2
      rw [if_pos h2]
      by_cases h3 : a1 ≤ 2147483647
      · have d3 : decide (a1 ≤ 2147483647) = true := decide_eq_true h3
        rw [if_pos h3]
        go_enter Try.func23, Try.ntmps23
        go_wp2
        all_goals go_ret
        all_goals exact ⟨rfl, HW.out⟩
      · have d3 : decide (a1 ≤ 2147483647) = false := decide_eq_false h3
        rw [if_neg h3]
        clear h1 h2 h3
        go_enter Try.func23, Try.ntmps23
        go_wp2
        all_goals go_ret
        all_goals exact ⟨rfl, HW.out⟩
    · have d2 : decide (a2 ≥ 1) = false := decide_eq_false h2
      rw [if_neg h2]
      clear h1 h2
      go_enter Try.func23, Try.ntmps23
      go_wp2
      all_goals go_ret
      all_goals exact ⟨rfl, HW.out⟩
  · have d1 : decide (a1 ≥ 0) = false := decide_eq_false h1
    rw [if_neg h1]
    clear h1
    go_enter Try.func23, Try.ntmps23
    go_wp2
    all_goals go_ret
    all_goals exact ⟨rfl, HW.out⟩

theorem share3_ok {a b : R3} (hs : (okR a.2.1 a.2.2 && okR b.2.1 b.2.2) = false) : share3 a b = false := by unfold share3 shareB; rw [hs]; rfl
theorem share3_at {a b : R3} (ha : okR a.2.1 a.2.2 = true) (hb : okR b.2.1 b.2.2 = true) :
    share3 a b = (if a.1 = b.1 then (if a.2.1 < b.2.1 + b.2.2 then decide (b.2.1 < a.2.1 + a.2.2) else false) else false) := by
  have fa := okF_bounds (show okF a.2.1 a.2.2 = true by unfold okR at ha; simp only [Bool.and_eq_true] at ha; exact ha.2)
  have fb := okF_bounds (show okF b.2.1 b.2.2 = true by unfold okR at hb; simp only [Bool.and_eq_true] at hb; exact hb.2)
  have ga : 1 ≤ a.2.2 := by unfold okR at ha; simp only [Bool.and_eq_true, decide_eq_true_eq] at ha; exact ha.1
  have gb : 1 ≤ b.2.2 := by unfold okR at hb; simp only [Bool.and_eq_true, decide_eq_true_eq] at hb; exact hb.1
  unfold share3 shareB
  rw [ha, hb, Bool.eq_iff_iff]
  by_cases h1 : a.1 = b.1 <;> by_cases h2 : a.2.1 < b.2.1 + b.2.2 <;> simp [h1, h2] <;> omega

set_option maxHeartbeats 16000000 in
set_option maxRecDepth 100000 in
theorem refov_calls (A : Addr) (c : Nat) (l : List R3) (hl : l.length ≤ 100000) (hc : l.length ≤ c) (w : World) (h : Reads3 w A l) :
    Calls Try.prog 16 #[.slice (some A) l.length c] w fun e w' => e = .returned (ovR (ovJ l (l.length + 1) 0)) ∧ Below w.heap.size w w' := by
  go_enter Try.func16, Try.ntmps16
  go_wp2
  have HR := Aside0.mk h
  clear h
  go_loopg [4] (l.length + 1) (fun kx v4 wr => ∃ j : Nat, j ≤ l.length ∧ l.length - j + 1 ≤ kx ∧ v4 = .int .i64 j ∧ Aside0 (Below w.heap.size w wr) ∧ Aside0 (ovJ l (l.length + 1 - j) j = ovJ l (l.length + 1) 0))
  case atStart => exact ⟨0, Nat.zero_le _, by omega, rfl, ⟨Below.refl _ _⟩, ⟨rfl⟩⟩
  case round =>
    obtain ⟨j, hj, hg, rfl, HB, HO⟩ := hrel
    by_cases hlt : j < l.length
    · have hd : decide ((j : Int) < (l.length : Int)) = true := decide_eq_true (by omega)
      go_wp2
      go_loopg [5] (j + 1) (fun kx v5 w2 => ∃ i : Nat, i ≤ j ∧ j - i + 1 ≤ kx ∧ v5 = .int .i64 i ∧ Aside0 (Below w.heap.size w w2) ∧ Aside0 (ovI l j (j + 1 - i) i = ovI l j (j + 1) 0))
      case atStart => exact ⟨0, Nat.zero_le _, by omega, rfl, ⟨HB.out⟩, ⟨rfl⟩⟩
      case round =>
        obtain ⟨i, hi, hg2, rfl, HB2, HI⟩ := hrel
        by_cases hlt2 : i < j
        · have hd2 : decide ((i : Int) < (j : Int)) = true := decide_eq_true (by omega)
          have hyes := ovI_yes (l := l) hlt2
          have hno := ovI_no (l := l) hlt2
          obtain ⟨k0, k1, k2⟩ := (HR.out.below HB2.out) i (by omega)
          obtain ⟨m0, m1, m2⟩ := (HR.out.below HB2.out) j hlt
          have HS := Aside0.mk (HR.out.below HB2.out)
          have HRA := Aside0.mk (real_calls (l.getD i (0, 0, 0)).1 (l.getD i (0, 0, 0)).2.1 (l.getD i (0, 0, 0)).2.2)
          have HRB := Aside0.mk (real_calls (l.getD j (0, 0, 0)).1 (l.getD j (0, 0, 0)).2.1 (l.getD j (0, 0, 0)).2.2)
          generalize l.getD i (0, 0, 0) = a at *
          generalize l.getD j (0, 0, 0) = b at *
          have q3 : (0 : Int) ≤ (i : Int) := by omega
          have q4 : (0 : Int) ≤ (j : Int) := by omega
          cases hA : okR a.2.1 a.2.2
          · rw [hA] at HRA
            have HN := Aside0.mk (hno (share3_ok (by rw [hA]; rfl)))
            clear hyes hno
            go_wp2_with (first | (go_at_call 23; (with_reducible refine (HRA.out _).mono ?_); rintro e w5 ⟨rfl, hb5⟩; replace m0 := pw_cell_below hb5 m0; replace m1 := pw_cell_below hb5 m1; replace m2 := pw_cell_below hb5 m2; replace k0 := pw_cell_below hb5 k0; replace k1 := pw_cell_below hb5 k1; replace k2 := pw_cell_below hb5 k2; have HB5 := Aside0.mk hb5; clear hb5) | (go_at_call 23; (with_reducible refine (HRB.out _).mono ?_); rintro e w6 ⟨rfl, hb5⟩; replace m0 := pw_cell_below hb5 m0; replace m1 := pw_cell_below hb5 m1; replace m2 := pw_cell_below hb5 m2; replace k0 := pw_cell_below hb5 k0; replace k1 := pw_cell_below hb5 k1; replace k2 := pw_cell_below hb5 k2; have HB6 := Aside0.mk hb5; clear hb5))
            go_region
            all_goals skip
            go_wp2
            go_roundg (j - (i + 1) + 1)
            case rel => exact ⟨i + 1, by omega, Nat.le_refl _, by go_num, ⟨by first | exact below_drew ((HB2.out.trans (HB5.out.mono HB2.out.size)).trans (HB6.out.mono (Nat.le_trans HB2.out.size HB5.out.size))) | exact (HB2.out.trans (HB5.out.mono HB2.out.size)).trans (HB6.out.mono (Nat.le_trans HB2.out.size HB5.out.size))⟩, ⟨by rw [← HI.out, HN.out]⟩⟩
            case measure => omega
          · rw [hA] at HRA
            cases hB : okR b.2.1 b.2.2
            · rw [hB] at HRB
              have HN := Aside0.mk (hno (share3_ok (by rw [hA, hB]; rfl)))
              clear hyes hno
              go_wp2_with (first | (go_at_call 23; (with_reducible refine (HRA.out _).mono ?_); rintro e w5 ⟨rfl, hb5⟩; replace m0 := pw_cell_below hb5 m0; replace m1 := pw_cell_below hb5 m1; replace m2 := pw_cell_below hb5 m2; replace k0 := pw_cell_below hb5 k0; replace k1 := pw_cell_below hb5 k1; replace k2 := pw_cell_below hb5 k2; have HB5 := Aside0.mk hb5; clear hb5) | (go_at_call 23; (with_reducible refine (HRB.out _).mono ?_); rintro e w6 ⟨rfl, hb5⟩; replace m0 := pw_cell_below hb5 m0; replace m1 := pw_cell_below hb5 m1; replace m2 := pw_cell_below hb5 m2; replace k0 := pw_cell_below hb5 k0; replace k1 := pw_cell_below hb5 k1; replace k2 := pw_cell_below hb5 k2; have HB6 := Aside0.mk hb5; clear hb5))
              go_region
              all_goals skip
              go_wp2
              go_roundg (j - (i + 1) + 1)
              case rel => exact ⟨i + 1, by omega, Nat.le_refl _, by go_num, ⟨by first | exact below_drew ((HB2.out.trans (HB5.out.mono HB2.out.size)).trans (HB6.out.mono (Nat.le_trans HB2.out.size HB5.out.size))) | exact (HB2.out.trans (HB5.out.mono HB2.out.size)).trans (HB6.out.mono (Nat.le_trans HB2.out.size HB5.out.size))⟩, ⟨by rw [← HI.out, HN.out]⟩⟩
              case measure => omega
            · rw [hB] at HRB
              have hsh := share3_at hA hB
              have fA := okF_bounds (show okF a.2.1 a.2.2 = true by unfold okR at hA; simp only [Bool.and_eq_true] at hA; exact hA.2)
              have fB := okF_bounds (show okF b.2.1 b.2.2 = true by unfold okR at hB; simp only [Bool.and_eq_true] at hB; exact hB.2)
              by_cases h1 : a.1 = b.1
              · rw [if_pos h1] at hsh
                have e1 : (a.1 == b.1) = true := by rw [h1]; exact beq_self_eq_true b.1
                by_cases h2 : a.2.1 < b.2.1 + b.2.2
                · rw [if_pos h2] at hsh
                  have e2 : decide (a.2.1 < b.2.1 + b.2.2) = true := decide_eq_true h2
                  by_cases h3 : b.2.1 < a.2.1 + a.2.2
                  · have e3 : decide (b.2.1 < a.2.1 + a.2.2) = true := decide_eq_true h3
                    rw [e3] at hsh
                    have HN := Aside0.mk (hyes hsh)
                    clear hyes hno hsh h1 h2 h3
                    go_wp2_with (first | (go_at_call 23; (with_reducible refine (HRA.out _).mono ?_); rintro e w5 ⟨rfl, hb5⟩; replace m0 := pw_cell_below hb5 m0; replace m1 := pw_cell_below hb5 m1; replace m2 := pw_cell_below hb5 m2; replace k0 := pw_cell_below hb5 k0; replace k1 := pw_cell_below hb5 k1; replace k2 := pw_cell_below hb5 k2; have HB5 := Aside0.mk hb5; clear hb5) | (go_at_call 23; (with_reducible refine (HRB.out _).mono ?_); rintro e w6 ⟨rfl, hb5⟩; replace m0 := pw_cell_below hb5 m0; replace m1 := pw_cell_below hb5 m1; replace m2 := pw_cell_below hb5 m2; replace k0 := pw_cell_below hb5 k0; replace k1 := pw_cell_below hb5 k1; replace k2 := pw_cell_below hb5 k2; have HB6 := Aside0.mk hb5; clear hb5))
                    go_region
                    go_wp2
                    go_ret2
                    refine ⟨?_, by first | exact below_drew ((HB2.out.trans (HB5.out.mono HB2.out.size)).trans (HB6.out.mono (Nat.le_trans HB2.out.size HB5.out.size))) | exact (HB2.out.trans (HB5.out.mono HB2.out.size)).trans (HB6.out.mono (Nat.le_trans HB2.out.size HB5.out.size))⟩
                    rw [← HO.out, ovJ_yes hlt (by rw [← HI.out, HN.out])]
                    rfl
                  · have e3 : decide (b.2.1 < a.2.1 + a.2.2) = false := decide_eq_false h3
                    rw [e3] at hsh
                    clear h1 h2 h3
                    have HN := Aside0.mk (hno hsh)
                    clear hyes hno
                    go_wp2_with (first | (go_at_call 23; (with_reducible refine (HRA.out _).mono ?_); rintro e w5 ⟨rfl, hb5⟩; replace m0 := pw_cell_below hb5 m0; replace m1 := pw_cell_below hb5 m1; replace m2 := pw_cell_below hb5 m2; replace k0 := pw_cell_below hb5 k0; replace k1 := pw_cell_below hb5 k1; replace k2 := pw_cell_below hb5 k2; have HB5 := Aside0.mk hb5; clear hb5) | (go_at_call 23; (with_reducible refine (HRB.out _).mono ?_); rintro e w6 ⟨rfl, hb5⟩; replace m0 := pw_cell_below hb5 m0; replace m1 := pw_cell_below hb5 m1; replace m2 := pw_cell_below hb5 m2; replace k0 := pw_cell_below hb5 k0; replace k1 := pw_cell_below hb5 k1; replace k2 := pw_cell_below hb5 k2; have HB6 := Aside0.mk hb5; clear hb5))
                    go_region
                    all_goals skip
                    go_wp2
                    go_roundg (j - (i + 1) + 1)
                    case rel => exact ⟨i + 1, by omega, Nat.le_refl _, by go_num, ⟨by first | exact below_drew ((HB2.out.trans (HB5.out.mono HB2.out.size)).trans (HB6.out.mono (Nat.le_trans HB2.out.size HB5.out.size))) | exact (HB2.out.trans (HB5.out.mono HB2.out.size)).trans (HB6.out.mono (Nat.le_trans HB2.out.size HB5.out.size))⟩, ⟨by rw [← HI.out, HN.out]⟩⟩
                    case measure => omega
                · rw [if_neg h2] at hsh
                  have e2 : decide (a.2.1 < b.2.1 + b.2.2) = false := decide_eq_false h2
                  clear h1 h2
                  have HN := Aside0.mk (hno hsh)
                  clear hyes hno
                  go_wp2_with (first | (go_at_call 23; (with_reducible refine (HRA.out _).mono ?_); rintro e w5 ⟨rfl, hb5⟩; replace m0 := pw_cell_below hb5 m0; replace m1 := pw_cell_below hb5 m1; replace m2 := pw_cell_below hb5 m2; replace k0 := pw_cell_below hb5 k0; replace k1 := pw_cell_below hb5 k1; replace k2 := pw_cell_below hb5 k2; have HB5 := Aside0.mk hb5; clear hb5) | (go_at_call 23; (with_reducible refine (HRB.out _).mono ?_); rintro e w6 ⟨rfl, hb5⟩; replace m0 := pw_cell_below hb5 m0; replace m1 := pw_cell_below hb5 m1; replace m2 := pw_cell_below hb5 m2; replace k0 := pw_cell_below hb5 k0; replace k1 := pw_cell_below hb5 k1; replace k2 := pw_cell_below hb5 k2; have HB6 := Aside0.mk hb5; clear hb5))
                  go_region
                  all_goals skip
                  go_wp2
                  go_roundg (j - (i + 1) + 1)
                  case rel => exact ⟨i + 1, by omega, Nat.le_refl _, by go_num, ⟨by first | exact below_drew ((HB2.out.trans (HB5.out.mono HB2.out.size)).trans (HB6.out.mono (Nat.le_trans HB2.out.size HB5.out.size))) | exact (HB2.out.trans (HB5.out.mono HB2.out.size)).trans (HB6.out.mono (Nat.le_trans HB2.out.size HB5.out.size))⟩, ⟨by rw [← HI.out, HN.out]⟩⟩
                  case measure => omega
              · rw [if_neg h1] at hsh
                have e1 : (a.1 == b.1) = false := beq_eq_false_iff_ne.2 h1
                clear h1
                have HN := Aside0.mk (hno hsh)
                clear hyes hno
                go_wp2_with (first | (go_at_call 23; (with_reducible refine (HRA.out _).mono ?_); rintro e w5 ⟨rfl, hb5⟩; replace m0 := pw_cell_below hb5 m0; replace m1 := pw_cell_below hb5 m1; replace m2 := pw_cell_below hb5 m2; replace k0 := pw_cell_below hb5 k0; replace k1 := pw_cell_below hb5 k1; replace k2 := pw_cell_below hb5 k2; have HB5 := Aside0.mk hb5; clear hb5) | (go_at_call 23; (with_reducible refine (HRB.out _).mono ?_); rintro e w6 ⟨rfl, hb5⟩; replace m0 := pw_cell_below hb5 m0; replace m1 := pw_cell_below hb5 m1; replace m2 := pw_cell_below hb5 m2; replace k0 := pw_cell_below hb5 k0; replace k1 := pw_cell_below hb5 k1; replace k2 := pw_cell_below hb5 k2; have HB6 := Aside0.mk hb5; clear hb5))
                go_region
                all_goals skip
                go_wp2
                go_roundg (j - (i + 1) + 1)
                case rel => exact ⟨i + 1, by omega, Nat.le_refl _, by go_num, ⟨by first | exact below_drew ((HB2.out.trans (HB5.out.mono HB2.out.size)).trans (HB6.out.mono (Nat.le_trans HB2.out.size HB5.out.size))) | exact (HB2.out.trans (HB5.out.mono HB2.out.size)).trans (HB6.out.mono (Nat.le_trans HB2.out.size HB5.out.size))⟩, ⟨by rw [← HI.out, HN.out]⟩⟩
                case measure => omega
        · have hd2 : decide ((i : Int) < (j : Int)) = false := decide_eq_false (by omega)
          have hij : i = j := by omega
          subst hij
          have HN := Aside0.mk (show ovI l i (i + 1) 0 = none by rw [← HI.out]; exact ovI_end l i)
          go_wp2
          go_roundg (l.length - (i + 1) + 1)
          case rel => exact ⟨i + 1, by omega, Nat.le_refl _, by go_num, ⟨HB2.out⟩, ⟨by rw [← HO.out, ovJ_no hlt HN.out]⟩⟩
          case measure => omega
    · have hd : decide ((j : Int) < (l.length : Int)) = false := decide_eq_false (by omega)
      go_wp2
      go_ret2
      refine ⟨?_, HB.out⟩
      rw [← HO.out, ovJ_end l hlt]
      rfl
end Go.Proofs.Ytligdimpdcloeaa.P
