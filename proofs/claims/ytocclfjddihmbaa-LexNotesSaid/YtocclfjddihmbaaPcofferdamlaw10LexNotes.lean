/- Proved here: what the functions named below compute (or, in a text Law.., that the law holds), at every argument that the theorems' own premises allow. Written by a program of this session over the kit's printer; Lean checks it. -/
import Derived.Test.YtocclfjddihmbaaP0
import Derived.Test.YtocclfjddihmbaaPcofferdamlaw10alive
import Derived.Test.YtocclfjddihmbaaPcofferdamlaw10same
import Derived.Test.YtocclfjddihmbaaPlexScan
namespace Go.Proofs.Ytocclfjddihmbaa.P
open Go.RowKit Go.Proofs.YtocclfjddihmbaaW.PrintWords Go.Proofs.YtocclfjddihmbaaW.PrintLast Go.Proofs.YtocclfjddihmbaaW.PrintMore
attribute [local go_sem] max2_int min2_int max_two min_two max_three min_three max_four min_four   -- for this text's walks alone
set_option linter.unusedVariables false
set_option linter.unusedSimpArgs false

/-! ### cofferdamlaw10_LexNotes: function 11 -/
mutual
def cofferdamlaw10_LexNotes.l0 : Nat → ByteArray → ByteArray → ByteArray → Int → Option (Bool)
  | 0, _, _, _, _ => none
  | k + 1, x0, x1, x5, x6 => if x6 < (x1.size : Int) then (cofferdamlaw10_LexNotes.j1 k x0 x1 x5 x6 (decide (x6 < 100))) else (cofferdamlaw10_LexNotes.j1 k x0 x1 x5 x6 false)
def cofferdamlaw10_LexNotes.j1 : Nat → ByteArray → ByteArray → ByteArray → Int → Bool → Option (Bool)
  | 0, _, _, _, _, _ => none
  | k + 1, x0, x1, x5, x6, x27 => if x27 = true then (if 0 ≤ x6 then (if x6 < (x1.size : Int) then (if (bt x1 x6) = 10 then (cofferdamlaw10_LexNotes.l0 k x0 x1 x5 (wrap64 (x6 + 1))) else (if x6 ≤ (wrap64 (x6 + 1)) then (if (wrap64 (x6 + 1)) ≤ (x1.size : Int) then (if x5.size + (x1.extract (x6 : Int).toNat ((wrap64 (x6 + 1)) : Int).toNat).size ≤ 9223372036854775807 then (cofferdamlaw10_LexNotes.l0 k x0 x1 (x5 ++ (x1.extract (x6 : Int).toNat ((wrap64 (x6 + 1)) : Int).toNat)) (wrap64 (x6 + 1))) else (none)) else (none)) else (none))) else (none)) else (none)) else (if x5.size + 1 ≤ 9223372036854775807 then (if (x5 ++ (⟨#[10]⟩ : ByteArray)).size + x0.size ≤ 9223372036854775807 then (if ((x5 ++ (⟨#[10]⟩ : ByteArray)) ++ x0).size + 1 ≤ 9223372036854775807 then (if (((x5 ++ (⟨#[10]⟩ : ByteArray)) ++ x0) ++ (⟨#[10]⟩ : ByteArray)).size + (x5 ++ (⟨#[10]⟩ : ByteArray)).size ≤ 9223372036854775807 then (if (((((x5 ++ (⟨#[10]⟩ : ByteArray)) ++ x0) ++ (⟨#[10]⟩ : ByteArray)) ++ (x5 ++ (⟨#[10]⟩ : ByteArray))).size : Int) > 2000 then ((cofferdamlaw10_alive.f k).bind fun t189 => (some t189)) else ((lex_Scan.f k x0).bind fun bt190 => ((lex_Scan.f k ((((x5 ++ (⟨#[10]⟩ : ByteArray)) ++ x0) ++ (⟨#[10]⟩ : ByteArray)) ++ (x5 ++ (⟨#[10]⟩ : ByteArray)))).bind fun bt195 => (cofferdamlaw10_LexNotes.l1 k (x5 ++ (⟨#[10]⟩ : ByteArray)) bt190.1 bt190.2.1 bt190.2.2 bt195.1 bt195.2.1 bt195.2.2 0)))) else (none)) else (none)) else (none)) else (none))
def cofferdamlaw10_LexNotes.l1 : Nat → ByteArray → List (S41) → Int → Int → List (S41) → Int → Int → Int → Option (Bool)
  | 0, _, _, _, _, _, _, _, _ => none
  | k + 1, x5, x8, x9, x10, x11, x12, x13, x14 => if x14 < (x8.length : Int) then (if 0 ≤ x14 then (cofferdamlaw10_LexNotes.l1 k x5 (x8.set (x14 : Int).toNat (⟨(rd_T41 x8 x14).f0, (rd_T41 x8 x14).f1, (rd_T41 x8 x14).f2, wrap64 (((rd_T41 x8 x14).f3) + (x5.size : Int))⟩ : S41)) x9 x10 x11 x12 x13 (wrap64 (x14 + 1))) else (none)) else ((cofferdamlaw10_same.f k x8 x11).bind fun t202 => ((cofferdamlaw10_alive.f k).bind fun t203 => (if t203 = true then (if t202 = true then (if x9 = x12 then (if x9 = 0 then (if x13 = (-1) then (some true) else (some false)) else (some (x13 == (wrap64 (x10 + (x5.size : Int)))))) else (some false)) else (some false)) else (some false))))
end
def cofferdamlaw10_LexNotes.f (k : Nat) (a0 : ByteArray) (a1 : ByteArray) : Option (Bool) := if (a0.size : Int) > 2000 then ((cofferdamlaw10_alive.f k).bind fun t188 => (some t188)) else (cofferdamlaw10_LexNotes.l0 k a0 a1 (⟨#[47, 47]⟩ : ByteArray) 0)
theorem cofferdamlaw10_LexNotes.mono_l : ∀ k, (∀ y0 y1 y2 y3, LeO (cofferdamlaw10_LexNotes.l0 k y0 y1 y2 y3) (cofferdamlaw10_LexNotes.l0 (k + 1) y0 y1 y2 y3)) ∧ (∀ y0 y1 y2 y3 y4, LeO (cofferdamlaw10_LexNotes.j1 k y0 y1 y2 y3 y4) (cofferdamlaw10_LexNotes.j1 (k + 1) y0 y1 y2 y3 y4)) ∧ (∀ y0 y1 y2 y3 y4 y5 y6 y7, LeO (cofferdamlaw10_LexNotes.l1 k y0 y1 y2 y3 y4 y5 y6 y7) (cofferdamlaw10_LexNotes.l1 (k + 1) y0 y1 y2 y3 y4 y5 y6 y7))
  | 0 => ⟨fun _ _ _ _ r h => by simp [cofferdamlaw10_LexNotes.l0] at h, fun _ _ _ _ _ r h => by simp [cofferdamlaw10_LexNotes.j1] at h, fun _ _ _ _ _ _ _ _ r h => by simp [cofferdamlaw10_LexNotes.l1] at h⟩
  | k + 1 => by
    obtain ⟨ih0, ih1, ih2⟩ := cofferdamlaw10_LexNotes.mono_l k
    refine ⟨?_, ?_, ?_⟩
    · intro y0 y1 y2 y3
      unfold cofferdamlaw10_LexNotes.l0
      repeat' first
      | (with_reducible exact ih0 _ _ _ _)
      | (with_reducible exact ih1 _ _ _ _ _)
      | (with_reducible exact ih2 _ _ _ _ _ _ _ _)
      | (with_reducible exact cofferdamlaw10_alive.mono _)
      | (with_reducible exact cofferdamlaw10_same.mono _ _ _)
      | (with_reducible exact lex_Scan.mono _ _)
      | (with_reducible exact LeO.refl _)
      | (with_reducible exact LeO.none _)
      | (with_reducible refine LeO.ite ?_ ?_)
      | (with_reducible refine LeO.bind ?_ (fun _ => ?_))
      | exact ih0 _ _ _ _
      | exact ih1 _ _ _ _ _
      | exact ih2 _ _ _ _ _ _ _ _
      | exact cofferdamlaw10_alive.mono _
      | exact cofferdamlaw10_same.mono _ _ _
      | exact lex_Scan.mono _ _
      | exact LeO.none _
      | refine LeO.ite ?_ ?_
      | refine LeO.bind ?_ (fun _ => ?_)
    · intro y0 y1 y2 y3 y4
      unfold cofferdamlaw10_LexNotes.j1
      repeat' first
      | (with_reducible exact ih0 _ _ _ _)
      | (with_reducible exact ih1 _ _ _ _ _)
      | (with_reducible exact ih2 _ _ _ _ _ _ _ _)
      | (with_reducible exact cofferdamlaw10_alive.mono _)
      | (with_reducible exact cofferdamlaw10_same.mono _ _ _)
      | (with_reducible exact lex_Scan.mono _ _)
      | (with_reducible exact LeO.refl _)
      | (with_reducible exact LeO.none _)
      | (with_reducible refine LeO.ite ?_ ?_)
      | (with_reducible refine LeO.bind ?_ (fun _ => ?_))
      | exact ih0 _ _ _ _
      | exact ih1 _ _ _ _ _
      | exact ih2 _ _ _ _ _ _ _ _
      | exact cofferdamlaw10_alive.mono _
      | exact cofferdamlaw10_same.mono _ _ _
      | exact lex_Scan.mono _ _
      | exact LeO.none _
      | refine LeO.ite ?_ ?_
      | refine LeO.bind ?_ (fun _ => ?_)
    · intro y0 y1 y2 y3 y4 y5 y6 y7
      unfold cofferdamlaw10_LexNotes.l1
      repeat' first
      | (with_reducible exact ih0 _ _ _ _)
      | (with_reducible exact ih1 _ _ _ _ _)
      | (with_reducible exact ih2 _ _ _ _ _ _ _ _)
      | (with_reducible exact cofferdamlaw10_alive.mono _)
      | (with_reducible exact cofferdamlaw10_same.mono _ _ _)
      | (with_reducible exact lex_Scan.mono _ _)
      | (with_reducible exact LeO.refl _)
      | (with_reducible exact LeO.none _)
      | (with_reducible refine LeO.ite ?_ ?_)
      | (with_reducible refine LeO.bind ?_ (fun _ => ?_))
      | exact ih0 _ _ _ _
      | exact ih1 _ _ _ _ _
      | exact ih2 _ _ _ _ _ _ _ _
      | exact cofferdamlaw10_alive.mono _
      | exact cofferdamlaw10_same.mono _ _ _
      | exact lex_Scan.mono _ _
      | exact LeO.none _
      | refine LeO.ite ?_ ?_
      | refine LeO.bind ?_ (fun _ => ?_)
theorem cofferdamlaw10_LexNotes.mono : ∀ a0 a1 k, LeO (cofferdamlaw10_LexNotes.f k a0 a1) (cofferdamlaw10_LexNotes.f (k + 1) a0 a1) := by
  intro a0 a1 k
  obtain ⟨ih0, ih1, ih2⟩ := cofferdamlaw10_LexNotes.mono_l k
  unfold cofferdamlaw10_LexNotes.f
  repeat' first
      | (with_reducible exact ih0 _ _ _ _)
      | (with_reducible exact ih1 _ _ _ _ _)
      | (with_reducible exact ih2 _ _ _ _ _ _ _ _)
      | (with_reducible exact cofferdamlaw10_alive.mono _)
      | (with_reducible exact cofferdamlaw10_same.mono _ _ _)
      | (with_reducible exact lex_Scan.mono _ _)
      | (with_reducible exact LeO.refl _)
      | (with_reducible exact LeO.none _)
      | (with_reducible refine LeO.ite ?_ ?_)
      | (with_reducible refine LeO.bind ?_ (fun _ => ?_))
      | exact ih0 _ _ _ _
      | exact ih1 _ _ _ _ _
      | exact ih2 _ _ _ _ _ _ _ _
      | exact cofferdamlaw10_alive.mono _
      | exact cofferdamlaw10_same.mono _ _ _
      | exact lex_Scan.mono _ _
      | exact LeO.none _
      | refine LeO.ite ?_ ?_
      | refine LeO.bind ?_ (fun _ => ?_)
set_option maxHeartbeats 8000000 in
set_option maxRecDepth 100000 in
theorem cofferdamlaw10_LexNotes.calls (k : Nat) (a0 : ByteArray) (a1 : ByteArray) (r : Bool) (w : World) (h : cofferdamlaw10_LexNotes.f k a0 a1 = some r) :
    Calls Try.prog 11 #[.string a0, .string a1] w fun e w' => e = .returned (.bool r) ∧ Below w.heap.size w w' := by
  have HB := Aside0.mk (Below.refl w.heap.size w)
  have H : (if (a0.size : Int) > 2000 then ((cofferdamlaw10_alive.f k).bind fun t188 => (some t188)) else (cofferdamlaw10_LexNotes.l0 k a0 a1 (⟨#[47, 47]⟩ : ByteArray) 0)) = some r := h
  clear h
  by_cases c3 : (a0.size : Int) > 2000
  · rw [if_pos c3] at H
    have c3b0 : decide (2000 < (a0.size : Int)) = true := decide_eq_true c3
    have c3b1 : decide (2000 < a0.size) = true := decide_eq_true (by omega)
    clear c3
    replace H := Option.bind_eq_some_iff.mp H
    obtain ⟨t188, A40, H⟩ := H
    replace H : (some t188) = some r := H
    have A4 := Aside0.mk A40
    clear A40
    obtain rfl := Option.some.inj H
    go_enter Try.func11, Try.ntmps11
    go_wp2_with (first | ((with_reducible refine gate_callee (f := 24) rfl ?_); refine goesL_ (some 19) rfl rfl Try.func24 (by kernel_rfl) rfl #[] rfl (by (try simp only [List.map_toArray, List.map_cons, List.map_nil]); first | done | rfl | (simp only [List.length_drop, List.length_take]; rfl)) ?_; (with_reducible refine (cofferdamlaw10_alive.calls k  t188 _ A4.out).mono ?_); rintro e w5 ⟨rfl, hb⟩; refine ⟨_, rfl, ?_⟩; have n0_ := Aside0.mk (below_step (by repeat (first | (with_reducible first | exact HB.out | apply below_alloc | apply pw_below_drewN | apply below_drew1) | exact HB.out)) hb); clear HB; have HB := n0_; clear n0_; (try clear hb); (try clear hb2); (try clear hk); (try clear hi)))
    go_ret
    exact ⟨by first | rfl | (simp [errW_none, errW_some] <;> rfl) | (simp [*, errW_none, errW_some] <;> rfl), by repeat (first | (with_reducible first | exact HB.out | apply below_alloc | apply pw_below_drewN | apply below_drew1) | exact HB.out)⟩
  · rw [if_neg c3] at H
    have c3b0 : decide (2000 < (a0.size : Int)) = false := decide_eq_false c3
    have c3b1 : decide (2000 < a0.size) = false := decide_eq_false (by omega)
    clear c3
    have H' := Aside0.mk H
    clear H
    go_enter Try.func11, Try.ntmps11
    go_wp2
    go_loopg [5, 6] k (fun kq v5 v6 w' => ∃ (x5_1 : ByteArray) (x6_1 : Int), v5 = .string x5_1 ∧ v6 = .int .i64 x6_1 ∧ Aside0 (cofferdamlaw10_LexNotes.l0 kq a0 a1 x5_1 x6_1 = some r) ∧ Aside0 (kq ≤ k) ∧ Aside0 (Below w.heap.size w w'))
    case atStart => exact ⟨((⟨#[47, 47]⟩ : ByteArray)), (0), (by first | rfl | (simp; done) | (simp [*]; done)), (by first | rfl | (simp; done) | (simp [*]; done)), H', ⟨Nat.le_refl _⟩, ⟨by repeat (first | (with_reducible first | exact HB.out | apply below_alloc | apply pw_below_drewN | apply below_drew1) | exact HB.out)⟩⟩
    case round =>
      clear H'
      try clear c1
      try clear c2
      try clear p2
      try clear c3
      try clear c3b0
      try clear c3b1
      obtain ⟨x5_1, x6_1, rfl, rfl, HA, HK1, HB⟩ := hrel
      cases gk with
      | zero => exact absurd HA.out (by simp [cofferdamlaw10_LexNotes.l0])
      | succ k1 =>
        have H := HA.out
        clear HA
        simp only [cofferdamlaw10_LexNotes.l0] at H
        have HC6 := Aside0.mk H
        clear H
        go_upto_region 5 with (fail)
        go_cut [27] (fun v27 wc => ∃ (kq : Nat) (x27_5 : Bool), v27 = .bool x27_5 ∧ Aside0 (cofferdamlaw10_LexNotes.j1 kq a0 a1 x5_1 x6_1 x27_5 = some r) ∧ Aside0 (kq ≤ k1) ∧ Aside0 (Below w.heap.size w wc))
        case first =>
          have H := HC6.out
          clear HC6
          by_cases c7 : x6_1 < (a1.size : Int)
          · rw [if_pos c7] at H
            have c7b0 : decide (x6_1 < (a1.size : Int)) = true := decide_eq_true c7
            clear c7
            (first | rw [c7b0] | (simp only [i64_w, i32_w]; rw [c7b0]) | skip)
            have H' := Aside0.mk H
            clear H
            go_wp2
            go_meet
            case rel => exact ⟨_, (decide (x6_1 < 100)), (by first | rfl | (simp; done) | (simp [*]; done)), H', ⟨by have := HK1.out; first | omega | exact Nat.le_refl _⟩, ⟨by repeat (first | (with_reducible first | exact HB.out | apply below_alloc | apply pw_below_drewN | apply below_drew1) | exact HB.out)⟩⟩
          · rw [if_neg c7] at H
            have c7b0 : decide (x6_1 < (a1.size : Int)) = false := decide_eq_false c7
            clear c7
            (first | rw [c7b0] | (simp only [i64_w, i32_w]; rw [c7b0]) | skip)
            have H' := Aside0.mk H
            clear H
            go_wp2
            go_meet
            case rel => exact ⟨_, (false), (by first | rfl | (simp; done) | (simp [*]; done)), H', ⟨by have := HK1.out; first | omega | exact Nat.le_refl _⟩, ⟨by repeat (first | (with_reducible first | exact HB.out | apply below_alloc | apply pw_below_drewN | apply below_drew1) | exact HB.out)⟩⟩
        case rest =>
          clear HC6
          try clear c1
          try clear c2
          try clear p2
          try clear c3
          try clear c3b0
          try clear c3b1
          try clear c7
          try clear c7b0
          try clear p2
          obtain ⟨kq, x27_5, rfl, HA, HJ5, HB⟩ := hcut
          cases kq with
          | zero => exact absurd HA.out (by simp [cofferdamlaw10_LexNotes.j1])
          | succ kj5 =>
            have H := HA.out
            clear HA
            simp only [cofferdamlaw10_LexNotes.j1] at H
            by_cases c8 : x27_5 = true
            · subst c8
              have H1 : (if 0 ≤ x6_1 then (if x6_1 < (a1.size : Int) then (if (bt a1 x6_1) = 10 then (cofferdamlaw10_LexNotes.l0 kj5 a0 a1 x5_1 (wrap64 (x6_1 + 1))) else (if x6_1 ≤ (wrap64 (x6_1 + 1)) then (if (wrap64 (x6_1 + 1)) ≤ (a1.size : Int) then (if x5_1.size + (a1.extract (x6_1 : Int).toNat ((wrap64 (x6_1 + 1)) : Int).toNat).size ≤ 9223372036854775807 then (cofferdamlaw10_LexNotes.l0 kj5 a0 a1 (x5_1 ++ (a1.extract (x6_1 : Int).toNat ((wrap64 (x6_1 + 1)) : Int).toNat)) (wrap64 (x6_1 + 1))) else (none)) else (none)) else (none))) else (none)) else (none)) = some r := by rw [if_pos rfl] at H; exact H
              clear H
              have H := H1
              clear H1
              by_cases c9 : 0 ≤ x6_1
              · rw [if_pos c9] at H
                have c9b0 : decide (0 ≤ x6_1) = true := decide_eq_true c9
                clear c9
                by_cases c10 : x6_1 < (a1.size : Int)
                · rw [if_pos c10] at H
                  have c10b0 : decide (x6_1 < (a1.size : Int)) = true := decide_eq_true c10
                  clear c10
                  by_cases c12 : (bt a1 x6_1) = 10
                  · rw [if_pos c12] at H
                    have c12b0 : ((bt a1 x6_1) == 10) = true := beq_iff_eq.mpr c12
                    have c12b1 : ((bt a1 x6_1) != 10) = false := bne_eq_false_iff_eq.mpr c12
                    clear c12
                    have H' := Aside0.mk H
                    clear H
                    have p11 : 0 ≤ (x6_1 : Int) := of_decide_eq_true (by first | (with_reducible assumption) | assumption)
                    have q11 : x6_1 < (a1.size : Int) := of_decide_eq_true (by first | (with_reducible assumption) | assumption)
                    have hx11 := bt_at a1 x6_1
                    replace p11 := eq_true p11
                    replace q11 := eq_true q11
                    go_wp2
                    go_roundg kj5
                    case measure => have := HK1.out; have := HJ5.out; omega
                    case rel => exact ⟨(x5_1), (wrap64 (x6_1 + 1)), (by first | rfl | (simp; done) | (simp [*]; done)), (by first | rfl | (simp; done) | (simp [*]; done)), H', ⟨by have := HK1.out; have := HJ5.out; omega⟩, ⟨by repeat (first | (with_reducible first | exact HB.out | apply below_alloc | apply pw_below_drewN | apply below_drew1) | exact HB.out)⟩⟩
                  · rw [if_neg c12] at H
                    have c12b0 : ((bt a1 x6_1) == 10) = false := beq_eq_false_iff_ne.mpr c12
                    have c12b1 : ((bt a1 x6_1) != 10) = true := bne_iff_ne.mpr c12
                    have c13b0 := eq_true (of_decide_eq_true (by first | (with_reducible assumption) | assumption) : 0 ≤ x6_1)
                    by_cases c14 : x6_1 ≤ (wrap64 (x6_1 + 1))
                    · rw [if_pos c14] at H
                      have c14b0 := eq_true c14
                      have c14b1 : decide (x6_1 ≤ (wrap64 (x6_1 + 1))) = true := decide_eq_true c14
                      by_cases c15 : (wrap64 (x6_1 + 1)) ≤ (a1.size : Int)
                      · rw [if_pos c15] at H
                        have c15b0 := eq_true c15
                        have c15b1 : decide ((wrap64 (x6_1 + 1)) ≤ (a1.size : Int)) = true := decide_eq_true c15
                        by_cases c16 : x5_1.size + (a1.extract (x6_1 : Int).toNat ((wrap64 (x6_1 + 1)) : Int).toNat).size ≤ 9223372036854775807
                        · rw [if_pos c16] at H
                          have c16b0 := eq_true c16
                          have c16b1 : decide (x5_1.size + (a1.extract (x6_1 : Int).toNat ((wrap64 (x6_1 + 1)) : Int).toNat).size ≤ 9223372036854775807) = true := decide_eq_true c16
                          try have c16b2 : (9223372036854775807 < x5_1.size + (a1.extract (x6_1 : Int).toNat ((wrap64 (x6_1 + 1)) : Int).toNat).size) = False := eq_false (Nat.not_lt.2 c16)
                          have H' := Aside0.mk H
                          clear H
                          have p11 : 0 ≤ (x6_1 : Int) := of_decide_eq_true (by first | (with_reducible assumption) | assumption)
                          have q11 : x6_1 < (a1.size : Int) := of_decide_eq_true (by first | (with_reducible assumption) | assumption)
                          have hx11 := bt_at a1 x6_1
                          replace p11 := eq_true p11
                          replace q11 := eq_true q11
                          go_wp2
                          go_roundg kj5
                          case measure => have := HK1.out; have := HJ5.out; omega
                          case rel => exact ⟨(x5_1 ++ (a1.extract (x6_1 : Int).toNat ((wrap64 (x6_1 + 1)) : Int).toNat)), (wrap64 (x6_1 + 1)), (by first | rfl | (simp; done) | (simp [*]; done)), (by first | rfl | (simp; done) | (simp [*]; done)), H', ⟨by have := HK1.out; have := HJ5.out; omega⟩, ⟨by repeat (first | (with_reducible first | exact HB.out | apply below_alloc | apply pw_below_drewN | apply below_drew1) | exact HB.out)⟩⟩
                        · rw [if_neg c16] at H
                          exact absurd H (by simp)
                      · rw [if_neg c15] at H
                        exact absurd H (by simp)
                    · rw [if_neg c14] at H
                      exact absurd H (by simp)
                · rw [if_neg c10] at H
                  exact absurd H (by simp)
              · rw [if_neg c9] at H
                exact absurd H (by simp)
            · replace c8 := Bool.eq_false_iff.mpr c8
              subst c8
              have H1 : (if x5_1.size + 1 ≤ 9223372036854775807 then (if (x5_1 ++ (⟨#[10]⟩ : ByteArray)).size + a0.size ≤ 9223372036854775807 then (if ((x5_1 ++ (⟨#[10]⟩ : ByteArray)) ++ a0).size + 1 ≤ 9223372036854775807 then (if (((x5_1 ++ (⟨#[10]⟩ : ByteArray)) ++ a0) ++ (⟨#[10]⟩ : ByteArray)).size + (x5_1 ++ (⟨#[10]⟩ : ByteArray)).size ≤ 9223372036854775807 then (if (((((x5_1 ++ (⟨#[10]⟩ : ByteArray)) ++ a0) ++ (⟨#[10]⟩ : ByteArray)) ++ (x5_1 ++ (⟨#[10]⟩ : ByteArray))).size : Int) > 2000 then ((cofferdamlaw10_alive.f kj5).bind fun t189 => (some t189)) else ((lex_Scan.f kj5 a0).bind fun bt190 => ((lex_Scan.f kj5 ((((x5_1 ++ (⟨#[10]⟩ : ByteArray)) ++ a0) ++ (⟨#[10]⟩ : ByteArray)) ++ (x5_1 ++ (⟨#[10]⟩ : ByteArray)))).bind fun bt195 => (cofferdamlaw10_LexNotes.l1 kj5 (x5_1 ++ (⟨#[10]⟩ : ByteArray)) bt190.1 bt190.2.1 bt190.2.2 bt195.1 bt195.2.1 bt195.2.2 0)))) else (none)) else (none)) else (none)) else (none)) = some r := by rw [if_neg (show ¬ (false = true) by decide)] at H; exact H
              clear H
              have H := H1
              clear H1
              by_cases c17 : x5_1.size + 1 ≤ 9223372036854775807
              · rw [if_pos c17] at H
                have c17b0 := eq_true c17
                have c17b1 : decide (x5_1.size + 1 ≤ 9223372036854775807) = true := decide_eq_true c17
                try have c17b2 : (9223372036854775807 < x5_1.size + 1) = False := eq_false (Nat.not_lt.2 c17)
                by_cases c18 : (x5_1 ++ (⟨#[10]⟩ : ByteArray)).size + a0.size ≤ 9223372036854775807
                · rw [if_pos c18] at H
                  have c18b0 := eq_true c18
                  have c18b1 : decide ((x5_1 ++ (⟨#[10]⟩ : ByteArray)).size + a0.size ≤ 9223372036854775807) = true := decide_eq_true c18
                  try have c18b2 : (9223372036854775807 < (x5_1 ++ (⟨#[10]⟩ : ByteArray)).size + a0.size) = False := eq_false (Nat.not_lt.2 c18)
                  have c18s := c18
                  (try simp only [ByteArray.size_append, show (⟨#[10]⟩ : ByteArray).size = 1 from rfl] at c18s)
                  (try have c18u := decide_eq_true c18s)
                  (try have c18v := eq_false (Nat.not_lt.2 c18s))
                  clear c18s
                  by_cases c19 : ((x5_1 ++ (⟨#[10]⟩ : ByteArray)) ++ a0).size + 1 ≤ 9223372036854775807
                  · rw [if_pos c19] at H
                    have c19b0 := eq_true c19
                    have c19b1 : decide (((x5_1 ++ (⟨#[10]⟩ : ByteArray)) ++ a0).size + 1 ≤ 9223372036854775807) = true := decide_eq_true c19
                    try have c19b2 : (9223372036854775807 < ((x5_1 ++ (⟨#[10]⟩ : ByteArray)) ++ a0).size + 1) = False := eq_false (Nat.not_lt.2 c19)
                    have c19s := c19
                    (try simp only [ByteArray.size_append, show (⟨#[10]⟩ : ByteArray).size = 1 from rfl] at c19s)
                    (try have c19u := decide_eq_true c19s)
                    (try have c19v := eq_false (Nat.not_lt.2 c19s))
                    clear c19s
                    by_cases c20 : (((x5_1 ++ (⟨#[10]⟩ : ByteArray)) ++ a0) ++ (⟨#[10]⟩ : ByteArray)).size + (x5_1 ++ (⟨#[10]⟩ : ByteArray)).size ≤ 9223372036854775807
                    · rw [if_pos c20] at H
                      have c20b0 := eq_true c20
                      have c20b1 : decide ((((x5_1 ++ (⟨#[10]⟩ : ByteArray)) ++ a0) ++ (⟨#[10]⟩ : ByteArray)).size + (x5_1 ++ (⟨#[10]⟩ : ByteArray)).size ≤ 9223372036854775807) = true := decide_eq_true c20
                      try have c20b2 : (9223372036854775807 < (((x5_1 ++ (⟨#[10]⟩ : ByteArray)) ++ a0) ++ (⟨#[10]⟩ : ByteArray)).size + (x5_1 ++ (⟨#[10]⟩ : ByteArray)).size) = False := eq_false (Nat.not_lt.2 c20)
                      have c20s := c20
                      (try simp only [ByteArray.size_append, show (⟨#[10]⟩ : ByteArray).size = 1 from rfl] at c20s)
                      (try have c20u := decide_eq_true c20s)
                      (try have c20v := eq_false (Nat.not_lt.2 c20s))
                      clear c20s
                      by_cases c21 : (((((x5_1 ++ (⟨#[10]⟩ : ByteArray)) ++ a0) ++ (⟨#[10]⟩ : ByteArray)) ++ (x5_1 ++ (⟨#[10]⟩ : ByteArray))).size : Int) > 2000
                      · rw [if_pos c21] at H
                        have c21b0 : decide (2000 < (((((x5_1 ++ (⟨#[10]⟩ : ByteArray)) ++ a0) ++ (⟨#[10]⟩ : ByteArray)) ++ (x5_1 ++ (⟨#[10]⟩ : ByteArray))).size : Int)) = true := decide_eq_true c21
                        have c21b0s := c21b0
                        (try push_cast [ByteArray.size_append, show (⟨#[10]⟩ : ByteArray).size = 1 from rfl] at c21b0s)
                        have c21b1 : decide (2000 < ((((x5_1 ++ (⟨#[10]⟩ : ByteArray)) ++ a0) ++ (⟨#[10]⟩ : ByteArray)) ++ (x5_1 ++ (⟨#[10]⟩ : ByteArray))).size) = true := decide_eq_true (by omega)
                        clear c21
                        replace H := Option.bind_eq_some_iff.mp H
                        obtain ⟨t189, A220, H⟩ := H
                        replace H : (some t189) = some r := H
                        have A22 := Aside0.mk A220
                        clear A220
                        obtain rfl := Option.some.inj H
                        go_wp2_with (first | ((with_reducible refine gate_callee (f := 24) rfl ?_); refine goesL_ (some 52) rfl rfl Try.func24 (by kernel_rfl) rfl #[] rfl (by (try simp only [List.map_toArray, List.map_cons, List.map_nil]); first | done | rfl | (simp only [List.length_drop, List.length_take]; rfl)) ?_; (with_reducible refine (cofferdamlaw10_alive.calls kj5  t189 _ A22.out).mono ?_); rintro e w23 ⟨rfl, hb⟩; refine ⟨_, rfl, ?_⟩; have n0_ := Aside0.mk (below_step (by repeat (first | (with_reducible first | exact HB.out | apply below_alloc | apply pw_below_drewN | apply below_drew1) | exact HB.out)) hb); clear HB; have HB := n0_; clear n0_; (try clear hb); (try clear hb2); (try clear hk); (try clear hi)))
                        go_ret
                        exact ⟨by first | rfl | (simp [errW_none, errW_some] <;> rfl) | (simp [*, errW_none, errW_some] <;> rfl), by repeat (first | (with_reducible first | exact HB.out | apply below_alloc | apply pw_below_drewN | apply below_drew1) | exact HB.out)⟩
                      · rw [if_neg c21] at H
                        have c21b0 : decide (2000 < (((((x5_1 ++ (⟨#[10]⟩ : ByteArray)) ++ a0) ++ (⟨#[10]⟩ : ByteArray)) ++ (x5_1 ++ (⟨#[10]⟩ : ByteArray))).size : Int)) = false := decide_eq_false c21
                        have c21b0s := c21b0
                        (try push_cast [ByteArray.size_append, show (⟨#[10]⟩ : ByteArray).size = 1 from rfl] at c21b0s)
                        have c21b1 : decide (2000 < ((((x5_1 ++ (⟨#[10]⟩ : ByteArray)) ++ a0) ++ (⟨#[10]⟩ : ByteArray)) ++ (x5_1 ++ (⟨#[10]⟩ : ByteArray))).size) = false := decide_eq_false (by omega)
                        clear c21
                        replace H := Option.bind_eq_some_iff.mp H
                        obtain ⟨⟨t190, t191, t192⟩, A240, H⟩ := H
                        replace H : ((lex_Scan.f kj5 ((((x5_1 ++ (⟨#[10]⟩ : ByteArray)) ++ a0) ++ (⟨#[10]⟩ : ByteArray)) ++ (x5_1 ++ (⟨#[10]⟩ : ByteArray)))).bind fun bt195 => (cofferdamlaw10_LexNotes.l1 kj5 (x5_1 ++ (⟨#[10]⟩ : ByteArray)) t190 t191 t192 bt195.1 bt195.2.1 bt195.2.2 0)) = some r := H
                        have A24 := Aside0.mk A240
                        clear A240
                        replace H := Option.bind_eq_some_iff.mp H
                        obtain ⟨⟨t195, t196, t197⟩, A250, H⟩ := H
                        replace H : (cofferdamlaw10_LexNotes.l1 kj5 (x5_1 ++ (⟨#[10]⟩ : ByteArray)) t190 t191 t192 t195 t196 t197 0) = some r := H
                        have A25 := Aside0.mk A250
                        clear A250
                        have H' := Aside0.mk H
                        clear H
                        go_wp2_with (first | ((with_reducible refine gate_callee (f := 23) rfl ?_); refine goesL_ (some 55) rfl rfl Try.func23 (by kernel_rfl) rfl #[.string a0] rfl (by (try simp only [List.map_toArray, List.map_cons, List.map_nil]); first | done | rfl | (simp only [List.length_drop, List.length_take]; rfl)) ?_; (with_reducible refine (lex_Scan.calls kj5 a0 t190 t191 t192 _ A24.out).mono ?_); rintro e w26 ⟨v193, rfl, ho0, hb⟩; refine ⟨_, rfl, ?_⟩; have n0_ := Aside0.mk (Kd.R_lower ho0 (below_size (by repeat (first | (with_reducible first | exact HB.out | apply below_alloc | apply pw_below_drewN | apply below_drew1) | exact HB.out)))); have n1_ := Aside0.mk (below_step (by repeat (first | (with_reducible first | exact HB.out | apply below_alloc | apply pw_below_drewN | apply below_drew1) | exact HB.out)) hb); clear HB; have HO194 := n0_; have HB := n1_; clear n0_ n1_; (try clear hb); (try clear hb2); (try clear hk); (try clear hi); (try clear ho0)) | ((with_reducible refine gate_callee (f := 23) rfl ?_); refine goesL_ (some 61) rfl rfl Try.func23 (by kernel_rfl) rfl #[.string ((((x5_1 ++ (⟨#[10]⟩ : ByteArray)) ++ a0) ++ (⟨#[10]⟩ : ByteArray)) ++ (x5_1 ++ (⟨#[10]⟩ : ByteArray)))] rfl (by (try simp only [List.map_toArray, List.map_cons, List.map_nil]); first | done | rfl | (simp only [List.length_drop, List.length_take]; rfl)) ?_; (with_reducible refine (lex_Scan.calls kj5 ((((x5_1 ++ (⟨#[10]⟩ : ByteArray)) ++ a0) ++ (⟨#[10]⟩ : ByteArray)) ++ (x5_1 ++ (⟨#[10]⟩ : ByteArray))) t195 t196 t197 _ A25.out).mono ?_); rintro e w27 ⟨v198, rfl, ho0, hb⟩; refine ⟨_, rfl, ?_⟩; have n0_ := Aside0.mk (Kd.R_elder' (by (with_reducible repeat (first | apply Kd.R_alloc | apply Kd.R_drewN | apply Kd.R_drew)); exact HO194.out) (Kd.R_base ho0) hb); have n1_ := Aside0.mk (Kd.R_lower (Kd.R_new' ho0 (Kd.R_lt (by (with_reducible repeat (first | apply Kd.R_alloc | apply Kd.R_drewN | apply Kd.R_drew)); exact HO194.out))) (below_size (by repeat (first | (with_reducible first | exact HB.out | apply below_alloc | apply pw_below_drewN | apply below_drew1) | exact HB.out)))); have n2_ := Aside0.mk (below_step (by repeat (first | (with_reducible first | exact HB.out | apply below_alloc | apply pw_below_drewN | apply below_drew1) | exact HB.out)) hb); clear HO194; clear HB; have HO194 := n0_; have HO199 := n1_; have HB := n2_; clear n0_ n1_ n2_; (try clear hb); (try clear hb2); (try clear hk); (try clear hi); (try clear ho0)))
                        go_loopg [14] kj5 (fun kq v14 w' => ∃ (x8_3 : List (S41)) (x14_3 : Int), v14 = .int .i64 x14_3 ∧ Aside0 (cofferdamlaw10_LexNotes.l1 kq (x5_1 ++ (⟨#[10]⟩ : ByteArray)) x8_3 t191 t192 t195 t196 t197 x14_3 = some r) ∧ Aside0 (kq ≤ kj5) ∧ Aside0 (Kd.R k41 41 w' w.heap.size (fun k_ => some k_ ≠ (v198 : Value).ownBlock) v193 x8_3) ∧ Aside0 (Kd.R k41 41 w' w.heap.size (fun k_ => some k_ ≠ (v193 : Value).ownBlock) v198 t195) ∧ Aside0 (Below w.heap.size w w'))
                        case atStart => exact ⟨(t190), (0), (by first | rfl | (simp; done) | (simp [*]; done)), H', ⟨Nat.le_refl _⟩, ⟨by (with_reducible repeat (first | apply Kd.R_alloc | apply Kd.R_drewN | apply Kd.R_drew)); exact Kd.R_mono HO194.out (fun _ hk => hk.2)⟩, ⟨by (with_reducible repeat (first | apply Kd.R_alloc | apply Kd.R_drewN | apply Kd.R_drew)); exact Kd.R_mono HO199.out (fun _ hk => hk.2)⟩, ⟨by repeat (first | (with_reducible first | exact HB.out | apply below_alloc | apply pw_below_drewN | apply below_drew1) | exact HB.out)⟩⟩
                        case round =>
                          clear H'
                          try clear c1
                          try clear p1
                          try clear q1
                          try clear hx1
                          try clear c2
                          try clear p2
                          try clear c3
                          try clear c3b0
                          try clear c3b1
                          try clear p6
                          try clear c7
                          try clear c7b0
                          try clear c8
                          try clear c9
                          try clear c9b0
                          try clear c10
                          try clear c10b0
                          try clear c11
                          try clear p11
                          try clear q11
                          try clear hx11
                          try clear c12
                          try clear c12b0
                          try clear c12b1
                          try clear c13
                          try clear c13b0
                          try clear c14
                          try clear c14b0
                          try clear c14b1
                          try clear c15
                          try clear c15b0
                          try clear c15b1
                          try clear c16
                          try clear c16b0
                          try clear c16b1
                          try clear c16b2
                          try clear c17
                          try clear c17b0
                          try clear c17b1
                          try clear c17b2
                          try clear c18
                          try clear c18b0
                          try clear c18b1
                          try clear c18b2
                          try clear c19
                          try clear c19b0
                          try clear c19b1
                          try clear c19b2
                          try clear c20
                          try clear c20b0
                          try clear c20b1
                          try clear c20b2
                          try clear c21
                          try clear c21b0
                          try clear c21b1
                          try clear c23
                          try clear c24
                          try clear p11
                          try clear p2
                          try clear q11
                          obtain ⟨x8_3, x14_3, rfl, HA, HK3, HO_8, HO_11, HB⟩ := hrel
                          cases gk with
                          | zero => exact absurd HA.out (by simp [cofferdamlaw10_LexNotes.l1])
                          | succ k3 =>
                            have H := HA.out
                            clear HA
                            simp only [cofferdamlaw10_LexNotes.l1] at H
                            by_cases c28 : x14_3 < (x8_3.length : Int)
                            · rw [if_pos c28] at H
                              have c28b0 : decide (x14_3 < (x8_3.length : Int)) = true := decide_eq_true c28
                              clear c28
                              by_cases c29 : 0 ≤ x14_3
                              · rw [if_pos c29] at H
                                have c29b0 : decide (0 ≤ x14_3) = true := decide_eq_true c29
                                clear c29
                                obtain ⟨y201, hy201⟩ : ∃ y_ : List (S41), y_ = (x8_3.set (x14_3 : Int).toNat (⟨(rd_T41 x8_3 x14_3).f0, (rd_T41 x8_3 x14_3).f1, (rd_T41 x8_3 x14_3).f2, wrap64 (((rd_T41 x8_3 x14_3).f3) + ((x5_1 ++ (⟨#[10]⟩ : ByteArray)).size : Int))⟩ : S41)) := ⟨_, rfl⟩
                                replace H : (cofferdamlaw10_LexNotes.l1 k3 (x5_1 ++ (⟨#[10]⟩ : ByteArray)) y201 t191 t192 t195 t196 t197 (wrap64 (x14_3 + 1))) = some r := by first | (rw [hy201]; with_reducible exact H) | (have H2_ := (Option.bind_some _ _).symm.trans H; rw [hy201]; with_reducible exact H2_) | (have H2_ := (Option.bind_some _ _).symm.trans H; with_reducible exact H2_) | with_reducible exact H | (rw [hy201]; exact H) | exact H
                                have Ny201 := Aside0.mk hy201
                                clear hy201
                                have H' := Aside0.mk H
                                clear H
                                obtain ⟨Ao31, co31, eo31⟩ := Kd.R_slice HO_8.out
                                subst eo31
                                have p200 : 0 ≤ (x14_3 : Int) := of_decide_eq_true (by first | (with_reducible assumption) | assumption)
                                have q200 : x14_3 < (x8_3.length : Int) := of_decide_eq_true (by first | (with_reducible assumption) | assumption)
                                obtain ⟨ad200, e200, hx200_0, hx200_1, hx200_2, hx200_3⟩ := at_T41 (Kd.R_reads' HO_8.out).2.2 x14_3 p200 q200
                                cases e200
                                replace p200 := eq_true p200
                                replace q200 := eq_true q200
                                have p30 : 0 ≤ (x14_3 : Int) := of_decide_eq_true (by first | (with_reducible assumption) | assumption)
                                have q30 : (x14_3 : Int) < ((x8_3.length : Int) : Int) := of_decide_eq_true (by first | (with_reducible assumption) | assumption)
                                obtain ⟨go30, co30, eo30, gb30, gl30, cl30, HG30⟩ := Kd.R_form HO_8.out (by omega)
                                (first | cases eo30 | (injection eo30 with ea_ en_ ec_; (first | subst ea_ | (injection ea_ with ea_; subst ea_)); subst ec_; clear en_))
                                have GB30 := Aside0.mk gb30
                                have GG30 := Aside0.mk HG30
                                clear gb30 gl30 HG30
                                (first | simp only [add_plain] at hx200_0 | skip)
                                (first | simp only [add_plain] at hx200_1 | skip)
                                (first | simp only [add_plain] at hx200_2 | skip)
                                (first | simp only [add_plain] at hx200_3 | skip)
                                obtain ⟨ce30, hcl30, hM30, hcc30, hfr30⟩ := Kd.R_elem HO_8.out z41 (x14_3 : Int) p30 q30
                                obtain rfl := k41_openM hM30
                                have hx30_0 : wr.cell? ⟨go30, (x14_3 : Int).toNat * 4, none⟩ = some (.int .i64 ((rd_T41 x8_3 x14_3).f0)) := hcc30 0 _ rfl
                                have hx30_1 : wr.cell? ⟨go30, (x14_3 : Int).toNat * 4 + 1, none⟩ = some (.string ((rd_T41 x8_3 x14_3).f1)) := hcc30 1 _ rfl
                                have hx30_2 : wr.cell? ⟨go30, (x14_3 : Int).toNat * 4 + 2, none⟩ = some (.int .i64 ((rd_T41 x8_3 x14_3).f2)) := hcc30 2 _ rfl
                                have hx30_3 : wr.cell? ⟨go30, (x14_3 : Int).toNat * 4 + 3, none⟩ = some (.int .i64 ((rd_T41 x8_3 x14_3).f3)) := hcc30 3 _ rfl
                                have hf30_0 : wr.frozen? ⟨go30, (x14_3 : Int).toNat * 4, none⟩ = false := hfr30 0
                                have hf30_1 : wr.frozen? ⟨go30, (x14_3 : Int).toNat * 4 + 1, none⟩ = false := hfr30 1
                                have hf30_2 : wr.frozen? ⟨go30, (x14_3 : Int).toNat * 4 + 2, none⟩ = false := hfr30 2
                                have hf30_3 : wr.frozen? ⟨go30, (x14_3 : Int).toNat * 4 + 3, none⟩ = false := hfr30 3
                                clear hcl30 hcc30 hfr30 hM30
                                replace p30 := eq_true p30
                                replace q30 := eq_true q30
                                have HX32 := Aside0.mk (show Kd.R k41 41 wr w.heap.size (fun k_ => some k_ ≠ (v198 : Value).ownBlock) (.slice (some ⟨go30, 0, none⟩) x8_3.length co31) x8_3 from (by (with_reducible repeat (first | apply Kd.R_alloc | apply Kd.R_drewN | apply Kd.R_drew)); exact HO_8.out))
                                obtain ⟨ce32, hcl32, hM32, hcc32, hfr32⟩ := Kd.R_elem HX32.out z41 (x14_3 : Int) (of_decide_eq_true (by first | (with_reducible assumption) | assumption)) (by have h_ : (x14_3 : Int) < ((x8_3.length : Int) : Int) := of_decide_eq_true (by first | (with_reducible assumption) | assumption); first | exact h_ | (have e_ := (Kd.R_reads' HO_8.out).1; omega) | simpa using h_)
                                obtain rfl := k41_openM hM32
                                have HP32 := Kd.R_seg HX32.out (x14_3 : Int) (of_decide_eq_true (by first | (with_reducible assumption) | assumption)) (by have h_ : (x14_3 : Int) < ((x8_3.length : Int) : Int) := of_decide_eq_true (by first | (with_reducible assumption) | assumption); first | exact h_ | (have e_ := (Kd.R_reads' HO_8.out).1; omega) | simpa using h_) (seg := [.int .i64 (wrap64 (((rd_T41 x8_3 x14_3).f3) + ((x5_1 ++ (⟨#[10]⟩ : ByteArray)).size : Int)))]) (j := 3) hcl32 hcc32 (show 4 ≤ 4 from by decide) (x' := (⟨(rd_T41 x8_3 x14_3).f0, (rd_T41 x8_3 x14_3).f1, (rd_T41 x8_3 x14_3).f2, wrap64 (((rd_T41 x8_3 x14_3).f3) + ((x5_1 ++ (⟨#[10]⟩ : ByteArray)).size : Int))⟩ : S41)) (k41_mkM _ _ _ (⟨(rd_T41 x8_3 x14_3).f0, (rd_T41 x8_3 x14_3).f1, (rd_T41 x8_3 x14_3).f2, wrap64 (((rd_T41 x8_3 x14_3).f3) + ((x5_1 ++ (⟨#[10]⟩ : ByteArray)).size : Int))⟩ : S41) ) (fun _ hk => hk)
                                have hx32_3 := hcc32 3 _ rfl
                                (try simp only [show (k41).sz = 4 from rfl, Nat.mul_one, Nat.add_zero] at hx32_3)
                                have hf32_3 := hfr32 3
                                (try simp only [show (k41).sz = 4 from rfl, Nat.mul_one, Nat.add_zero] at hf32_3)
                                clear hcl32 hcc32 hfr32 hM32
                                go_wp2_with (first | ((with_reducible refine gate_store (t := 3) (p := 82) rfl ?_); refine store_event (t := 3) (p := 82) (v := ?vo_w33) (w1 := (wr.setCell ⟨go30, (x14_3 : Int).toNat * 4 + 3, none⟩ (.int .i64 (wrap64 (((rd_T41 x8_3 x14_3).f3) + ((x5_1 ++ (⟨#[10]⟩ : ByteArray)).size : Int)))))) ?hg ?ho ?hn ?hr ?_; (case ho => rfl); (case hg => rfl); (case hn => rfl); (case hr => first | (go_simp; done) | (go_simp; rfl)); intro w33 hw; have hg : wr.grownBy w33 (some go30) := (by rw [hw]; exact HP32.2); have hp_ : Kd.R k41 41 w33 w.heap.size (fun k_ => some k_ ≠ (v198 : Value).ownBlock) (.slice (some ⟨go30, 0, none⟩) x8_3.length co31) y201 := (by rw [hw, Ny201.out]; exact HP32.1); clear HP32; have n0_ := Aside0.mk (hp_); have n1_ := Aside0.mk (Kd.R_after (v := (.slice (some ⟨go30, 0, none⟩) x8_3.length co31)) (v1 := (.slice (some ⟨go30, 0, none⟩) x8_3.length co31)) (ok := (fun _ => True)) (by (with_reducible repeat (first | apply Kd.R_alloc | apply Kd.R_drewN | apply Kd.R_drew)); exact Kd.R_mono HO_11.out (fun _ hk => ⟨trivial, hk⟩)) hg (.inl rfl)); have n2_ := Aside0.mk ((by rw [hw]; exact below_set (HB.out) GB30.out : Below w.heap.size w w33)); clear HO_8; clear HO_11; clear HB; have HO_8 := n0_; have HO_11 := n1_; have HB := n2_; clear n0_ n1_ n2_; clear hg hw hp_))
                                go_roundg k3
                                case measure => have := HK1.out; have := HJ5.out; have := HK3.out; omega
                                case rel => exact ⟨(y201), (wrap64 (x14_3 + 1)), (by first | rfl | (simp; done) | (simp [*]; done)), H', ⟨by have := HK1.out; have := HJ5.out; have := HK3.out; omega⟩, ⟨by (with_reducible repeat (first | apply Kd.R_alloc | apply Kd.R_drewN | apply Kd.R_drew)); exact HO_8.out⟩, ⟨by (with_reducible repeat (first | apply Kd.R_alloc | apply Kd.R_drewN | apply Kd.R_drew)); exact Kd.R_mono HO_11.out (fun _ hk => hk.2)⟩, ⟨by repeat (first | (with_reducible first | exact HB.out | apply below_alloc | apply pw_below_drewN | apply below_drew1) | exact HB.out)⟩⟩
                              · rw [if_neg c29] at H
                                exact absurd H (by simp)
                            · rw [if_neg c28] at H
                              have c28b0 : decide (x14_3 < (x8_3.length : Int)) = false := decide_eq_false c28
                              clear c28
                              replace H := Option.bind_eq_some_iff.mp H
                              obtain ⟨t202, A340, H⟩ := H
                              replace H : ((cofferdamlaw10_alive.f k3).bind fun t203 => (if t203 = true then (if t202 = true then (if t191 = t196 then (if t191 = 0 then (if t197 = (-1) then (some true) else (some false)) else (some (t197 == (wrap64 (t192 + ((x5_1 ++ (⟨#[10]⟩ : ByteArray)).size : Int)))))) else (some false)) else (some false)) else (some false))) = some r := H
                              have A34 := Aside0.mk A340
                              clear A340
                              replace H := Option.bind_eq_some_iff.mp H
                              obtain ⟨t203, A350, H⟩ := H
                              replace H : (if t203 = true then (if t202 = true then (if t191 = t196 then (if t191 = 0 then (if t197 = (-1) then (some true) else (some false)) else (some (t197 == (wrap64 (t192 + ((x5_1 ++ (⟨#[10]⟩ : ByteArray)).size : Int)))))) else (some false)) else (some false)) else (some false)) = some r := H
                              have A35 := Aside0.mk A350
                              clear A350
                              by_cases c36 : t203 = true
                              · subst c36
                                have H1 : (if t202 = true then (if t191 = t196 then (if t191 = 0 then (if t197 = (-1) then (some true) else (some false)) else (some (t197 == (wrap64 (t192 + ((x5_1 ++ (⟨#[10]⟩ : ByteArray)).size : Int)))))) else (some false)) else (some false)) = some r := by rw [if_pos rfl] at H; exact H
                                clear H
                                have H := H1
                                clear H1
                                by_cases c37 : t202 = true
                                · subst c37
                                  have H1 : (if t191 = t196 then (if t191 = 0 then (if t197 = (-1) then (some true) else (some false)) else (some (t197 == (wrap64 (t192 + ((x5_1 ++ (⟨#[10]⟩ : ByteArray)).size : Int)))))) else (some false)) = some r := by rw [if_pos rfl] at H; exact H
                                  clear H
                                  have H := H1
                                  clear H1
                                  by_cases c38 : t191 = t196
                                  · rw [if_pos c38] at H
                                    have c38b0 : (t191 == t196) = true := beq_iff_eq.mpr c38
                                    have c38b1 : (t191 != t196) = false := bne_eq_false_iff_eq.mpr c38
                                    clear c38
                                    by_cases c39 : t191 = 0
                                    · rw [if_pos c39] at H
                                      have c39b0 : (t191 == 0) = true := beq_iff_eq.mpr c39
                                      have c39b1 : (t191 != 0) = false := bne_eq_false_iff_eq.mpr c39
                                      clear c39
                                      by_cases c40 : t197 = (-1)
                                      · rw [if_pos c40] at H
                                        have c40b0 : (t197 == (-1)) = true := beq_iff_eq.mpr c40
                                        have c40b1 : (t197 != (-1)) = false := bne_eq_false_iff_eq.mpr c40
                                        clear c40
                                        obtain rfl := Option.some.inj H
                                        obtain ⟨Ao41, co41, eo41⟩ := Kd.R_slice HO_8.out
                                        subst eo41
                                        obtain ⟨Ao42, co42, eo42⟩ := Kd.R_slice HO_11.out
                                        subst eo42
                                        go_wp2_with (first | ((with_reducible refine gate_callee (f := 26) rfl ?_); refine goesL_ (some 85) rfl rfl Try.func26 (by kernel_rfl) rfl #[.slice Ao41 x8_3.length co41, .slice Ao42 t195.length co42] rfl (by (try simp only [List.map_toArray, List.map_cons, List.map_nil]); first | done | rfl | (simp only [List.length_drop, List.length_take]; rfl)) ?_; (with_reducible refine (cofferdamlaw10_same.calls k3 _ _ x8_3 _ _ t195 true _ ?side1 ?side2 ?side3 ?side4 A34.out).mono ?_); (case side1 => repeat (first | exact (Kd.R_reads' HO_8.out).2.2 | (with_reducible refine Kd.C_alloc ?_ _) | (with_reducible refine Kd.C_drewN ?_ _) | (with_reducible refine Kd.C_drew ?_))); (case side2 => exact (Kd.R_reads' HO_8.out).2.1); (case side3 => repeat (first | exact (Kd.R_reads' HO_11.out).2.2 | (with_reducible refine Kd.C_alloc ?_ _) | (with_reducible refine Kd.C_drewN ?_ _) | (with_reducible refine Kd.C_drew ?_))); (case side4 => exact (Kd.R_reads' HO_11.out).2.1); rintro e w' ⟨rfl, ⟨nd, rfl⟩⟩; refine ⟨_, rfl, ?_⟩) | ((with_reducible refine gate_callee (f := 24) rfl ?_); refine goesL_ (some 86) rfl rfl Try.func24 (by kernel_rfl) rfl #[] rfl (by (try simp only [List.map_toArray, List.map_cons, List.map_nil]); first | done | rfl | (simp only [List.length_drop, List.length_take]; rfl)) ?_; (with_reducible refine (cofferdamlaw10_alive.calls k3  true _ A35.out).mono ?_); rintro e w43 ⟨rfl, hb⟩; refine ⟨_, rfl, ?_⟩; have n0_ := Aside0.mk (Kd.R_below (by (with_reducible repeat (first | apply Kd.R_alloc | apply Kd.R_drewN | apply Kd.R_drew)); exact HO_8.out) hb); have n1_ := Aside0.mk (Kd.R_below (by (with_reducible repeat (first | apply Kd.R_alloc | apply Kd.R_drewN | apply Kd.R_drew)); exact HO_11.out) hb); have n2_ := Aside0.mk (below_step (by repeat (first | (with_reducible first | exact HB.out | apply below_alloc | apply pw_below_drewN | apply below_drew1) | exact HB.out)) hb); clear HO_8; clear HO_11; clear HB; have HO_8 := n0_; have HO_11 := n1_; have HB := n2_; clear n0_ n1_ n2_; (try clear hb); (try clear hb2); (try clear hk); (try clear hi)))
                                        go_ret
                                        exact ⟨by first | rfl | (simp [errW_none, errW_some] <;> rfl) | (simp [*, errW_none, errW_some] <;> rfl), by repeat (first | (with_reducible first | exact HB.out | apply below_alloc | apply pw_below_drewN | apply below_drew1) | exact HB.out)⟩
                                      · rw [if_neg c40] at H
                                        have c40b0 : (t197 == (-1)) = false := beq_eq_false_iff_ne.mpr c40
                                        have c40b1 : (t197 != (-1)) = true := bne_iff_ne.mpr c40
                                        obtain rfl := Option.some.inj H
                                        obtain ⟨Ao44, co44, eo44⟩ := Kd.R_slice HO_8.out
                                        subst eo44
                                        obtain ⟨Ao45, co45, eo45⟩ := Kd.R_slice HO_11.out
                                        subst eo45
                                        go_wp2_with (first | ((with_reducible refine gate_callee (f := 26) rfl ?_); refine goesL_ (some 85) rfl rfl Try.func26 (by kernel_rfl) rfl #[.slice Ao44 x8_3.length co44, .slice Ao45 t195.length co45] rfl (by (try simp only [List.map_toArray, List.map_cons, List.map_nil]); first | done | rfl | (simp only [List.length_drop, List.length_take]; rfl)) ?_; (with_reducible refine (cofferdamlaw10_same.calls k3 _ _ x8_3 _ _ t195 true _ ?side1 ?side2 ?side3 ?side4 A34.out).mono ?_); (case side1 => repeat (first | exact (Kd.R_reads' HO_8.out).2.2 | (with_reducible refine Kd.C_alloc ?_ _) | (with_reducible refine Kd.C_drewN ?_ _) | (with_reducible refine Kd.C_drew ?_))); (case side2 => exact (Kd.R_reads' HO_8.out).2.1); (case side3 => repeat (first | exact (Kd.R_reads' HO_11.out).2.2 | (with_reducible refine Kd.C_alloc ?_ _) | (with_reducible refine Kd.C_drewN ?_ _) | (with_reducible refine Kd.C_drew ?_))); (case side4 => exact (Kd.R_reads' HO_11.out).2.1); rintro e w' ⟨rfl, ⟨nd, rfl⟩⟩; refine ⟨_, rfl, ?_⟩) | ((with_reducible refine gate_callee (f := 24) rfl ?_); refine goesL_ (some 86) rfl rfl Try.func24 (by kernel_rfl) rfl #[] rfl (by (try simp only [List.map_toArray, List.map_cons, List.map_nil]); first | done | rfl | (simp only [List.length_drop, List.length_take]; rfl)) ?_; (with_reducible refine (cofferdamlaw10_alive.calls k3  true _ A35.out).mono ?_); rintro e w46 ⟨rfl, hb⟩; refine ⟨_, rfl, ?_⟩; have n0_ := Aside0.mk (Kd.R_below (by (with_reducible repeat (first | apply Kd.R_alloc | apply Kd.R_drewN | apply Kd.R_drew)); exact HO_8.out) hb); have n1_ := Aside0.mk (Kd.R_below (by (with_reducible repeat (first | apply Kd.R_alloc | apply Kd.R_drewN | apply Kd.R_drew)); exact HO_11.out) hb); have n2_ := Aside0.mk (below_step (by repeat (first | (with_reducible first | exact HB.out | apply below_alloc | apply pw_below_drewN | apply below_drew1) | exact HB.out)) hb); clear HO_8; clear HO_11; clear HB; have HO_8 := n0_; have HO_11 := n1_; have HB := n2_; clear n0_ n1_ n2_; (try clear hb); (try clear hb2); (try clear hk); (try clear hi)))
                                        go_ret
                                        exact ⟨by first | rfl | (simp [errW_none, errW_some] <;> rfl) | (simp [*, errW_none, errW_some] <;> rfl), by repeat (first | (with_reducible first | exact HB.out | apply below_alloc | apply pw_below_drewN | apply below_drew1) | exact HB.out)⟩
                                    · rw [if_neg c39] at H
                                      have c39b0 : (t191 == 0) = false := beq_eq_false_iff_ne.mpr c39
                                      have c39b1 : (t191 != 0) = true := bne_iff_ne.mpr c39
                                      obtain rfl := Option.some.inj H
                                      obtain ⟨Ao47, co47, eo47⟩ := Kd.R_slice HO_8.out
                                      subst eo47
                                      obtain ⟨Ao48, co48, eo48⟩ := Kd.R_slice HO_11.out
                                      subst eo48
                                      go_wp2_with (first | ((with_reducible refine gate_callee (f := 26) rfl ?_); refine goesL_ (some 85) rfl rfl Try.func26 (by kernel_rfl) rfl #[.slice Ao47 x8_3.length co47, .slice Ao48 t195.length co48] rfl (by (try simp only [List.map_toArray, List.map_cons, List.map_nil]); first | done | rfl | (simp only [List.length_drop, List.length_take]; rfl)) ?_; (with_reducible refine (cofferdamlaw10_same.calls k3 _ _ x8_3 _ _ t195 true _ ?side1 ?side2 ?side3 ?side4 A34.out).mono ?_); (case side1 => repeat (first | exact (Kd.R_reads' HO_8.out).2.2 | (with_reducible refine Kd.C_alloc ?_ _) | (with_reducible refine Kd.C_drewN ?_ _) | (with_reducible refine Kd.C_drew ?_))); (case side2 => exact (Kd.R_reads' HO_8.out).2.1); (case side3 => repeat (first | exact (Kd.R_reads' HO_11.out).2.2 | (with_reducible refine Kd.C_alloc ?_ _) | (with_reducible refine Kd.C_drewN ?_ _) | (with_reducible refine Kd.C_drew ?_))); (case side4 => exact (Kd.R_reads' HO_11.out).2.1); rintro e w' ⟨rfl, ⟨nd, rfl⟩⟩; refine ⟨_, rfl, ?_⟩) | ((with_reducible refine gate_callee (f := 24) rfl ?_); refine goesL_ (some 86) rfl rfl Try.func24 (by kernel_rfl) rfl #[] rfl (by (try simp only [List.map_toArray, List.map_cons, List.map_nil]); first | done | rfl | (simp only [List.length_drop, List.length_take]; rfl)) ?_; (with_reducible refine (cofferdamlaw10_alive.calls k3  true _ A35.out).mono ?_); rintro e w49 ⟨rfl, hb⟩; refine ⟨_, rfl, ?_⟩; have n0_ := Aside0.mk (Kd.R_below (by (with_reducible repeat (first | apply Kd.R_alloc | apply Kd.R_drewN | apply Kd.R_drew)); exact HO_8.out) hb); have n1_ := Aside0.mk (Kd.R_below (by (with_reducible repeat (first | apply Kd.R_alloc | apply Kd.R_drewN | apply Kd.R_drew)); exact HO_11.out) hb); have n2_ := Aside0.mk (below_step (by repeat (first | (with_reducible first | exact HB.out | apply below_alloc | apply pw_below_drewN | apply below_drew1) | exact HB.out)) hb); clear HO_8; clear HO_11; clear HB; have HO_8 := n0_; have HO_11 := n1_; have HB := n2_; clear n0_ n1_ n2_; (try clear hb); (try clear hb2); (try clear hk); (try clear hi)))
                                      go_ret
                                      exact ⟨by first | rfl | (simp [errW_none, errW_some] <;> rfl) | (simp [*, errW_none, errW_some] <;> rfl), by repeat (first | (with_reducible first | exact HB.out | apply below_alloc | apply pw_below_drewN | apply below_drew1) | exact HB.out)⟩
                                  · rw [if_neg c38] at H
                                    have c38b0 : (t191 == t196) = false := beq_eq_false_iff_ne.mpr c38
                                    have c38b1 : (t191 != t196) = true := bne_iff_ne.mpr c38
                                    obtain rfl := Option.some.inj H
                                    obtain ⟨Ao50, co50, eo50⟩ := Kd.R_slice HO_8.out
                                    subst eo50
                                    obtain ⟨Ao51, co51, eo51⟩ := Kd.R_slice HO_11.out
                                    subst eo51
                                    go_wp2_with (first | ((with_reducible refine gate_callee (f := 26) rfl ?_); refine goesL_ (some 85) rfl rfl Try.func26 (by kernel_rfl) rfl #[.slice Ao50 x8_3.length co50, .slice Ao51 t195.length co51] rfl (by (try simp only [List.map_toArray, List.map_cons, List.map_nil]); first | done | rfl | (simp only [List.length_drop, List.length_take]; rfl)) ?_; (with_reducible refine (cofferdamlaw10_same.calls k3 _ _ x8_3 _ _ t195 true _ ?side1 ?side2 ?side3 ?side4 A34.out).mono ?_); (case side1 => repeat (first | exact (Kd.R_reads' HO_8.out).2.2 | (with_reducible refine Kd.C_alloc ?_ _) | (with_reducible refine Kd.C_drewN ?_ _) | (with_reducible refine Kd.C_drew ?_))); (case side2 => exact (Kd.R_reads' HO_8.out).2.1); (case side3 => repeat (first | exact (Kd.R_reads' HO_11.out).2.2 | (with_reducible refine Kd.C_alloc ?_ _) | (with_reducible refine Kd.C_drewN ?_ _) | (with_reducible refine Kd.C_drew ?_))); (case side4 => exact (Kd.R_reads' HO_11.out).2.1); rintro e w' ⟨rfl, ⟨nd, rfl⟩⟩; refine ⟨_, rfl, ?_⟩) | ((with_reducible refine gate_callee (f := 24) rfl ?_); refine goesL_ (some 86) rfl rfl Try.func24 (by kernel_rfl) rfl #[] rfl (by (try simp only [List.map_toArray, List.map_cons, List.map_nil]); first | done | rfl | (simp only [List.length_drop, List.length_take]; rfl)) ?_; (with_reducible refine (cofferdamlaw10_alive.calls k3  true _ A35.out).mono ?_); rintro e w52 ⟨rfl, hb⟩; refine ⟨_, rfl, ?_⟩; have n0_ := Aside0.mk (Kd.R_below (by (with_reducible repeat (first | apply Kd.R_alloc | apply Kd.R_drewN | apply Kd.R_drew)); exact HO_8.out) hb); have n1_ := Aside0.mk (Kd.R_below (by (with_reducible repeat (first | apply Kd.R_alloc | apply Kd.R_drewN | apply Kd.R_drew)); exact HO_11.out) hb); have n2_ := Aside0.mk (below_step (by repeat (first | (with_reducible first | exact HB.out | apply below_alloc | apply pw_below_drewN | apply below_drew1) | exact HB.out)) hb); clear HO_8; clear HO_11; clear HB; have HO_8 := n0_; have HO_11 := n1_; have HB := n2_; clear n0_ n1_ n2_; (try clear hb); (try clear hb2); (try clear hk); (try clear hi)))
                                    go_ret
                                    exact ⟨by first | rfl | (simp [errW_none, errW_some] <;> rfl) | (simp [*, errW_none, errW_some] <;> rfl), by repeat (first | (with_reducible first | exact HB.out | apply below_alloc | apply pw_below_drewN | apply below_drew1) | exact HB.out)⟩
                                · replace c37 := Bool.eq_false_iff.mpr c37
                                  subst c37
                                  have H1 : (some false) = some r := by rw [if_neg (show ¬ (false = true) by decide)] at H; exact H
                                  clear H
                                  have H := H1
                                  clear H1
                                  obtain rfl := Option.some.inj H
                                  obtain ⟨Ao53, co53, eo53⟩ := Kd.R_slice HO_8.out
                                  subst eo53
                                  obtain ⟨Ao54, co54, eo54⟩ := Kd.R_slice HO_11.out
                                  subst eo54
                                  go_wp2_with (first | ((with_reducible refine gate_callee (f := 26) rfl ?_); refine goesL_ (some 85) rfl rfl Try.func26 (by kernel_rfl) rfl #[.slice Ao53 x8_3.length co53, .slice Ao54 t195.length co54] rfl (by (try simp only [List.map_toArray, List.map_cons, List.map_nil]); first | done | rfl | (simp only [List.length_drop, List.length_take]; rfl)) ?_; (with_reducible refine (cofferdamlaw10_same.calls k3 _ _ x8_3 _ _ t195 false _ ?side1 ?side2 ?side3 ?side4 A34.out).mono ?_); (case side1 => repeat (first | exact (Kd.R_reads' HO_8.out).2.2 | (with_reducible refine Kd.C_alloc ?_ _) | (with_reducible refine Kd.C_drewN ?_ _) | (with_reducible refine Kd.C_drew ?_))); (case side2 => exact (Kd.R_reads' HO_8.out).2.1); (case side3 => repeat (first | exact (Kd.R_reads' HO_11.out).2.2 | (with_reducible refine Kd.C_alloc ?_ _) | (with_reducible refine Kd.C_drewN ?_ _) | (with_reducible refine Kd.C_drew ?_))); (case side4 => exact (Kd.R_reads' HO_11.out).2.1); rintro e w' ⟨rfl, ⟨nd, rfl⟩⟩; refine ⟨_, rfl, ?_⟩) | ((with_reducible refine gate_callee (f := 24) rfl ?_); refine goesL_ (some 86) rfl rfl Try.func24 (by kernel_rfl) rfl #[] rfl (by (try simp only [List.map_toArray, List.map_cons, List.map_nil]); first | done | rfl | (simp only [List.length_drop, List.length_take]; rfl)) ?_; (with_reducible refine (cofferdamlaw10_alive.calls k3  true _ A35.out).mono ?_); rintro e w55 ⟨rfl, hb⟩; refine ⟨_, rfl, ?_⟩; have n0_ := Aside0.mk (Kd.R_below (by (with_reducible repeat (first | apply Kd.R_alloc | apply Kd.R_drewN | apply Kd.R_drew)); exact HO_8.out) hb); have n1_ := Aside0.mk (Kd.R_below (by (with_reducible repeat (first | apply Kd.R_alloc | apply Kd.R_drewN | apply Kd.R_drew)); exact HO_11.out) hb); have n2_ := Aside0.mk (below_step (by repeat (first | (with_reducible first | exact HB.out | apply below_alloc | apply pw_below_drewN | apply below_drew1) | exact HB.out)) hb); clear HO_8; clear HO_11; clear HB; have HO_8 := n0_; have HO_11 := n1_; have HB := n2_; clear n0_ n1_ n2_; (try clear hb); (try clear hb2); (try clear hk); (try clear hi)))
                                  go_ret
                                  exact ⟨by first | rfl | (simp [errW_none, errW_some] <;> rfl) | (simp [*, errW_none, errW_some] <;> rfl), by repeat (first | (with_reducible first | exact HB.out | apply below_alloc | apply pw_below_drewN | apply below_drew1) | exact HB.out)⟩
                              · replace c36 := Bool.eq_false_iff.mpr c36
                                subst c36
                                have H1 : (some false) = some r := by rw [if_neg (show ¬ (false = true) by decide)] at H; exact H
                                clear H
                                have H := H1
                                clear H1
                                obtain rfl := Option.some.inj H
                                obtain ⟨Ao56, co56, eo56⟩ := Kd.R_slice HO_8.out
                                subst eo56
                                obtain ⟨Ao57, co57, eo57⟩ := Kd.R_slice HO_11.out
                                subst eo57
                                go_wp2_with (first | ((with_reducible refine gate_callee (f := 26) rfl ?_); refine goesL_ (some 85) rfl rfl Try.func26 (by kernel_rfl) rfl #[.slice Ao56 x8_3.length co56, .slice Ao57 t195.length co57] rfl (by (try simp only [List.map_toArray, List.map_cons, List.map_nil]); first | done | rfl | (simp only [List.length_drop, List.length_take]; rfl)) ?_; (with_reducible refine (cofferdamlaw10_same.calls k3 _ _ x8_3 _ _ t195 t202 _ ?side1 ?side2 ?side3 ?side4 A34.out).mono ?_); (case side1 => repeat (first | exact (Kd.R_reads' HO_8.out).2.2 | (with_reducible refine Kd.C_alloc ?_ _) | (with_reducible refine Kd.C_drewN ?_ _) | (with_reducible refine Kd.C_drew ?_))); (case side2 => exact (Kd.R_reads' HO_8.out).2.1); (case side3 => repeat (first | exact (Kd.R_reads' HO_11.out).2.2 | (with_reducible refine Kd.C_alloc ?_ _) | (with_reducible refine Kd.C_drewN ?_ _) | (with_reducible refine Kd.C_drew ?_))); (case side4 => exact (Kd.R_reads' HO_11.out).2.1); rintro e w' ⟨rfl, ⟨nd, rfl⟩⟩; refine ⟨_, rfl, ?_⟩) | ((with_reducible refine gate_callee (f := 24) rfl ?_); refine goesL_ (some 86) rfl rfl Try.func24 (by kernel_rfl) rfl #[] rfl (by (try simp only [List.map_toArray, List.map_cons, List.map_nil]); first | done | rfl | (simp only [List.length_drop, List.length_take]; rfl)) ?_; (with_reducible refine (cofferdamlaw10_alive.calls k3  false _ A35.out).mono ?_); rintro e w58 ⟨rfl, hb⟩; refine ⟨_, rfl, ?_⟩; have n0_ := Aside0.mk (Kd.R_below (by (with_reducible repeat (first | apply Kd.R_alloc | apply Kd.R_drewN | apply Kd.R_drew)); exact HO_8.out) hb); have n1_ := Aside0.mk (Kd.R_below (by (with_reducible repeat (first | apply Kd.R_alloc | apply Kd.R_drewN | apply Kd.R_drew)); exact HO_11.out) hb); have n2_ := Aside0.mk (below_step (by repeat (first | (with_reducible first | exact HB.out | apply below_alloc | apply pw_below_drewN | apply below_drew1) | exact HB.out)) hb); clear HO_8; clear HO_11; clear HB; have HO_8 := n0_; have HO_11 := n1_; have HB := n2_; clear n0_ n1_ n2_; (try clear hb); (try clear hb2); (try clear hk); (try clear hi)))
                                go_ret
                                exact ⟨by first | rfl | (simp [errW_none, errW_some] <;> rfl) | (simp [*, errW_none, errW_some] <;> rfl), by repeat (first | (with_reducible first | exact HB.out | apply below_alloc | apply pw_below_drewN | apply below_drew1) | exact HB.out)⟩
                    · rw [if_neg c20] at H
                      exact absurd H (by simp)
                  · rw [if_neg c19] at H
                    exact absurd H (by simp)
                · rw [if_neg c18] at H
                  exact absurd H (by simp)
              · rw [if_neg c17] at H
                exact absurd H (by simp)

/-- THE ONE PURE STATEMENT of cofferdamlaw10_LexNotes: yours. -/
def cofferdamlaw10_LexNotes.Pure : Prop := ∀ (a0 : ByteArray) (a1 : ByteArray), a0.size ≤ 140737488351232 → a1.size ≤ 140737488351232 → ∃ k, cofferdamlaw10_LexNotes.f k a0 a1 = some true
theorem cofferdamlaw10_LexNotes.walk (P : cofferdamlaw10_LexNotes.Pure) (a0 : ByteArray) (a1 : ByteArray) (w : World) (w0 : a0.size ≤ 140737488351232) (w1 : a1.size ≤ 140737488351232) :
    Calls Try.prog 11 #[.string a0, .string a1] w fun e w' => e = .returned (.bool true) ∧ Below w.heap.size w w' := by
  obtain ⟨k, h⟩ := P a0 a1 w0 w1
  refine (cofferdamlaw10_LexNotes.calls k a0 a1 true w h).mono ?_
  rintro e w' ⟨rfl, hd⟩
  exact ⟨rfl, hd⟩

end Go.Proofs.Ytocclfjddihmbaa.P
