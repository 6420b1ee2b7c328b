/- Proved here: what the functions named below compute (or, in a text Law.., that the law holds), at every argument that the theorems' own premises allow. Written by a program of this session over the kit's printer; Lean checks it. -/
import Derived.Test.YtneglmnffdmbiaaP0
namespace Go.Proofs.Ytneglmnffdmbiaa.P
open Go.RowKit Go.Proofs.YtneglmnffdmbiaaW.PrintWords Go.Proofs.YtneglmnffdmbiaaW.PrintLast Go.Proofs.YtneglmnffdmbiaaW.PrintMore
attribute [local go_sem] max2_int min2_int max_two min_two max_three min_three max_four min_four   -- for this text's walks alone
set_option linter.unusedVariables false
set_option linter.unusedSimpArgs false

/-! ### cofferdamref16_below: function 18 -/
mutual
def cofferdamref16_below.l0 : Nat → List (S34) → List Bool → Int → Option (List Bool)
  | 0, _, _, _ => none
  | k + 1, x0, x5, x6 => if x6 ≥ 0 then (if 0 ≤ x6 then (if x6 < (x5.length : Int) then (if rdOf false x5 x6 = true then (cofferdamref16_below.l1 k x0 x5 x6 0) else (cofferdamref16_below.l0 k x0 x5 (wrap64 (x6 - 1)))) else (none)) else (none)) else (some x5)
def cofferdamref16_below.l1 : Nat → List (S34) → List Bool → Int → Int → Option (List Bool)
  | 0, _, _, _, _ => none
  | k + 1, x0, x5, x6, x7 => if 0 ≤ x6 then (if x6 < (x0.length : Int) then (if x7 < (((rd_T34 x0 x6).f4).length : Int) then (if 0 ≤ x7 then (if 0 ≤ (rd ((rd_T34 x0 x6).f4) x7) then (if (rd ((rd_T34 x0 x6).f4) x7) < (x5.length : Int) then (cofferdamref16_below.l1 k x0 (x5.set ((rd ((rd_T34 x0 x6).f4) x7) : Int).toNat true) x6 (wrap64 (x7 + 1))) else (none)) else (none)) else (none)) else (cofferdamref16_below.l2 k x0 x5 x6 0)) else (none)) else (none)
def cofferdamref16_below.l2 : Nat → List (S34) → List Bool → Int → Int → Option (List Bool)
  | 0, _, _, _, _ => none
  | k + 1, x0, x5, x6, x8 => if 0 ≤ x6 then (if x6 < (x0.length : Int) then (if x8 < (((rd_T34 x0 x6).f3).length : Int) then (if 0 ≤ x8 then (if 0 ≤ ((rd_T36 ((rd_T34 x0 x6).f3) x8).f2) then (if ((rd_T36 ((rd_T34 x0 x6).f3) x8).f2) < (x5.length : Int) then (cofferdamref16_below.l2 k x0 (x5.set (((rd_T36 ((rd_T34 x0 x6).f3) x8).f2) : Int).toNat true) x6 (wrap64 (x8 + 1))) else (none)) else (none)) else (none)) else (cofferdamref16_below.l0 k x0 x5 (wrap64 (x6 - 1)))) else (none)) else (none)
end
def cofferdamref16_below.f (k : Nat) (l0 : List (S34)) (a1 : Int) : Option (List Bool) := if 0 ≤ (l0.length : Int) then (if ((l0.length : Int) : Int).toNat ≤ 281474976710656 then ((some (List.replicate ((l0.length : Int) : Int).toNat false : List Bool)).bind fun y257 => (if 0 ≤ a1 then (if a1 < (y257.length : Int) then (cofferdamref16_below.l0 k l0 (y257.set (a1 : Int).toNat true) a1) else (none)) else (none))) else (none)) else (none)
theorem cofferdamref16_below.mono_l : ∀ k, (∀ y0 y1 y2, LeO (cofferdamref16_below.l0 k y0 y1 y2) (cofferdamref16_below.l0 (k + 1) y0 y1 y2)) ∧ (∀ y0 y1 y2 y3, LeO (cofferdamref16_below.l1 k y0 y1 y2 y3) (cofferdamref16_below.l1 (k + 1) y0 y1 y2 y3)) ∧ (∀ y0 y1 y2 y3, LeO (cofferdamref16_below.l2 k y0 y1 y2 y3) (cofferdamref16_below.l2 (k + 1) y0 y1 y2 y3))
  | 0 => ⟨fun _ _ _ r h => by simp [cofferdamref16_below.l0] at h, fun _ _ _ _ r h => by simp [cofferdamref16_below.l1] at h, fun _ _ _ _ r h => by simp [cofferdamref16_below.l2] at h⟩
  | k + 1 => by
    obtain ⟨ih0, ih1, ih2⟩ := cofferdamref16_below.mono_l k
    refine ⟨?_, ?_, ?_⟩
    · intro y0 y1 y2
      unfold cofferdamref16_below.l0
      repeat' first
      | (with_reducible exact ih0 _ _ _)
      | (with_reducible exact ih1 _ _ _ _)
      | (with_reducible exact ih2 _ _ _ _)
      | (with_reducible exact LeO.refl _)
      | (with_reducible exact LeO.none _)
      | (with_reducible refine LeO.ite ?_ ?_)
      | (with_reducible refine LeO.bind ?_ (fun _ => ?_))
      | exact ih0 _ _ _
      | exact ih1 _ _ _ _
      | exact ih2 _ _ _ _
      | exact LeO.none _
      | refine LeO.ite ?_ ?_
      | refine LeO.bind ?_ (fun _ => ?_)
    · intro y0 y1 y2 y3
      unfold cofferdamref16_below.l1
      repeat' first
      | (with_reducible exact ih0 _ _ _)
      | (with_reducible exact ih1 _ _ _ _)
      | (with_reducible exact ih2 _ _ _ _)
      | (with_reducible exact LeO.refl _)
      | (with_reducible exact LeO.none _)
      | (with_reducible refine LeO.ite ?_ ?_)
      | (with_reducible refine LeO.bind ?_ (fun _ => ?_))
      | exact ih0 _ _ _
      | exact ih1 _ _ _ _
      | exact ih2 _ _ _ _
      | exact LeO.none _
      | refine LeO.ite ?_ ?_
      | refine LeO.bind ?_ (fun _ => ?_)
    · intro y0 y1 y2 y3
      unfold cofferdamref16_below.l2
      repeat' first
      | (with_reducible exact ih0 _ _ _)
      | (with_reducible exact ih1 _ _ _ _)
      | (with_reducible exact ih2 _ _ _ _)
      | (with_reducible exact LeO.refl _)
      | (with_reducible exact LeO.none _)
      | (with_reducible refine LeO.ite ?_ ?_)
      | (with_reducible refine LeO.bind ?_ (fun _ => ?_))
      | exact ih0 _ _ _
      | exact ih1 _ _ _ _
      | exact ih2 _ _ _ _
      | exact LeO.none _
      | refine LeO.ite ?_ ?_
      | refine LeO.bind ?_ (fun _ => ?_)
theorem cofferdamref16_below.mono : ∀ a0 a1 k, LeO (cofferdamref16_below.f k a0 a1) (cofferdamref16_below.f (k + 1) a0 a1) := by
  intro a0 a1 k
  obtain ⟨ih0, ih1, ih2⟩ := cofferdamref16_below.mono_l k
  unfold cofferdamref16_below.f
  repeat' first
      | (with_reducible exact ih0 _ _ _)
      | (with_reducible exact ih1 _ _ _ _)
      | (with_reducible exact ih2 _ _ _ _)
      | (with_reducible exact LeO.refl _)
      | (with_reducible exact LeO.none _)
      | (with_reducible refine LeO.ite ?_ ?_)
      | (with_reducible refine LeO.bind ?_ (fun _ => ?_))
      | exact ih0 _ _ _
      | exact ih1 _ _ _ _
      | exact ih2 _ _ _ _
      | exact LeO.none _
      | refine LeO.ite ?_ ?_
      | refine LeO.bind ?_ (fun _ => ?_)
set_option maxHeartbeats 8000000 in
set_option maxRecDepth 100000 in
theorem cofferdamref16_below.calls (k : Nat) (A0 : Option Addr) (c0 : Nat) (l0 : List (S34)) (a1 : Int) (r : List Bool) (w : World) (hr0 : Kd.C k34 w A0 l0.length l0) (hc0 : l0.length ≤ c0) (h : cofferdamref16_below.f k l0 a1 = some r) :
    Calls Try.prog 18 #[.slice A0 l0.length c0, .int .i64 a1] w fun e w' => ∃ v0_ : Value, e = .returned (v0_) ∧ Kd.R Kd.bool 4 w' w.heap.size (fun _ => True) v0_ r ∧ Below w.heap.size w w' := by
  have HR0 := Aside0.mk hr0
  have HC0 := Aside0.mk hc0
  clear hr0 hc0
  have HB := Aside0.mk (Below.refl w.heap.size w)
  have H : (if 0 ≤ (l0.length : Int) then (if ((l0.length : Int) : Int).toNat ≤ 281474976710656 then ((some (List.replicate ((l0.length : Int) : Int).toNat false : List Bool)).bind fun y257 => (if 0 ≤ a1 then (if a1 < (y257.length : Int) then (cofferdamref16_below.l0 k l0 (y257.set (a1 : Int).toNat true) a1) else (none)) else (none))) else (none)) else (none)) = some r := h
  clear h
  by_cases c3 : 0 ≤ (l0.length : Int)
  · rw [if_pos c3] at H
    have c3b0 := eq_true c3
    have c3b1 : decide (0 ≤ (l0.length : Int)) = true := decide_eq_true c3
    clear c3
    by_cases c4 : ((l0.length : Int) : Int).toNat ≤ 281474976710656
    · rw [if_pos c4] at H
      have c4b0 := eq_true c4
      have c4b1 : decide (((l0.length : Int) : Int).toNat ≤ 281474976710656) = true := decide_eq_true c4
      clear c4
      obtain ⟨y257, hy257⟩ : ∃ y_ : List Bool, y_ = (List.replicate ((l0.length : Int) : Int).toNat false) := ⟨_, rfl⟩
      replace H : (if 0 ≤ a1 then (if a1 < (y257.length : Int) then (cofferdamref16_below.l0 k l0 (y257.set (a1 : Int).toNat true) a1) else (none)) else (none)) = some r := by first | (rw [hy257]; with_reducible exact H) | (have H2_ := (Option.bind_some _ _).symm.trans H; rw [hy257]; with_reducible exact H2_) | (have H2_ := (Option.bind_some _ _).symm.trans H; with_reducible exact H2_) | with_reducible exact H | (rw [hy257]; exact H) | exact H
      have Ny257 := Aside0.mk hy257
      clear hy257
      by_cases c5 : 0 ≤ a1
      · rw [if_pos c5] at H
        have c5b0 : decide (0 ≤ a1) = true := decide_eq_true c5
        clear c5
        by_cases c6 : a1 < (y257.length : Int)
        · rw [if_pos c6] at H
          have c6b0 : decide (a1 < (y257.length : Int)) = true := decide_eq_true c6
          clear c6
          obtain ⟨y260, hy260⟩ : ∃ y_ : List Bool, y_ = (y257.set (a1 : Int).toNat true) := ⟨_, rfl⟩
          replace H : (cofferdamref16_below.l0 k l0 y260 a1) = some r := by first | (rw [hy260]; with_reducible exact H) | (have H2_ := (Option.bind_some _ _).symm.trans H; rw [hy260]; with_reducible exact H2_) | (have H2_ := (Option.bind_some _ _).symm.trans H; with_reducible exact H2_) | with_reducible exact H | (rw [hy260]; exact H) | exact H
          have Ny260 := Aside0.mk hy260
          clear hy260
          have H' := Aside0.mk H
          clear H
          go_enter Try.func18, Try.ntmps18
          go_wp2_with (first | ((with_reducible refine gate_dst (N := 11) rfl ?_); refine Kd.R_make Kd.bool _ 4 rfl (N := 11) rfl 48 _ _ rfl (l0.length : Int) rfl rfl Try.underlying48 (.bool false) 1 info4 rfl (by decide) (by omega) false (ok := fun _ => True) (okp := fun _ => True) rfl (fun _ hk => hk) trivial (of_decide_eq_true (by first | (with_reducible assumption) | assumption)) (Nat.le_trans (Nat.mul_le_mul_right _ (of_decide_eq_true (by first | (with_reducible assumption) | assumption) : (l0.length : Int).toNat ≤ 281474976710656)) (by omega)) (Below.refl _ _) (Nat.le_refl _) ?_; intro v258 w8 ho9 hb hg_ hnew_; clear hg_ hnew_; (first | rw [← Ny257.out] at ho9 | (simp only [Int.reduceToNat] at ho9; rw [← Ny257.out] at ho9)); have n0_ := Aside0.mk (Kd.R_lower ho9 (below_size (by repeat (first | (with_reducible first | exact HB.out | apply below_alloc | apply pw_below_drewN | apply below_drew1) | exact HB.out)))); have n1_ := Aside0.mk (below_step (by repeat (first | (with_reducible first | exact HB.out | apply below_alloc | apply pw_below_drewN | apply below_drew1) | exact HB.out)) hb); clear HB; have HO259 := n0_; have HB := n1_; clear n0_ n1_; clear hb ho9; have p7 : 0 ≤ (a1 : Int) := of_decide_eq_true (by first | (with_reducible assumption) | assumption); have q7 : (a1 : Int) < ((y257.length : Int) : Int) := of_decide_eq_true (by first | (with_reducible assumption) | assumption); obtain ⟨go7, co7, eo7, gb7, gl7, cl7, HG7⟩ := Kd.R_form HO259.out (by omega); (first | cases eo7 | (injection eo7 with ea_ en_ ec_; (first | subst ea_ | (injection ea_ with ea_; subst ea_)); subst ec_; clear en_)); have GB7 := Aside0.mk gb7; have GG7 := Aside0.mk HG7; clear gb7 gl7 HG7; obtain ⟨hx7_0, hf7_0⟩ := Kd.R_celln false HO259.out (a1 : Int) p7 q7; replace p7 := eq_true p7; replace q7 := eq_true q7; obtain ⟨hy10_, hz10_⟩ := Kd.R_celln false HO259.out (a1 : Int) (of_decide_eq_true (by first | (with_reducible assumption) | assumption)) (of_decide_eq_true (by first | (with_reducible assumption) | assumption)); have HP10 := Kd.R_putg HO259.out (a1 : Int) true) | ((with_reducible refine gate_store (t := 4) (p := 14) rfl ?_); refine store_event (t := 4) (p := 14) (v := ?vo_w11) (w1 := (w8.setCell ⟨go7, (a1 : Int).toNat, none⟩ (.bool true))) ?hg ?ho ?hn ?hr ?_; (case ho => rfl); (case hg => rfl); (case hn => rfl); (case hr => first | (go_simp; done) | (go_simp; rfl)); intro w11 hw; have hg : w8.grownBy w11 (some go7) := (by rw [hw]; exact HP10.2); have hp_ : Kd.R Kd.bool 4 w11 w.heap.size (fun _ => True) (.slice (some ⟨go7, 0, none⟩) y257.length co7) y260 := (by rw [hw, Ny260.out]; exact HP10.1); clear HP10; have n0_ := Aside0.mk (hp_); have n1_ := Aside0.mk ((by rw [hw]; exact below_set (HB.out) GB7.out : Below w.heap.size w w11)); clear HO259; clear HB; have HO259 := n0_; have HB := n1_; clear n0_ n1_; clear hg hw hp_))
          go_loopg [6] k (fun kq v6 w' => ∃ (x5_1 : List Bool) (x6_1 : Int), v6 = .int .i64 x6_1 ∧ Aside0 (cofferdamref16_below.l0 kq l0 x5_1 x6_1 = some r) ∧ Aside0 (kq ≤ k) ∧ Aside0 (Kd.R Kd.bool 4 w' w.heap.size (fun _ => True) (.slice (some ⟨go7, 0, none⟩) y257.length co7) x5_1) ∧ Aside0 (Below w.heap.size w w'))
          case atStart => exact ⟨(y260), (a1), (by first | rfl | (simp; done) | (simp [*]; done)), H', ⟨Nat.le_refl _⟩, ⟨by (with_reducible repeat (first | apply Kd.R_alloc | apply Kd.R_drewN | apply Kd.R_drew)); exact HO259.out⟩, ⟨by repeat (first | (with_reducible first | exact HB.out | apply below_alloc | apply pw_below_drewN | apply below_drew1) | exact HB.out)⟩⟩
          case round =>
            clear H'
            try clear c1
            try clear p2
            try clear c3
            try clear c3b0
            try clear c3b1
            try clear c4
            try clear c4b0
            try clear c4b1
            try clear c5
            try clear c5b0
            try clear c6
            try clear c6b0
            try clear p7
            try clear q7
            try clear hx7
            try clear hf7
            try clear hx7_0
            try clear p7
            try clear q7
            obtain ⟨x5_1, x6_1, rfl, HA, HK1, HO_5, HB⟩ := hrel
            have hl5_1 := (Kd.R_reads' HO_5.out).1
            rw [hl5_1] at HO_5
            (try simp only [hl5_1])
            cases gk with
            | zero => exact absurd HA.out (by simp [cofferdamref16_below.l0])
            | succ k1 =>
              have H := HA.out
              clear HA
              simp only [cofferdamref16_below.l0] at H
              by_cases c12 : x6_1 ≥ 0
              · rw [if_pos c12] at H
                have c12b0 : decide (0 ≤ x6_1) = true := decide_eq_true c12
                clear c12
                by_cases c13 : 0 ≤ x6_1
                · rw [if_pos c13] at H
                  have c13b0 : decide (0 ≤ x6_1) = true := decide_eq_true c13
                  clear c13
                  by_cases c14 : x6_1 < (x5_1.length : Int)
                  · rw [if_pos c14] at H
                    have c14b0 : decide (x6_1 < (x5_1.length : Int)) = true := decide_eq_true c14
                    clear c14
                    obtain ⟨bq15, hbq15⟩ : ∃ b_ : Bool, b_ = (rdOf false x5_1 x6_1) := ⟨_, rfl⟩
                    replace H : (if bq15 = true then (cofferdamref16_below.l1 k1 l0 x5_1 x6_1 0) else (cofferdamref16_below.l0 k1 l0 x5_1 (wrap64 (x6_1 - 1)))) = some r := by rw [← hbq15] at H; exact H
                    have Nbq15 := Aside0.mk hbq15
                    clear hbq15
                    by_cases c16 : bq15 = true
                    · subst c16
                      have H1 : (cofferdamref16_below.l1 k1 l0 x5_1 x6_1 0) = some r := by rw [if_pos rfl] at H; exact H
                      clear H
                      have H := H1
                      clear H1
                      have H' := Aside0.mk H
                      clear H
                      have p261 : 0 ≤ (x6_1 : Int) := of_decide_eq_true (by first | (with_reducible assumption) | assumption)
                      have q261 : x6_1 < (x5_1.length : Int) := of_decide_eq_true (by first | (with_reducible assumption) | assumption)
                      obtain ⟨ad261, e261, hx261_0⟩ := Kd.at_bool (Kd.R_reads' HO_5.out).2.2 x6_1 p261 q261
                      (try rw [← Nbq15.out] at hx261_0)
                      obtain rfl : (⟨go7, 0, none⟩ : Addr) = ad261 := (by injection e261)
                      (first | simp only [add_plain] at hx261_0 | simp only [add_at] at hx261_0 | simp only [Addr.add, Nat.zero_add] at hx261_0 | skip)
                      replace p261 := eq_true p261
                      replace q261 := eq_true q261
                      go_wp2
                      go_loopg [7] k1 (fun kq v7 w' => ∃ (x5_2 : List Bool) (x7_2 : Int), v7 = .int .i64 x7_2 ∧ Aside0 (cofferdamref16_below.l1 kq l0 x5_2 x6_1 x7_2 = some r) ∧ Aside0 (kq ≤ k1) ∧ Aside0 (Kd.R Kd.bool 4 w' w.heap.size (fun _ => True) (.slice (some ⟨go7, 0, none⟩) x5_1.length co7) x5_2) ∧ Aside0 (Below w.heap.size w w'))
                      case atStart => exact ⟨(x5_1), (0), (by first | rfl | (simp; done) | (simp [*]; done)), H', ⟨Nat.le_refl _⟩, ⟨by (try simp only [hl5_1]); (with_reducible repeat (first | apply Kd.R_alloc | apply Kd.R_drewN | apply Kd.R_drew)); exact HO_5.out⟩, ⟨by repeat (first | (with_reducible first | exact HB.out | apply below_alloc | apply pw_below_drewN | apply below_drew1) | exact HB.out)⟩⟩
                      case round =>
                        clear H'
                        try clear c1
                        try clear q1
                        try clear p2
                        try clear q2
                        try clear hx2
                        try clear c3
                        try clear c3b0
                        try clear c3b1
                        try clear c4
                        try clear c4b0
                        try clear c4b1
                        try clear c5
                        try clear c5b0
                        try clear c6
                        try clear c6b0
                        try clear p6
                        try clear p7
                        try clear q7
                        try clear hx7
                        try clear hf7
                        try clear c12
                        try clear c12b0
                        try clear c13
                        try clear c13b0
                        try clear c14
                        try clear c14b0
                        try clear q15
                        try clear c16
                        try clear hx261_0
                        try clear hx7_0
                        try clear p2
                        try clear p261
                        try clear p7
                        try clear q261
                        try clear q7
                        obtain ⟨x5_2, x7_2, rfl, HA, HK2, HO_5, HB⟩ := hrel
                        have hl5_2 := (Kd.R_reads' HO_5.out).1
                        rw [hl5_2] at HO_5
                        (try simp only [hl5_2])
                        cases gk with
                        | zero => exact absurd HA.out (by simp [cofferdamref16_below.l1])
                        | succ k2 =>
                          have H := HA.out
                          clear HA
                          simp only [cofferdamref16_below.l1] at H
                          by_cases c17 : 0 ≤ x6_1
                          · rw [if_pos c17] at H
                            have c17b0 : decide (0 ≤ x6_1) = true := decide_eq_true c17
                            clear c17
                            by_cases c18 : x6_1 < (l0.length : Int)
                            · rw [if_pos c18] at H
                              have c18b0 : decide (x6_1 < (l0.length : Int)) = true := decide_eq_true c18
                              clear c18
                              by_cases c19 : x7_2 < (((rd_T34 l0 x6_1).f4).length : Int)
                              · rw [if_pos c19] at H
                                have c19b0 : decide (x7_2 < (((rd_T34 l0 x6_1).f4).length : Int)) = true := decide_eq_true c19
                                clear c19
                                by_cases c20 : 0 ≤ x7_2
                                · rw [if_pos c20] at H
                                  have c20b0 : decide (0 ≤ x7_2) = true := decide_eq_true c20
                                  clear c20
                                  by_cases c21 : 0 ≤ (rd ((rd_T34 l0 x6_1).f4) x7_2)
                                  · rw [if_pos c21] at H
                                    have c21b0 : decide (0 ≤ (rd ((rd_T34 l0 x6_1).f4) x7_2)) = true := decide_eq_true c21
                                    clear c21
                                    by_cases c22 : (rd ((rd_T34 l0 x6_1).f4) x7_2) < (x5_2.length : Int)
                                    · rw [if_pos c22] at H
                                      have c22b0 : decide ((rd ((rd_T34 l0 x6_1).f4) x7_2) < (x5_2.length : Int)) = true := decide_eq_true c22
                                      clear c22
                                      obtain ⟨y265, hy265⟩ : ∃ y_ : List Bool, y_ = (x5_2.set ((rd ((rd_T34 l0 x6_1).f4) x7_2) : Int).toNat true) := ⟨_, rfl⟩
                                      replace H : (cofferdamref16_below.l1 k2 l0 y265 x6_1 (wrap64 (x7_2 + 1))) = some r := by first | (rw [hy265]; with_reducible exact H) | (have H2_ := (Option.bind_some _ _).symm.trans H; rw [hy265]; with_reducible exact H2_) | (have H2_ := (Option.bind_some _ _).symm.trans H; with_reducible exact H2_) | with_reducible exact H | (rw [hy265]; exact H) | exact H
                                      have Ny265 := Aside0.mk hy265
                                      clear hy265
                                      have H' := Aside0.mk H
                                      clear H
                                      have p262 : 0 ≤ (x6_1 : Int) := of_decide_eq_true (by first | (with_reducible assumption) | assumption)
                                      have q262 : x6_1 < (l0.length : Int) := of_decide_eq_true (by first | (with_reducible assumption) | assumption)
                                      obtain ⟨ad262, A262_3, c262_3, A262_4, c262_4, A262_8, c262_8, A262_9, c262_9, e262, hx262_0, hx262_1, hx262_2, hx262_3, hx262_4, hx262_5, hx262_6, hx262_7, hx262_8, hx262_9, hl262_3, hi262_3, hl262_4, hi262_4, hl262_8, hi262_8, hl262_9, hi262_9⟩ := at_T34 HR0.out x6_1 p262 q262
                                      cases e262
                                      replace hx262_0 := (HB.out.cell (World.block_lt_of_cell? w _ hx262_0)).trans hx262_0
                                      replace hx262_1 := (HB.out.cell (World.block_lt_of_cell? w _ hx262_1)).trans hx262_1
                                      replace hx262_2 := (HB.out.cell (World.block_lt_of_cell? w _ hx262_2)).trans hx262_2
                                      replace hx262_3 := (HB.out.cell (World.block_lt_of_cell? w _ hx262_3)).trans hx262_3
                                      replace hx262_4 := (HB.out.cell (World.block_lt_of_cell? w _ hx262_4)).trans hx262_4
                                      replace hx262_5 := (HB.out.cell (World.block_lt_of_cell? w _ hx262_5)).trans hx262_5
                                      replace hx262_6 := (HB.out.cell (World.block_lt_of_cell? w _ hx262_6)).trans hx262_6
                                      replace hx262_7 := (HB.out.cell (World.block_lt_of_cell? w _ hx262_7)).trans hx262_7
                                      replace hx262_8 := (HB.out.cell (World.block_lt_of_cell? w _ hx262_8)).trans hx262_8
                                      replace hx262_9 := (HB.out.cell (World.block_lt_of_cell? w _ hx262_9)).trans hx262_9
                                      have HR262_3 := Aside0.mk hi262_3
                                      have HC262_3 := Aside0.mk hl262_3
                                      clear hi262_3 hl262_3
                                      have HR262_4 := Aside0.mk hi262_4
                                      have HC262_4 := Aside0.mk hl262_4
                                      clear hi262_4 hl262_4
                                      have HR262_8 := Aside0.mk hi262_8
                                      have HC262_8 := Aside0.mk hl262_8
                                      clear hi262_8 hl262_8
                                      have HR262_9 := Aside0.mk hi262_9
                                      have HC262_9 := Aside0.mk hl262_9
                                      clear hi262_9 hl262_9
                                      replace p262 := eq_true p262
                                      replace q262 := eq_true q262
                                      have p263 : 0 ≤ (x6_1 : Int) := of_decide_eq_true (by first | (with_reducible assumption) | assumption)
                                      have q263 : x6_1 < (l0.length : Int) := of_decide_eq_true (by first | (with_reducible assumption) | assumption)
                                      obtain ⟨ad263, A263_3, c263_3, A263_4, c263_4, A263_8, c263_8, A263_9, c263_9, e263, hx263_0, hx263_1, hx263_2, hx263_3, hx263_4, hx263_5, hx263_6, hx263_7, hx263_8, hx263_9, hl263_3, hi263_3, hl263_4, hi263_4, hl263_8, hi263_8, hl263_9, hi263_9⟩ := at_T34 HR0.out x6_1 p263 q263
                                      obtain rfl : ad262 = ad263 := (by injection e263)
                                      replace hx263_0 := (HB.out.cell (World.block_lt_of_cell? w _ hx263_0)).trans hx263_0
                                      replace hx263_1 := (HB.out.cell (World.block_lt_of_cell? w _ hx263_1)).trans hx263_1
                                      replace hx263_2 := (HB.out.cell (World.block_lt_of_cell? w _ hx263_2)).trans hx263_2
                                      replace hx263_3 := (HB.out.cell (World.block_lt_of_cell? w _ hx263_3)).trans hx263_3
                                      replace hx263_4 := (HB.out.cell (World.block_lt_of_cell? w _ hx263_4)).trans hx263_4
                                      replace hx263_5 := (HB.out.cell (World.block_lt_of_cell? w _ hx263_5)).trans hx263_5
                                      replace hx263_6 := (HB.out.cell (World.block_lt_of_cell? w _ hx263_6)).trans hx263_6
                                      replace hx263_7 := (HB.out.cell (World.block_lt_of_cell? w _ hx263_7)).trans hx263_7
                                      replace hx263_8 := (HB.out.cell (World.block_lt_of_cell? w _ hx263_8)).trans hx263_8
                                      replace hx263_9 := (HB.out.cell (World.block_lt_of_cell? w _ hx263_9)).trans hx263_9
                                      have HR263_3 := Aside0.mk hi263_3
                                      have HC263_3 := Aside0.mk hl263_3
                                      clear hi263_3 hl263_3
                                      have HR263_4 := Aside0.mk hi263_4
                                      have HC263_4 := Aside0.mk hl263_4
                                      clear hi263_4 hl263_4
                                      have HR263_8 := Aside0.mk hi263_8
                                      have HC263_8 := Aside0.mk hl263_8
                                      clear hi263_8 hl263_8
                                      have HR263_9 := Aside0.mk hi263_9
                                      have HC263_9 := Aside0.mk hl263_9
                                      clear hi263_9 hl263_9
                                      replace p263 := eq_true p263
                                      replace q263 := eq_true q263
                                      have ea_ := Option.some.inj (hx262_3.symm.trans hx263_3)
                                      injection ea_ with ea_ en_ ec_
                                      subst ea_
                                      subst ec_
                                      clear en_
                                      have ea_ := Option.some.inj (hx262_4.symm.trans hx263_4)
                                      injection ea_ with ea_ en_ ec_
                                      subst ea_
                                      subst ec_
                                      clear en_
                                      have ea_ := Option.some.inj (hx262_8.symm.trans hx263_8)
                                      injection ea_ with ea_ en_ ec_
                                      subst ea_
                                      subst ec_
                                      clear en_
                                      have ea_ := Option.some.inj (hx262_9.symm.trans hx263_9)
                                      injection ea_ with ea_ en_ ec_
                                      subst ea_
                                      subst ec_
                                      clear en_
                                      have p264 : 0 ≤ (x7_2 : Int) := of_decide_eq_true (by first | (with_reducible assumption) | assumption)
                                      have q264 : x7_2 < (((rd_T34 l0 x6_1).f4).length : Int) := of_decide_eq_true (by first | (with_reducible assumption) | assumption)
                                      obtain ⟨ad264, e264, hx264_0⟩ := Kd.at_int HR263_4.out x7_2 p264 q264
                                      cases e264
                                      replace hx264_0 := (HB.out.cell (World.block_lt_of_cell? w _ hx264_0)).trans hx264_0
                                      replace p264 := eq_true p264
                                      replace q264 := eq_true q264
                                      have p23 : 0 ≤ ((rd ((rd_T34 l0 x6_1).f4) x7_2) : Int) := of_decide_eq_true (by first | (with_reducible assumption) | assumption)
                                      have q23 : ((rd ((rd_T34 l0 x6_1).f4) x7_2) : Int) < ((x5_2.length : Int) : Int) := of_decide_eq_true (by first | (with_reducible assumption) | assumption)
                                      obtain ⟨hx23_0, hf23_0⟩ := Kd.R_celln false HO_5.out ((rd ((rd_T34 l0 x6_1).f4) x7_2) : Int) p23 q23
                                      replace p23 := eq_true p23
                                      replace q23 := eq_true q23
                                      have HP24 := Kd.R_putg HO_5.out ((rd ((rd_T34 l0 x6_1).f4) x7_2) : Int) true
                                      go_wp2_with (first | ((with_reducible refine gate_store (t := 4) (p := 44) rfl ?_); refine store_event (t := 4) (p := 44) (v := ?vo_w25) (w1 := (wr.setCell ⟨go7, ((rd ((rd_T34 l0 x6_1).f4) x7_2) : Int).toNat, none⟩ (.bool true))) ?hg ?ho ?hn ?hr ?_; (case ho => rfl); (case hg => rfl); (case hn => rfl); (case hr => first | (go_simp; done) | (go_simp; rfl)); intro w25 hw; have hg : wr.grownBy w25 (some go7) := (by rw [hw]; exact HP24.2); have hp_ : Kd.R Kd.bool 4 w25 w.heap.size (fun _ => True) (.slice (some ⟨go7, 0, none⟩) x5_2.length co7) y265 := (by rw [hw, Ny265.out]; exact HP24.1); clear HP24; have n0_ := Aside0.mk (hp_); have n1_ := Aside0.mk ((by rw [hw]; exact below_set (HB.out) GB7.out : Below w.heap.size w w25)); clear HO_5; clear HB; have HO_5 := n0_; have HB := n1_; clear n0_ n1_; clear hg hw hp_))
                                      (try simp only [← hl5_2])
                                      go_roundg k2
                                      case measure => have := HK1.out; have := HK2.out; omega
                                      case rel => exact ⟨(y265), (wrap64 (x7_2 + 1)), (by first | rfl | (simp; done) | (simp [*]; done)), H', ⟨by have := HK1.out; have := HK2.out; omega⟩, ⟨by (try simp only [hl5_1]); (try simp only [hl5_2]); (with_reducible repeat (first | apply Kd.R_alloc | apply Kd.R_drewN | apply Kd.R_drew)); exact HO_5.out⟩, ⟨by repeat (first | (with_reducible first | exact HB.out | apply below_alloc | apply pw_below_drewN | apply below_drew1) | exact HB.out)⟩⟩
                                    · rw [if_neg c22] at H
                                      exact absurd H (by simp)
                                  · rw [if_neg c21] at H
                                    exact absurd H (by simp)
                                · rw [if_neg c20] at H
                                  exact absurd H (by simp)
                              · rw [if_neg c19] at H
                                have c19b0 : decide (x7_2 < (((rd_T34 l0 x6_1).f4).length : Int)) = false := decide_eq_false c19
                                clear c19
                                have H' := Aside0.mk H
                                clear H
                                have p262 : 0 ≤ (x6_1 : Int) := of_decide_eq_true (by first | (with_reducible assumption) | assumption)
                                have q262 : x6_1 < (l0.length : Int) := of_decide_eq_true (by first | (with_reducible assumption) | assumption)
                                obtain ⟨ad262, A262_3, c262_3, A262_4, c262_4, A262_8, c262_8, A262_9, c262_9, e262, hx262_0, hx262_1, hx262_2, hx262_3, hx262_4, hx262_5, hx262_6, hx262_7, hx262_8, hx262_9, hl262_3, hi262_3, hl262_4, hi262_4, hl262_8, hi262_8, hl262_9, hi262_9⟩ := at_T34 HR0.out x6_1 p262 q262
                                cases e262
                                replace hx262_0 := (HB.out.cell (World.block_lt_of_cell? w _ hx262_0)).trans hx262_0
                                replace hx262_1 := (HB.out.cell (World.block_lt_of_cell? w _ hx262_1)).trans hx262_1
                                replace hx262_2 := (HB.out.cell (World.block_lt_of_cell? w _ hx262_2)).trans hx262_2
                                replace hx262_3 := (HB.out.cell (World.block_lt_of_cell? w _ hx262_3)).trans hx262_3
                                replace hx262_4 := (HB.out.cell (World.block_lt_of_cell? w _ hx262_4)).trans hx262_4
                                replace hx262_5 := (HB.out.cell (World.block_lt_of_cell? w _ hx262_5)).trans hx262_5
                                replace hx262_6 := (HB.out.cell (World.block_lt_of_cell? w _ hx262_6)).trans hx262_6
                                replace hx262_7 := (HB.out.cell (World.block_lt_of_cell? w _ hx262_7)).trans hx262_7
                                replace hx262_8 := (HB.out.cell (World.block_lt_of_cell? w _ hx262_8)).trans hx262_8
                                replace hx262_9 := (HB.out.cell (World.block_lt_of_cell? w _ hx262_9)).trans hx262_9
                                have HR262_3 := Aside0.mk hi262_3
                                have HC262_3 := Aside0.mk hl262_3
                                clear hi262_3 hl262_3
                                have HR262_4 := Aside0.mk hi262_4
                                have HC262_4 := Aside0.mk hl262_4
                                clear hi262_4 hl262_4
                                have HR262_8 := Aside0.mk hi262_8
                                have HC262_8 := Aside0.mk hl262_8
                                clear hi262_8 hl262_8
                                have HR262_9 := Aside0.mk hi262_9
                                have HC262_9 := Aside0.mk hl262_9
                                clear hi262_9 hl262_9
                                replace p262 := eq_true p262
                                replace q262 := eq_true q262
                                go_wp2
                                go_loopg [8] k2 (fun kq v8 w' => ∃ (x5_3 : List Bool) (x8_3 : Int), v8 = .int .i64 x8_3 ∧ Aside0 (cofferdamref16_below.l2 kq l0 x5_3 x6_1 x8_3 = some r) ∧ Aside0 (kq ≤ k2) ∧ Aside0 (Kd.R Kd.bool 4 w' w.heap.size (fun _ => True) (.slice (some ⟨go7, 0, none⟩) x5_2.length co7) x5_3) ∧ Aside0 (Below w.heap.size w w'))
                                case atStart => exact ⟨(x5_2), (0), (by first | rfl | (simp; done) | (simp [*]; done)), H', ⟨Nat.le_refl _⟩, ⟨by (try simp only [hl5_1]); (try simp only [hl5_2]); (with_reducible repeat (first | apply Kd.R_alloc | apply Kd.R_drewN | apply Kd.R_drew)); exact HO_5.out⟩, ⟨by repeat (first | (with_reducible first | exact HB.out | apply below_alloc | apply pw_below_drewN | apply below_drew1) | exact HB.out)⟩⟩
                                case round =>
                                  clear H'
                                  try clear c1
                                  try clear q1
                                  try clear c2
                                  try clear p2
                                  try clear q2
                                  try clear hx2
                                  try clear hf2
                                  try clear c3
                                  try clear c3b0
                                  try clear c3b1
                                  try clear c4
                                  try clear c4b0
                                  try clear c4b1
                                  try clear c5
                                  try clear c5b0
                                  try clear c6
                                  try clear c6b0
                                  try clear p6
                                  try clear p7
                                  try clear q7
                                  try clear hx7
                                  try clear hf7
                                  try clear c12
                                  try clear c12b0
                                  try clear c13
                                  try clear c13b0
                                  try clear c14
                                  try clear c14b0
                                  try clear q15
                                  try clear c16
                                  try clear c17
                                  try clear c17b0
                                  try clear c18
                                  try clear c18b0
                                  try clear c19
                                  try clear c19b0
                                  try clear c20
                                  try clear c20b0
                                  try clear c21
                                  try clear c21b0
                                  try clear c22
                                  try clear c22b0
                                  try clear p23
                                  try clear q23
                                  try clear hx23
                                  try clear hf23
                                  try clear hx23_0
                                  try clear hx261_0
                                  try clear hx262_0
                                  try clear hx262_1
                                  try clear hx262_2
                                  try clear hx262_3
                                  try clear hx262_4
                                  try clear hx262_5
                                  try clear hx262_6
                                  try clear hx262_7
                                  try clear hx262_8
                                  try clear hx262_9
                                  try clear hx263_0
                                  try clear hx263_1
                                  try clear hx263_2
                                  try clear hx263_3
                                  try clear hx263_4
                                  try clear hx263_5
                                  try clear hx263_6
                                  try clear hx263_7
                                  try clear hx263_8
                                  try clear hx263_9
                                  try clear hx264_0
                                  try clear hx7_0
                                  try clear p2
                                  try clear p23
                                  try clear p261
                                  try clear p262
                                  try clear p263
                                  try clear p264
                                  try clear p6
                                  try clear p7
                                  try clear q1
                                  try clear q15
                                  try clear q2
                                  try clear q23
                                  try clear q261
                                  try clear q262
                                  try clear q263
                                  try clear q264
                                  try clear q7
                                  obtain ⟨x5_3, x8_3, rfl, HA, HK3, HO_5, HB⟩ := hrel
                                  have hl5_3 := (Kd.R_reads' HO_5.out).1
                                  rw [hl5_3] at HO_5
                                  (try simp only [hl5_3])
                                  cases gk with
                                  | zero => exact absurd HA.out (by simp [cofferdamref16_below.l2])
                                  | succ k3 =>
                                    have H := HA.out
                                    clear HA
                                    simp only [cofferdamref16_below.l2] at H
                                    by_cases c26 : 0 ≤ x6_1
                                    · rw [if_pos c26] at H
                                      have c26b0 : decide (0 ≤ x6_1) = true := decide_eq_true c26
                                      clear c26
                                      by_cases c27 : x6_1 < (l0.length : Int)
                                      · rw [if_pos c27] at H
                                        have c27b0 : decide (x6_1 < (l0.length : Int)) = true := decide_eq_true c27
                                        clear c27
                                        by_cases c28 : x8_3 < (((rd_T34 l0 x6_1).f3).length : Int)
                                        · rw [if_pos c28] at H
                                          have c28b0 : decide (x8_3 < (((rd_T34 l0 x6_1).f3).length : Int)) = true := decide_eq_true c28
                                          clear c28
                                          by_cases c29 : 0 ≤ x8_3
                                          · rw [if_pos c29] at H
                                            have c29b0 : decide (0 ≤ x8_3) = true := decide_eq_true c29
                                            clear c29
                                            by_cases c30 : 0 ≤ ((rd_T36 ((rd_T34 l0 x6_1).f3) x8_3).f2)
                                            · rw [if_pos c30] at H
                                              have c30b0 : decide (0 ≤ ((rd_T36 ((rd_T34 l0 x6_1).f3) x8_3).f2)) = true := decide_eq_true c30
                                              clear c30
                                              by_cases c31 : ((rd_T36 ((rd_T34 l0 x6_1).f3) x8_3).f2) < (x5_3.length : Int)
                                              · rw [if_pos c31] at H
                                                have c31b0 : decide (((rd_T36 ((rd_T34 l0 x6_1).f3) x8_3).f2) < (x5_3.length : Int)) = true := decide_eq_true c31
                                                clear c31
                                                obtain ⟨y269, hy269⟩ : ∃ y_ : List Bool, y_ = (x5_3.set (((rd_T36 ((rd_T34 l0 x6_1).f3) x8_3).f2) : Int).toNat true) := ⟨_, rfl⟩
                                                replace H : (cofferdamref16_below.l2 k3 l0 y269 x6_1 (wrap64 (x8_3 + 1))) = some r := by first | (rw [hy269]; with_reducible exact H) | (have H2_ := (Option.bind_some _ _).symm.trans H; rw [hy269]; with_reducible exact H2_) | (have H2_ := (Option.bind_some _ _).symm.trans H; with_reducible exact H2_) | with_reducible exact H | (rw [hy269]; exact H) | exact H
                                                have Ny269 := Aside0.mk hy269
                                                clear hy269
                                                have H' := Aside0.mk H
                                                clear H
                                                have p266 : 0 ≤ (x6_1 : Int) := of_decide_eq_true (by first | (with_reducible assumption) | assumption)
                                                have q266 : x6_1 < (l0.length : Int) := of_decide_eq_true (by first | (with_reducible assumption) | assumption)
                                                obtain ⟨ad266, A266_3, c266_3, A266_4, c266_4, A266_8, c266_8, A266_9, c266_9, e266, hx266_0, hx266_1, hx266_2, hx266_3, hx266_4, hx266_5, hx266_6, hx266_7, hx266_8, hx266_9, hl266_3, hi266_3, hl266_4, hi266_4, hl266_8, hi266_8, hl266_9, hi266_9⟩ := at_T34 HR0.out x6_1 p266 q266
                                                obtain rfl : ad262 = ad266 := (by injection e266)
                                                replace hx266_0 := (HB.out.cell (World.block_lt_of_cell? w _ hx266_0)).trans hx266_0
                                                replace hx266_1 := (HB.out.cell (World.block_lt_of_cell? w _ hx266_1)).trans hx266_1
                                                replace hx266_2 := (HB.out.cell (World.block_lt_of_cell? w _ hx266_2)).trans hx266_2
                                                replace hx266_3 := (HB.out.cell (World.block_lt_of_cell? w _ hx266_3)).trans hx266_3
                                                replace hx266_4 := (HB.out.cell (World.block_lt_of_cell? w _ hx266_4)).trans hx266_4
                                                replace hx266_5 := (HB.out.cell (World.block_lt_of_cell? w _ hx266_5)).trans hx266_5
                                                replace hx266_6 := (HB.out.cell (World.block_lt_of_cell? w _ hx266_6)).trans hx266_6
                                                replace hx266_7 := (HB.out.cell (World.block_lt_of_cell? w _ hx266_7)).trans hx266_7
                                                replace hx266_8 := (HB.out.cell (World.block_lt_of_cell? w _ hx266_8)).trans hx266_8
                                                replace hx266_9 := (HB.out.cell (World.block_lt_of_cell? w _ hx266_9)).trans hx266_9
                                                have HR266_3 := Aside0.mk hi266_3
                                                have HC266_3 := Aside0.mk hl266_3
                                                clear hi266_3 hl266_3
                                                have HR266_4 := Aside0.mk hi266_4
                                                have HC266_4 := Aside0.mk hl266_4
                                                clear hi266_4 hl266_4
                                                have HR266_8 := Aside0.mk hi266_8
                                                have HC266_8 := Aside0.mk hl266_8
                                                clear hi266_8 hl266_8
                                                have HR266_9 := Aside0.mk hi266_9
                                                have HC266_9 := Aside0.mk hl266_9
                                                clear hi266_9 hl266_9
                                                replace p266 := eq_true p266
                                                replace q266 := eq_true q266
                                                have p267 : 0 ≤ (x6_1 : Int) := of_decide_eq_true (by first | (with_reducible assumption) | assumption)
                                                have q267 : x6_1 < (l0.length : Int) := of_decide_eq_true (by first | (with_reducible assumption) | assumption)
                                                obtain ⟨ad267, A267_3, c267_3, A267_4, c267_4, A267_8, c267_8, A267_9, c267_9, e267, hx267_0, hx267_1, hx267_2, hx267_3, hx267_4, hx267_5, hx267_6, hx267_7, hx267_8, hx267_9, hl267_3, hi267_3, hl267_4, hi267_4, hl267_8, hi267_8, hl267_9, hi267_9⟩ := at_T34 HR0.out x6_1 p267 q267
                                                obtain rfl : ad262 = ad267 := (by injection e267)
                                                replace hx267_0 := (HB.out.cell (World.block_lt_of_cell? w _ hx267_0)).trans hx267_0
                                                replace hx267_1 := (HB.out.cell (World.block_lt_of_cell? w _ hx267_1)).trans hx267_1
                                                replace hx267_2 := (HB.out.cell (World.block_lt_of_cell? w _ hx267_2)).trans hx267_2
                                                replace hx267_3 := (HB.out.cell (World.block_lt_of_cell? w _ hx267_3)).trans hx267_3
                                                replace hx267_4 := (HB.out.cell (World.block_lt_of_cell? w _ hx267_4)).trans hx267_4
                                                replace hx267_5 := (HB.out.cell (World.block_lt_of_cell? w _ hx267_5)).trans hx267_5
                                                replace hx267_6 := (HB.out.cell (World.block_lt_of_cell? w _ hx267_6)).trans hx267_6
                                                replace hx267_7 := (HB.out.cell (World.block_lt_of_cell? w _ hx267_7)).trans hx267_7
                                                replace hx267_8 := (HB.out.cell (World.block_lt_of_cell? w _ hx267_8)).trans hx267_8
                                                replace hx267_9 := (HB.out.cell (World.block_lt_of_cell? w _ hx267_9)).trans hx267_9
                                                have HR267_3 := Aside0.mk hi267_3
                                                have HC267_3 := Aside0.mk hl267_3
                                                clear hi267_3 hl267_3
                                                have HR267_4 := Aside0.mk hi267_4
                                                have HC267_4 := Aside0.mk hl267_4
                                                clear hi267_4 hl267_4
                                                have HR267_8 := Aside0.mk hi267_8
                                                have HC267_8 := Aside0.mk hl267_8
                                                clear hi267_8 hl267_8
                                                have HR267_9 := Aside0.mk hi267_9
                                                have HC267_9 := Aside0.mk hl267_9
                                                clear hi267_9 hl267_9
                                                replace p267 := eq_true p267
                                                replace q267 := eq_true q267
                                                have ea_ := Option.some.inj (hx266_3.symm.trans hx267_3)
                                                injection ea_ with ea_ en_ ec_
                                                subst ea_
                                                subst ec_
                                                clear en_
                                                have ea_ := Option.some.inj (hx266_4.symm.trans hx267_4)
                                                injection ea_ with ea_ en_ ec_
                                                subst ea_
                                                subst ec_
                                                clear en_
                                                have ea_ := Option.some.inj (hx266_8.symm.trans hx267_8)
                                                injection ea_ with ea_ en_ ec_
                                                subst ea_
                                                subst ec_
                                                clear en_
                                                have ea_ := Option.some.inj (hx266_9.symm.trans hx267_9)
                                                injection ea_ with ea_ en_ ec_
                                                subst ea_
                                                subst ec_
                                                clear en_
                                                have p268 : 0 ≤ (x8_3 : Int) := of_decide_eq_true (by first | (with_reducible assumption) | assumption)
                                                have q268 : x8_3 < (((rd_T34 l0 x6_1).f3).length : Int) := of_decide_eq_true (by first | (with_reducible assumption) | assumption)
                                                obtain ⟨ad268, e268, hx268_0, hx268_1, hx268_2, hx268_3⟩ := at_T36 HR267_3.out x8_3 p268 q268
                                                cases e268
                                                replace hx268_0 := (HB.out.cell (World.block_lt_of_cell? w _ hx268_0)).trans hx268_0
                                                replace hx268_1 := (HB.out.cell (World.block_lt_of_cell? w _ hx268_1)).trans hx268_1
                                                replace hx268_2 := (HB.out.cell (World.block_lt_of_cell? w _ hx268_2)).trans hx268_2
                                                replace hx268_3 := (HB.out.cell (World.block_lt_of_cell? w _ hx268_3)).trans hx268_3
                                                replace p268 := eq_true p268
                                                replace q268 := eq_true q268
                                                have p32 : 0 ≤ (((rd_T36 ((rd_T34 l0 x6_1).f3) x8_3).f2) : Int) := of_decide_eq_true (by first | (with_reducible assumption) | assumption)
                                                have q32 : (((rd_T36 ((rd_T34 l0 x6_1).f3) x8_3).f2) : Int) < ((x5_3.length : Int) : Int) := of_decide_eq_true (by first | (with_reducible assumption) | assumption)
                                                obtain ⟨hx32_0, hf32_0⟩ := Kd.R_celln false HO_5.out (((rd_T36 ((rd_T34 l0 x6_1).f3) x8_3).f2) : Int) p32 q32
                                                replace p32 := eq_true p32
                                                replace q32 := eq_true q32
                                                have HP33 := Kd.R_putg HO_5.out (((rd_T36 ((rd_T34 l0 x6_1).f3) x8_3).f2) : Int) true
                                                go_wp2_with (first | ((with_reducible refine gate_store (t := 4) (p := 65) rfl ?_); refine store_event (t := 4) (p := 65) (v := ?vo_w34) (w1 := (wr.setCell ⟨go7, (((rd_T36 ((rd_T34 l0 x6_1).f3) x8_3).f2) : Int).toNat, none⟩ (.bool true))) ?hg ?ho ?hn ?hr ?_; (case ho => rfl); (case hg => rfl); (case hn => rfl); (case hr => first | (go_simp; done) | (go_simp; rfl)); intro w34 hw; have hg : wr.grownBy w34 (some go7) := (by rw [hw]; exact HP33.2); have hp_ : Kd.R Kd.bool 4 w34 w.heap.size (fun _ => True) (.slice (some ⟨go7, 0, none⟩) x5_3.length co7) y269 := (by rw [hw, Ny269.out]; exact HP33.1); clear HP33; have n0_ := Aside0.mk (hp_); have n1_ := Aside0.mk ((by rw [hw]; exact below_set (HB.out) GB7.out : Below w.heap.size w w34)); clear HO_5; clear HB; have HO_5 := n0_; have HB := n1_; clear n0_ n1_; clear hg hw hp_))
                                                (try simp only [← hl5_3])
                                                go_roundg k3
                                                case measure => have := HK1.out; have := HK2.out; have := HK3.out; omega
                                                case rel => exact ⟨(y269), (wrap64 (x8_3 + 1)), (by first | rfl | (simp; done) | (simp [*]; done)), H', ⟨by have := HK1.out; have := HK2.out; have := HK3.out; omega⟩, ⟨by (try simp only [hl5_1]); (try simp only [hl5_2]); (try simp only [hl5_3]); (with_reducible repeat (first | apply Kd.R_alloc | apply Kd.R_drewN | apply Kd.R_drew)); exact HO_5.out⟩, ⟨by repeat (first | (with_reducible first | exact HB.out | apply below_alloc | apply pw_below_drewN | apply below_drew1) | exact HB.out)⟩⟩
                                              · rw [if_neg c31] at H
                                                exact absurd H (by simp)
                                            · rw [if_neg c30] at H
                                              exact absurd H (by simp)
                                          · rw [if_neg c29] at H
                                            exact absurd H (by simp)
                                        · rw [if_neg c28] at H
                                          have c28b0 : decide (x8_3 < (((rd_T34 l0 x6_1).f3).length : Int)) = false := decide_eq_false c28
                                          clear c28
                                          have H' := Aside0.mk H
                                          clear H
                                          have p266 : 0 ≤ (x6_1 : Int) := of_decide_eq_true (by first | (with_reducible assumption) | assumption)
                                          have q266 : x6_1 < (l0.length : Int) := of_decide_eq_true (by first | (with_reducible assumption) | assumption)
                                          obtain ⟨ad266, A266_3, c266_3, A266_4, c266_4, A266_8, c266_8, A266_9, c266_9, e266, hx266_0, hx266_1, hx266_2, hx266_3, hx266_4, hx266_5, hx266_6, hx266_7, hx266_8, hx266_9, hl266_3, hi266_3, hl266_4, hi266_4, hl266_8, hi266_8, hl266_9, hi266_9⟩ := at_T34 HR0.out x6_1 p266 q266
                                          obtain rfl : ad262 = ad266 := (by injection e266)
                                          replace hx266_0 := (HB.out.cell (World.block_lt_of_cell? w _ hx266_0)).trans hx266_0
                                          replace hx266_1 := (HB.out.cell (World.block_lt_of_cell? w _ hx266_1)).trans hx266_1
                                          replace hx266_2 := (HB.out.cell (World.block_lt_of_cell? w _ hx266_2)).trans hx266_2
                                          replace hx266_3 := (HB.out.cell (World.block_lt_of_cell? w _ hx266_3)).trans hx266_3
                                          replace hx266_4 := (HB.out.cell (World.block_lt_of_cell? w _ hx266_4)).trans hx266_4
                                          replace hx266_5 := (HB.out.cell (World.block_lt_of_cell? w _ hx266_5)).trans hx266_5
                                          replace hx266_6 := (HB.out.cell (World.block_lt_of_cell? w _ hx266_6)).trans hx266_6
                                          replace hx266_7 := (HB.out.cell (World.block_lt_of_cell? w _ hx266_7)).trans hx266_7
                                          replace hx266_8 := (HB.out.cell (World.block_lt_of_cell? w _ hx266_8)).trans hx266_8
                                          replace hx266_9 := (HB.out.cell (World.block_lt_of_cell? w _ hx266_9)).trans hx266_9
                                          have HR266_3 := Aside0.mk hi266_3
                                          have HC266_3 := Aside0.mk hl266_3
                                          clear hi266_3 hl266_3
                                          have HR266_4 := Aside0.mk hi266_4
                                          have HC266_4 := Aside0.mk hl266_4
                                          clear hi266_4 hl266_4
                                          have HR266_8 := Aside0.mk hi266_8
                                          have HC266_8 := Aside0.mk hl266_8
                                          clear hi266_8 hl266_8
                                          have HR266_9 := Aside0.mk hi266_9
                                          have HC266_9 := Aside0.mk hl266_9
                                          clear hi266_9 hl266_9
                                          replace p266 := eq_true p266
                                          replace q266 := eq_true q266
                                          go_wp2
                                          (try simp only [← hl5_1, ← hl5_2, ← hl5_3])
                                          go_roundg k3
                                          case measure => have := HK1.out; have := HK2.out; have := HK3.out; omega
                                          case rel => exact ⟨(x5_3), (wrap64 (x6_1 - 1)), (by first | rfl | (simp; done) | (simp [*]; done)), H', ⟨by have := HK1.out; have := HK2.out; have := HK3.out; omega⟩, ⟨by (try simp only [hl5_1]); (try simp only [hl5_2]); (try simp only [hl5_3]); (with_reducible repeat (first | apply Kd.R_alloc | apply Kd.R_drewN | apply Kd.R_drew)); exact HO_5.out⟩, ⟨by repeat (first | (with_reducible first | exact HB.out | apply below_alloc | apply pw_below_drewN | apply below_drew1) | exact HB.out)⟩⟩
                                      · rw [if_neg c27] at H
                                        exact absurd H (by simp)
                                    · rw [if_neg c26] at H
                                      exact absurd H (by simp)
                            · rw [if_neg c18] at H
                              exact absurd H (by simp)
                          · rw [if_neg c17] at H
                            exact absurd H (by simp)
                    · replace c16 := Bool.eq_false_iff.mpr c16
                      subst c16
                      have H1 : (cofferdamref16_below.l0 k1 l0 x5_1 (wrap64 (x6_1 - 1))) = some r := by rw [if_neg (show ¬ (false = true) by decide)] at H; exact H
                      clear H
                      have H := H1
                      clear H1
                      have H' := Aside0.mk H
                      clear H
                      have p261 : 0 ≤ (x6_1 : Int) := of_decide_eq_true (by first | (with_reducible assumption) | assumption)
                      have q261 : x6_1 < (x5_1.length : Int) := of_decide_eq_true (by first | (with_reducible assumption) | assumption)
                      obtain ⟨ad261, e261, hx261_0⟩ := Kd.at_bool (Kd.R_reads' HO_5.out).2.2 x6_1 p261 q261
                      (try rw [← Nbq15.out] at hx261_0)
                      obtain rfl : (⟨go7, 0, none⟩ : Addr) = ad261 := (by injection e261)
                      (first | simp only [add_plain] at hx261_0 | simp only [add_at] at hx261_0 | simp only [Addr.add, Nat.zero_add] at hx261_0 | skip)
                      replace p261 := eq_true p261
                      replace q261 := eq_true q261
                      go_wp2
                      (try simp only [← hl5_1])
                      go_roundg k1
                      case measure => have := HK1.out; omega
                      case rel => exact ⟨(x5_1), (wrap64 (x6_1 - 1)), (by first | rfl | (simp; done) | (simp [*]; done)), H', ⟨by have := HK1.out; omega⟩, ⟨by (try simp only [hl5_1]); (with_reducible repeat (first | apply Kd.R_alloc | apply Kd.R_drewN | apply Kd.R_drew)); exact HO_5.out⟩, ⟨by repeat (first | (with_reducible first | exact HB.out | apply below_alloc | apply pw_below_drewN | apply below_drew1) | exact HB.out)⟩⟩
                  · rw [if_neg c14] at H
                    exact absurd H (by simp)
                · rw [if_neg c13] at H
                  exact absurd H (by simp)
              · rw [if_neg c12] at H
                have c12b0 : decide (0 ≤ x6_1) = false := decide_eq_false c12
                clear c12
                obtain rfl := Option.some.inj H
                go_wp2
                go_ret
                exact ⟨_, by first | rfl | (simp [errW_none, errW_some] <;> rfl) | (simp [*, errW_none, errW_some] <;> rfl), by (with_reducible repeat (first | apply Kd.R_alloc | apply Kd.R_drewN | apply Kd.R_drew)); exact HO_5.out, by repeat (first | (with_reducible first | exact HB.out | apply below_alloc | apply pw_below_drewN | apply below_drew1) | exact HB.out)⟩
        · rw [if_neg c6] at H
          exact absurd H (by simp)
      · rw [if_neg c5] at H
        exact absurd H (by simp)
    · rw [if_neg c4] at H
      exact absurd H (by simp)
  · rw [if_neg c3] at H
    exact absurd H (by simp)

end Go.Proofs.Ytneglmnffdmbiaa.P
