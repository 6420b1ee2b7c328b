/- Proved here, for this seat's claims: what the functions that the laws reach compute: the texts of this work, one behind the other, laid by a program of this session. Conditions: none beside the statement's own. -/
import Derived.Test.YtknbfhhmjbnemaaDoorMB1
import Derived.Test.YtknbfhhmjbnemaaDoorMB2
import Derived.Test.YtknbfhhmjbnemaaDoorMB3
import Derived.Test.YtknbfhhmjbnemaaDoorMB4
section
namespace Go.Proofs.YtknbfhhmjbnemaaDoor.P
open Go.RowKit Go.Proofs.YtknbfhhmjbnemaaDoorW.PrintWords Go.Proofs.YtknbfhhmjbnemaaDoorW.PrintLast Go.Proofs.YtknbfhhmjbnemaaDoorW.PrintMore
attribute [local go_sem] max2_int min2_int max_two min_two max_three min_three max_four min_four   -- for this text's walks alone
set_option linter.unusedVariables false
set_option linter.unusedSimpArgs false

/-! ### parse_Right: function 15 -/
mutual
def parse_Right.j0 : Nat → Bool → ByteArray → ByteArray → Int → Int → List (S25) → Option (Bool)
  | 0, _, _, _, _, _, _ => none
  | k + 1, x17, x177000, x177001, x177002, x177003, x177004 => if x17 = true then (some false) else (parse_Right.l0 k x177004 (x177004.length : Int) 0)
def parse_Right.l0 : Nat → List (S25) → Int → Int → Option (Bool)
  | 0, _, _, _ => none
  | k + 1, x19, x20, x21 => if x21 < x20 then (if 0 ≤ x21 then (if x21 < (x19.length : Int) then ((parse_statement.f k ((rd_T25 x19 x21).f0) ((rd_T25 x19 x21).f1) ((rd_T25 x19 x21).f2) ((rd_T25 x19 x21).f3) ((rd_T25 x19 x21).f4)).bind fun t179 => (if t179 = true then (parse_Right.l0 k x19 x20 (wrap64 (x21 + 1))) else (some false))) else (none)) else (none)) else (some true)
end
def parse_Right.f (k : Nat) (a0_0 : ByteArray) (a0_1 : ByteArray) (a0_2 : Int) (a0_3 : Int) (l0_4 : List (S25)) : Option (Bool) := if a0_0.toList = ([102, 105, 108, 101] : List UInt8) then (if a0_1.toList = ([] : List UInt8) then (parse_Right.j0 k (a0_2 != 0) a0_0 a0_1 a0_2 a0_3 l0_4) else (parse_Right.j0 k true a0_0 a0_1 a0_2 a0_3 l0_4)) else (parse_Right.j0 k true a0_0 a0_1 a0_2 a0_3 l0_4)
theorem parse_Right.mono_l : ∀ k, (∀ y0 y1 y2 y3 y4 y5, LeO (parse_Right.j0 k y0 y1 y2 y3 y4 y5) (parse_Right.j0 (k + 1) y0 y1 y2 y3 y4 y5)) ∧ (∀ y0 y1 y2, LeO (parse_Right.l0 k y0 y1 y2) (parse_Right.l0 (k + 1) y0 y1 y2))
  | 0 => ⟨fun _ _ _ _ _ _ r h => by simp [parse_Right.j0] at h, fun _ _ _ r h => by simp [parse_Right.l0] at h⟩
  | k + 1 => by
    obtain ⟨ih0, ih1⟩ := parse_Right.mono_l k
    refine ⟨?_, ?_⟩
    · intro y0 y1 y2 y3 y4 y5
      unfold parse_Right.j0
      repeat' first
      | (with_reducible exact ih0 _ _ _ _ _ _)
      | (with_reducible exact ih1 _ _ _)
      | (with_reducible exact parse_statement.mono _ _ _ _ _ _)
      | (with_reducible exact LeO.refl _)
      | (with_reducible exact LeO.none _)
      | (with_reducible refine LeO.ite ?_ ?_)
      | (with_reducible refine LeO.bind ?_ (fun _ => ?_))
      | exact ih0 _ _ _ _ _ _
      | exact ih1 _ _ _
      | exact parse_statement.mono _ _ _ _ _ _
      | exact LeO.none _
      | refine LeO.ite ?_ ?_
      | refine LeO.bind ?_ (fun _ => ?_)
    · intro y0 y1 y2
      unfold parse_Right.l0
      repeat' first
      | (with_reducible exact ih0 _ _ _ _ _ _)
      | (with_reducible exact ih1 _ _ _)
      | (with_reducible exact parse_statement.mono _ _ _ _ _ _)
      | (with_reducible exact LeO.refl _)
      | (with_reducible exact LeO.none _)
      | (with_reducible refine LeO.ite ?_ ?_)
      | (with_reducible refine LeO.bind ?_ (fun _ => ?_))
      | exact ih0 _ _ _ _ _ _
      | exact ih1 _ _ _
      | exact parse_statement.mono _ _ _ _ _ _
      | exact LeO.none _
      | refine LeO.ite ?_ ?_
      | refine LeO.bind ?_ (fun _ => ?_)
theorem parse_Right.mono : ∀ a0 a1 a2 a3 a4 k, LeO (parse_Right.f k a0 a1 a2 a3 a4) (parse_Right.f (k + 1) a0 a1 a2 a3 a4) := by
  intro a0 a1 a2 a3 a4 k
  obtain ⟨ih0, ih1⟩ := parse_Right.mono_l k
  unfold parse_Right.f
  repeat' first
      | (with_reducible exact ih0 _ _ _ _ _ _)
      | (with_reducible exact ih1 _ _ _)
      | (with_reducible exact parse_statement.mono _ _ _ _ _ _)
      | (with_reducible exact LeO.refl _)
      | (with_reducible exact LeO.none _)
      | (with_reducible refine LeO.ite ?_ ?_)
      | (with_reducible refine LeO.bind ?_ (fun _ => ?_))
      | exact ih0 _ _ _ _ _ _
      | exact ih1 _ _ _
      | exact parse_statement.mono _ _ _ _ _ _
      | exact LeO.none _
      | refine LeO.ite ?_ ?_
      | refine LeO.bind ?_ (fun _ => ?_)
set_option maxHeartbeats 8000000 in
set_option maxRecDepth 100000 in
theorem parse_Right.calls (k : Nat) (a0_0 : ByteArray) (a0_1 : ByteArray) (a0_2 : Int) (a0_3 : Int) (A0_4 : Option Addr) (c0_4 : Nat) (l0_4 : List (S25)) (r : Bool) (w : World) (hr0_4 : Kd.C k25 w A0_4 l0_4.length l0_4) (hc0_4 : l0_4.length ≤ c0_4) (h : parse_Right.f k a0_0 a0_1 a0_2 a0_3 l0_4 = some r) (m_ : Int) (hm_ : w.cell? ⟨0, 0, none⟩ = some (.int .i64 m_)) :
    Calls Tryd.prog 15 #[.agg #[.string a0_0, .string a0_1, .int .i64 a0_2, .int .i64 a0_3, .slice A0_4 l0_4.length c0_4]] w fun e w' => e = .returned (.bool r) ∧ Below w.heap.size w w' := by
  have hmA_ := Aside0.mk hm_
  clear hm_
  have hu25 := Tryd.underlying25
  have HR0_4 := Aside0.mk hr0_4
  have HC0_4 := Aside0.mk hc0_4
  clear hr0_4 hc0_4
  have HB := Aside0.mk (Below.refl w.heap.size w)
  have H : (if a0_0.toList = ([102, 105, 108, 101] : List UInt8) then (if a0_1.toList = ([] : List UInt8) then (parse_Right.j0 k (a0_2 != 0) a0_0 a0_1 a0_2 a0_3 l0_4) else (parse_Right.j0 k true a0_0 a0_1 a0_2 a0_3 l0_4)) else (parse_Right.j0 k true a0_0 a0_1 a0_2 a0_3 l0_4)) = some r := h
  clear h
  have HC2 := Aside0.mk H
  clear H
  go_enter Tryd.func15, Tryd.ntmps15
  go_upto_region 1 with (first | ((with_reducible refine gate_dst (N := 1) rfl ?_); refine box_event ?hg (N := 1) ?hd (cs := #[.string a0_0, .string a0_1, .int .i64 a0_2, .int .i64 a0_3, .slice A0_4 l0_4.length c0_4]) (t := 25) ?hr ?_; (case hd => rfl); (case hg => rfl); (case hr => first | (go_simp; done) | (go_simp; rfl)); intro gb176 hg w3 hbox hb; have n0_ := Aside0.mk (below_step (by repeat (first | (with_reducible first | exact HB.out | apply below_alloc | apply pw_below_drewN | apply below_drew1) | exact HB.out)) hb); have n1_ := Aside0.mk (hbox); have n2_ := Aside0.mk ((by rw [hg]; exact (below_size (by repeat (first | (with_reducible first | exact HB.out | apply below_alloc | apply pw_below_drewN | apply below_drew1) | exact HB.out))) : w.heap.size ≤ gb176)); have n3_ := Aside0.mk ((by rw [hg]; exact (below_size (by repeat (first | (with_reducible first | exact HB.out | apply below_alloc | apply pw_below_drewN | apply below_drew1) | exact HB.out))) : w.heap.size ≤ gb176)); clear HB; have HB := n0_; have BK176 := n1_; have GW176 := n2_; have GE176 := n3_; clear n0_ n1_ n2_ n3_; clear hb hbox hg))
  (try simp only [Act.put, List.setIfInBounds_toArray, List.set_cons_zero, List.set_cons_succ])
  go_cut [17] (fun v17 wc => ∃ (kq : Nat) (x17_1 : Bool), v17 = .bool x17_1 ∧ Aside0 (parse_Right.j0 kq x17_1 a0_0 a0_1 a0_2 a0_3 l0_4 = some r) ∧ Aside0 (kq ≤ k) ∧ Aside0 (wc.heap[gb176]? = some (.cells #[.string a0_0, .string a0_1, .int .i64 a0_2, .int .i64 a0_3, (.slice A0_4 l0_4.length c0_4)] 25 (0, 0))) ∧ Aside0 (Below w.heap.size w wc))
  case first =>
    have H := HC2.out
    clear HC2
    by_cases c4 : a0_0.toList = ([102, 105, 108, 101] : List UInt8)
    · rw [if_pos c4] at H
      have c4b0 : (a0_0.toList == ([102, 105, 108, 101] : List UInt8)) = true := beq_iff_eq.mpr c4
      have c4b1 : (a0_0.toList != ([102, 105, 108, 101] : List UInt8)) = false := bne_eq_false_iff_eq.mpr c4
      clear c4
      (first | rw [c4b0] | (simp only [i64_w, i32_w]; rw [c4b0]) | skip)
      by_cases c5 : a0_1.toList = ([] : List UInt8)
      · rw [if_pos c5] at H
        have c5b0 : (a0_1.toList == ([] : List UInt8)) = true := beq_iff_eq.mpr c5
        have c5b1 : (a0_1.toList != ([] : List UInt8)) = false := bne_eq_false_iff_eq.mpr c5
        clear c5
        have H' := Aside0.mk H
        clear H
        have hcz6_0 : w3.cell? ⟨gb176, 0, none⟩ = some (.string a0_0) := (blk_cell BK176.out 0).trans rfl
        have hcz6_1 : w3.cell? ⟨gb176, 1, none⟩ = some (.string a0_1) := (blk_cell BK176.out 1).trans rfl
        have hcz6_2 : w3.cell? ⟨gb176, 2, none⟩ = some (.int .i64 a0_2) := (blk_cell BK176.out 2).trans rfl
        have hcz6_3 : w3.cell? ⟨gb176, 3, none⟩ = some (.int .i64 a0_3) := (blk_cell BK176.out 3).trans rfl
        have hcz6_4 : w3.cell? ⟨gb176, 4, none⟩ = some (.slice A0_4 l0_4.length c0_4) := (blk_cell BK176.out 4).trans rfl
        have hfz6_0 := blk_frozen BK176.out 0
        have hfz6_1 := blk_frozen BK176.out 1
        have hfz6_2 := blk_frozen BK176.out 2
        have hfz6_3 := blk_frozen BK176.out 3
        have hfz6_4 := blk_frozen BK176.out 4
        go_wp2
        go_meet
        case rel => exact ⟨_, ((a0_2 != 0)), (by first | rfl | (simp; done) | (simp [*]; done)), H', ⟨by first | omega | exact Nat.le_refl _⟩, ⟨by (with_reducible repeat (first | refine blk_drewN ?_ _ | refine blk_drew ?_ | refine blk_alloc ?_ _)); exact BK176.out⟩, ⟨by repeat (first | (with_reducible first | exact HB.out | apply below_alloc | apply pw_below_drewN | apply below_drew1 | refine below_set ?_ GE176.out) | exact HB.out)⟩⟩
      · rw [if_neg c5] at H
        have c5b0 : (a0_1.toList == ([] : List UInt8)) = false := beq_eq_false_iff_ne.mpr c5
        have c5b1 : (a0_1.toList != ([] : List UInt8)) = true := bne_iff_ne.mpr c5
        have H' := Aside0.mk H
        clear H
        have hcz7_0 : w3.cell? ⟨gb176, 0, none⟩ = some (.string a0_0) := (blk_cell BK176.out 0).trans rfl
        have hcz7_1 : w3.cell? ⟨gb176, 1, none⟩ = some (.string a0_1) := (blk_cell BK176.out 1).trans rfl
        have hcz7_2 : w3.cell? ⟨gb176, 2, none⟩ = some (.int .i64 a0_2) := (blk_cell BK176.out 2).trans rfl
        have hcz7_3 : w3.cell? ⟨gb176, 3, none⟩ = some (.int .i64 a0_3) := (blk_cell BK176.out 3).trans rfl
        have hcz7_4 : w3.cell? ⟨gb176, 4, none⟩ = some (.slice A0_4 l0_4.length c0_4) := (blk_cell BK176.out 4).trans rfl
        have hfz7_0 := blk_frozen BK176.out 0
        have hfz7_1 := blk_frozen BK176.out 1
        have hfz7_2 := blk_frozen BK176.out 2
        have hfz7_3 := blk_frozen BK176.out 3
        have hfz7_4 := blk_frozen BK176.out 4
        go_wp2
        go_meet
        case rel => exact ⟨_, (true), (by first | rfl | (simp; done) | (simp [*]; done)), H', ⟨by first | omega | exact Nat.le_refl _⟩, ⟨by (with_reducible repeat (first | refine blk_drewN ?_ _ | refine blk_drew ?_ | refine blk_alloc ?_ _)); exact BK176.out⟩, ⟨by repeat (first | (with_reducible first | exact HB.out | apply below_alloc | apply pw_below_drewN | apply below_drew1 | refine below_set ?_ GE176.out) | exact HB.out)⟩⟩
    · rw [if_neg c4] at H
      have c4b0 : (a0_0.toList == ([102, 105, 108, 101] : List UInt8)) = false := beq_eq_false_iff_ne.mpr c4
      have c4b1 : (a0_0.toList != ([102, 105, 108, 101] : List UInt8)) = true := bne_iff_ne.mpr c4
      (first | rw [c4b0] | (simp only [i64_w, i32_w]; rw [c4b0]) | skip)
      have H' := Aside0.mk H
      clear H
      have hcz8_0 : w3.cell? ⟨gb176, 0, none⟩ = some (.string a0_0) := (blk_cell BK176.out 0).trans rfl
      have hcz8_1 : w3.cell? ⟨gb176, 1, none⟩ = some (.string a0_1) := (blk_cell BK176.out 1).trans rfl
      have hcz8_2 : w3.cell? ⟨gb176, 2, none⟩ = some (.int .i64 a0_2) := (blk_cell BK176.out 2).trans rfl
      have hcz8_3 : w3.cell? ⟨gb176, 3, none⟩ = some (.int .i64 a0_3) := (blk_cell BK176.out 3).trans rfl
      have hcz8_4 : w3.cell? ⟨gb176, 4, none⟩ = some (.slice A0_4 l0_4.length c0_4) := (blk_cell BK176.out 4).trans rfl
      have hfz8_0 := blk_frozen BK176.out 0
      have hfz8_1 := blk_frozen BK176.out 1
      have hfz8_2 := blk_frozen BK176.out 2
      have hfz8_3 := blk_frozen BK176.out 3
      have hfz8_4 := blk_frozen BK176.out 4
      go_wp2
      go_meet
      case rel => exact ⟨_, (true), (by first | rfl | (simp; done) | (simp [*]; done)), H', ⟨by first | omega | exact Nat.le_refl _⟩, ⟨by (with_reducible repeat (first | refine blk_drewN ?_ _ | refine blk_drew ?_ | refine blk_alloc ?_ _)); exact BK176.out⟩, ⟨by repeat (first | (with_reducible first | exact HB.out | apply below_alloc | apply pw_below_drewN | apply below_drew1 | refine below_set ?_ GE176.out) | exact HB.out)⟩⟩
  case rest =>
    clear HC2
    try clear c1
    try clear p2
    try clear c4
    try clear c4b0
    try clear c4b1
    try clear c5
    try clear c5b0
    try clear c5b1
    try clear hcz6_0
    try clear hcz6_1
    try clear hcz6_2
    try clear hcz6_3
    try clear hcz6_4
    try clear hcz7_0
    try clear hcz7_1
    try clear hcz7_2
    try clear hcz7_3
    try clear hcz7_4
    try clear hcz8_0
    try clear hcz8_1
    try clear hcz8_2
    try clear hcz8_3
    try clear hcz8_4
    try clear hfz6_0
    try clear hfz6_1
    try clear hfz6_2
    try clear hfz6_3
    try clear hfz6_4
    try clear hfz7_0
    try clear hfz7_1
    try clear hfz7_2
    try clear hfz7_3
    try clear hfz7_4
    try clear hfz8_0
    try clear hfz8_1
    try clear hfz8_2
    try clear hfz8_3
    try clear hfz8_4
    obtain ⟨kq, x17_1, rfl, HA, HJ1, BK176, HB⟩ := hcut
    cases kq with
    | zero => exact absurd HA.out (by simp [parse_Right.j0])
    | succ kj1 =>
      have H := HA.out
      clear HA
      simp only [parse_Right.j0] at H
      by_cases c9 : x17_1 = true
      · subst c9
        have H1 : (some false) = some r := by rw [if_pos rfl] at H; exact H
        clear H
        have H := H1
        clear H1
        obtain rfl := Option.some.inj H
        go_wp2
        go_ret
        exact ⟨by first | rfl | (simp [errW_none, errW_some] <;> rfl) | (simp [*, errW_none, errW_some] <;> rfl), by repeat (first | (with_reducible first | exact HB.out | apply below_alloc | apply pw_below_drewN | apply below_drew1 | refine below_set ?_ GE176.out) | exact HB.out)⟩
      · replace c9 := Bool.eq_false_iff.mpr c9
        subst c9
        have H1 : (parse_Right.l0 kj1 l0_4 (l0_4.length : Int) 0) = some r := by rw [if_neg (show ¬ (false = true) by decide)] at H; exact H
        clear H
        have H := H1
        clear H1
        have H' := Aside0.mk H
        clear H
        have hcz10_0 : wc.cell? ⟨gb176, 0, none⟩ = some (.string a0_0) := (blk_cell BK176.out 0).trans rfl
        have hcz10_1 : wc.cell? ⟨gb176, 1, none⟩ = some (.string a0_1) := (blk_cell BK176.out 1).trans rfl
        have hcz10_2 : wc.cell? ⟨gb176, 2, none⟩ = some (.int .i64 a0_2) := (blk_cell BK176.out 2).trans rfl
        have hcz10_3 : wc.cell? ⟨gb176, 3, none⟩ = some (.int .i64 a0_3) := (blk_cell BK176.out 3).trans rfl
        have hcz10_4 : wc.cell? ⟨gb176, 4, none⟩ = some (.slice A0_4 l0_4.length c0_4) := (blk_cell BK176.out 4).trans rfl
        have hfz10_0 := blk_frozen BK176.out 0
        have hfz10_1 := blk_frozen BK176.out 1
        have hfz10_2 := blk_frozen BK176.out 2
        have hfz10_3 := blk_frozen BK176.out 3
        have hfz10_4 := blk_frozen BK176.out 4
        go_wp2
        go_loopg [21] kj1 (fun kq v21 w' => ∃ (x21_2 : Int), v21 = .int .i64 x21_2 ∧ Aside0 (parse_Right.l0 kq l0_4 (l0_4.length : Int) x21_2 = some r) ∧ Aside0 (kq ≤ kj1) ∧ Aside0 (w'.heap[gb176]? = some (.cells #[.string a0_0, .string a0_1, .int .i64 a0_2, .int .i64 a0_3, (.slice A0_4 l0_4.length c0_4)] 25 (0, 0))) ∧ Aside0 (Below w.heap.size w w'))
        case atStart => exact ⟨(0), (by first | rfl | (simp; done) | (simp [*]; done)), H', ⟨Nat.le_refl _⟩, ⟨by (with_reducible repeat (first | refine blk_drewN ?_ _ | refine blk_drew ?_ | refine blk_alloc ?_ _)); exact BK176.out⟩, ⟨by repeat (first | (with_reducible first | exact HB.out | apply below_alloc | apply pw_below_drewN | apply below_drew1 | refine below_set ?_ GE176.out) | exact HB.out)⟩⟩
        case round =>
          clear H'
          try clear c1
          try clear p2
          try clear c4
          try clear c4b0
          try clear c4b1
          try clear c5
          try clear c5b0
          try clear c5b1
          try clear c9
          try clear hcz10_0
          try clear hcz10_1
          try clear hcz10_2
          try clear hcz10_3
          try clear hcz10_4
          try clear hcz6_0
          try clear hcz6_1
          try clear hcz6_2
          try clear hcz6_3
          try clear hcz6_4
          try clear hcz7_0
          try clear hcz7_1
          try clear hcz7_2
          try clear hcz7_3
          try clear hcz7_4
          try clear hcz8_0
          try clear hcz8_1
          try clear hcz8_2
          try clear hcz8_3
          try clear hcz8_4
          try clear hfz10_0
          try clear hfz10_1
          try clear hfz10_2
          try clear hfz10_3
          try clear hfz10_4
          try clear hfz6_0
          try clear hfz6_1
          try clear hfz6_2
          try clear hfz6_3
          try clear hfz6_4
          try clear hfz7_0
          try clear hfz7_1
          try clear hfz7_2
          try clear hfz7_3
          try clear hfz7_4
          try clear hfz8_0
          try clear hfz8_1
          try clear hfz8_2
          try clear hfz8_3
          try clear hfz8_4
          try clear p2
          obtain ⟨x21_2, rfl, HA, HK2, BK176, HB⟩ := hrel
          cases gk with
          | zero => exact absurd HA.out (by simp [parse_Right.l0])
          | succ k2 =>
            have H := HA.out
            clear HA
            simp only [parse_Right.l0] at H
            by_cases c11 : x21_2 < (l0_4.length : Int)
            · rw [if_pos c11] at H
              have c11b0 : decide (x21_2 < (l0_4.length : Int)) = true := decide_eq_true c11
              clear c11
              by_cases c12 : 0 ≤ x21_2
              · rw [if_pos c12] at H
                have c12b0 : decide (0 ≤ x21_2) = true := decide_eq_true c12
                clear c12
                by_cases c13 : x21_2 < (l0_4.length : Int)
                · rw [if_pos c13] at H
                  have c13b0 : decide (x21_2 < (l0_4.length : Int)) = true := decide_eq_true c13
                  clear c13
                  replace H := Option.bind_eq_some_iff.mp H
                  obtain ⟨t179, A140, H⟩ := H
                  replace H : (if t179 = true then (parse_Right.l0 k2 l0_4 (l0_4.length : Int) (wrap64 (x21_2 + 1))) else (some false)) = some r := H
                  have A14 := Aside0.mk A140
                  clear A140
                  by_cases c15 : t179 = true
                  · subst c15
                    have H1 : (parse_Right.l0 k2 l0_4 (l0_4.length : Int) (wrap64 (x21_2 + 1))) = some r := by rw [if_pos rfl] at H; exact H
                    clear H
                    have H := H1
                    clear H1
                    have H' := Aside0.mk H
                    clear H
                    have p177 : 0 ≤ (x21_2 : Int) := of_decide_eq_true (by first | (with_reducible assumption) | assumption)
                    have q177 : x21_2 < (l0_4.length : Int) := of_decide_eq_true (by first | (with_reducible assumption) | assumption)
                    obtain ⟨ad177, A177_4, c177_4, e177, hx177_0, hx177_1, hx177_2, hx177_3, hx177_4, hl177_4, hi177_4⟩ := at_T25 HR0_4.out x21_2 p177 q177
                    cases e177
                    replace hx177_0 := (HB.out.cell (World.block_lt_of_cell? w _ hx177_0)).trans hx177_0
                    replace hx177_1 := (HB.out.cell (World.block_lt_of_cell? w _ hx177_1)).trans hx177_1
                    replace hx177_2 := (HB.out.cell (World.block_lt_of_cell? w _ hx177_2)).trans hx177_2
                    replace hx177_3 := (HB.out.cell (World.block_lt_of_cell? w _ hx177_3)).trans hx177_3
                    replace hx177_4 := (HB.out.cell (World.block_lt_of_cell? w _ hx177_4)).trans hx177_4
                    have HR177_4 := Aside0.mk hi177_4
                    have HC177_4 := Aside0.mk hl177_4
                    clear hi177_4 hl177_4
                    replace p177 := eq_true p177
                    replace q177 := eq_true q177
                    go_wp2_with (first | ((with_reducible refine gate_dst (N := 4) rfl ?_); refine box_event ?hg (N := 4) ?hd (cs := #[.string (⟨#[]⟩ : ByteArray), .string (⟨#[]⟩ : ByteArray), .int .i64 0, .int .i64 0, .slice none 0 0]) (t := 25) ?hr ?_; (case hd => rfl); (case hg => rfl); (case hr => first | (go_simp; done) | (go_simp; rfl)); intro gb178 hg w16 hbox hb; have n0_ := Aside0.mk (blk_below (g := gb176) (o := .cells #[.string a0_0, .string a0_1, .int .i64 a0_2, .int .i64 a0_3, .slice (some ad177) l0_4.length c0_4] 25 (0, 0)) (by (with_reducible repeat (first | refine blk_drewN ?_ _ | refine blk_drew ?_ | refine blk_alloc ?_ _)); exact BK176.out) hb); have n1_ := Aside0.mk (below_step (by repeat (first | (with_reducible first | exact HB.out | apply below_alloc | apply pw_below_drewN | apply below_drew1 | refine below_set ?_ GE176.out) | exact HB.out)) hb); have n2_ := Aside0.mk (hbox); have n3_ := Aside0.mk ((by rw [hg]; exact (below_size (by repeat (first | (with_reducible first | exact HB.out | apply below_alloc | apply pw_below_drewN | apply below_drew1 | refine below_set ?_ GE176.out) | exact HB.out))) : w.heap.size ≤ gb178)); have n4_ := Aside0.mk ((by rw [hg]; exact (below_size (by repeat (first | (with_reducible first | exact HB.out | apply below_alloc | apply pw_below_drewN | apply below_drew1 | refine below_set ?_ GE176.out) | exact HB.out))) : w.heap.size ≤ gb178)); have n5_ := Aside0.mk ((by rw [hg]; exact Nat.ne_of_lt (blk_lt (g := gb176) (o := .cells #[.string a0_0, .string a0_1, .int .i64 a0_2, .int .i64 a0_3, .slice (some ad177) l0_4.length c0_4] 25 (0, 0)) (by (with_reducible repeat (first | refine blk_drewN ?_ _ | refine blk_drew ?_ | refine blk_alloc ?_ _)); exact BK176.out)) : gb176 ≠ gb178)); have n6_ := Aside0.mk ((by rw [hg]; exact Nat.ne_of_gt (blk_lt (g := gb176) (o := .cells #[.string a0_0, .string a0_1, .int .i64 a0_2, .int .i64 a0_3, .slice (some ad177) l0_4.length c0_4] 25 (0, 0)) (by (with_reducible repeat (first | refine blk_drewN ?_ _ | refine blk_drew ?_ | refine blk_alloc ?_ _)); exact BK176.out)) : gb178 ≠ gb176)); clear BK176; clear HB; have BK176 := n0_; have HB := n1_; have BK178 := n2_; have GW178 := n3_; have GE178 := n4_; have NB176_178 := n5_; have NB178_176 := n6_; clear n0_ n1_ n2_ n3_ n4_ n5_ n6_; clear hb hbox hg; have hnb17 := NB178_176.out; have hnc17 := NB176_178.out; have hcz18_0 : w16.cell? ⟨gb178, 0, none⟩ = some (.string (⟨#[]⟩ : ByteArray)) := (blk_cell BK178.out 0).trans rfl; have hcz18_1 : w16.cell? ⟨gb178, 1, none⟩ = some (.string (⟨#[]⟩ : ByteArray)) := (blk_cell BK178.out 1).trans rfl; have hcz18_2 : w16.cell? ⟨gb178, 2, none⟩ = some (.int .i64 0) := (blk_cell BK178.out 2).trans rfl; have hcz18_3 : w16.cell? ⟨gb178, 3, none⟩ = some (.int .i64 0) := (blk_cell BK178.out 3).trans rfl; have hcz18_4 : w16.cell? ⟨gb178, 4, none⟩ = some (.slice none 0 0) := (blk_cell BK178.out 4).trans rfl; have hfz18_0 := blk_frozen BK178.out 0; have hfz18_1 := blk_frozen BK178.out 1; have hfz18_2 := blk_frozen BK178.out 2; have hfz18_3 := blk_frozen BK178.out 3; have hfz18_4 := blk_frozen BK178.out 4) | ((with_reducible refine gate_callee (f := 26) rfl ?_); refine goesL_ (some 26) rfl rfl Tryd.func26 (by kernel_rfl) rfl #[.agg #[.string ((rd_T25 l0_4 x21_2).f0), .string ((rd_T25 l0_4 x21_2).f1), .int .i64 ((rd_T25 l0_4 x21_2).f2), .int .i64 ((rd_T25 l0_4 x21_2).f3), .slice A177_4 ((rd_T25 l0_4 x21_2).f4).length c177_4]] rfl (by (try simp only [List.map_toArray, List.map_cons, List.map_nil]); first | done | rfl | (simp only [List.length_drop, List.length_take]; rfl)) ?_; (with_reducible refine (parse_statement.calls k2 ((rd_T25 l0_4 x21_2).f0) ((rd_T25 l0_4 x21_2).f1) ((rd_T25 l0_4 x21_2).f2) ((rd_T25 l0_4 x21_2).f3) _ _ ((rd_T25 l0_4 x21_2).f4) true _ ?side1 ?side2 A14.out m_ (by first | (with_reducible exact hmA_.out) | exact mlen_below hmA_.out (by repeat (first | (with_reducible first | exact HB.out | apply below_alloc | apply pw_below_drewN | apply below_drew1 | refine below_set ?_ GE176.out | refine below_set ?_ GE178.out) | exact HB.out)) | (repeat (first | exact hmA_.out | refine mlen_drewN ?_ | refine mlen_drew ?_)))).mono ?_); (case side1 => exact Kd.C_below HR177_4.out (by repeat (first | (with_reducible first | exact HB.out | apply below_alloc | apply pw_below_drewN | apply below_drew1 | refine below_set ?_ GE176.out | refine below_set ?_ GE178.out) | exact HB.out))); (case side2 => exact HC177_4.out); rintro e w19 ⟨rfl, hb⟩; refine ⟨_, rfl, ?_⟩; have n0_ := Aside0.mk (blk_below (g := gb176) (o := .cells #[.string a0_0, .string a0_1, .int .i64 a0_2, .int .i64 a0_3, .slice (some ad177) l0_4.length c0_4] 25 (0, 0)) (by (with_reducible repeat (first | refine blk_drewN ?_ _ | refine blk_drew ?_ | refine blk_alloc ?_ _)); refine blk_far ?_ NB176_178.out _; (with_reducible repeat (first | refine blk_drewN ?_ _ | refine blk_drew ?_ | refine blk_alloc ?_ _)); refine blk_far ?_ NB176_178.out _; (with_reducible repeat (first | refine blk_drewN ?_ _ | refine blk_drew ?_ | refine blk_alloc ?_ _)); refine blk_far ?_ NB176_178.out _; (with_reducible repeat (first | refine blk_drewN ?_ _ | refine blk_drew ?_ | refine blk_alloc ?_ _)); refine blk_far ?_ NB176_178.out _; (with_reducible repeat (first | refine blk_drewN ?_ _ | refine blk_drew ?_ | refine blk_alloc ?_ _)); refine blk_far ?_ NB176_178.out _; (with_reducible repeat (first | refine blk_drewN ?_ _ | refine blk_drew ?_ | refine blk_alloc ?_ _)); exact BK176.out) hb); have n1_ := Aside0.mk (blk_below (g := gb178) (o := .cells #[.string ((rd_T25 l0_4 x21_2).f0), .string ((rd_T25 l0_4 x21_2).f1), .int .i64 ((rd_T25 l0_4 x21_2).f2), .int .i64 ((rd_T25 l0_4 x21_2).f3), .slice A177_4 ((rd_T25 l0_4 x21_2).f4).length c177_4] 25 (0, 0)) (by (with_reducible repeat (first | refine blk_drewN ?_ _ | refine blk_drew ?_ | refine blk_alloc ?_ _)); refine blk_put (cs := #[.string ((rd_T25 l0_4 x21_2).f0), .string ((rd_T25 l0_4 x21_2).f1), .int .i64 ((rd_T25 l0_4 x21_2).f2), .int .i64 ((rd_T25 l0_4 x21_2).f3), .slice none 0 0]) ?_ 4 _ rfl; (with_reducible repeat (first | refine blk_drewN ?_ _ | refine blk_drew ?_ | refine blk_alloc ?_ _)); refine blk_put (cs := #[.string ((rd_T25 l0_4 x21_2).f0), .string ((rd_T25 l0_4 x21_2).f1), .int .i64 ((rd_T25 l0_4 x21_2).f2), .int .i64 0, .slice none 0 0]) ?_ 3 _ rfl; (with_reducible repeat (first | refine blk_drewN ?_ _ | refine blk_drew ?_ | refine blk_alloc ?_ _)); refine blk_put (cs := #[.string ((rd_T25 l0_4 x21_2).f0), .string ((rd_T25 l0_4 x21_2).f1), .int .i64 0, .int .i64 0, .slice none 0 0]) ?_ 2 _ rfl; (with_reducible repeat (first | refine blk_drewN ?_ _ | refine blk_drew ?_ | refine blk_alloc ?_ _)); refine blk_put (cs := #[.string ((rd_T25 l0_4 x21_2).f0), .string (⟨#[]⟩ : ByteArray), .int .i64 0, .int .i64 0, .slice none 0 0]) ?_ 1 _ rfl; (with_reducible repeat (first | refine blk_drewN ?_ _ | refine blk_drew ?_ | refine blk_alloc ?_ _)); refine blk_put (cs := #[.string (⟨#[]⟩ : ByteArray), .string (⟨#[]⟩ : ByteArray), .int .i64 0, .int .i64 0, .slice none 0 0]) ?_ 0 _ rfl; (with_reducible repeat (first | refine blk_drewN ?_ _ | refine blk_drew ?_ | refine blk_alloc ?_ _)); exact BK178.out) hb); have n2_ := Aside0.mk (below_step (by repeat (first | (with_reducible first | exact HB.out | apply below_alloc | apply pw_below_drewN | apply below_drew1 | refine below_set ?_ GE176.out | refine below_set ?_ GE178.out) | exact HB.out)) hb); clear BK176; clear BK178; clear HB; have BK176 := n0_; have BK178 := n1_; have HB := n2_; clear n0_ n1_ n2_; (try clear hb); (try clear hb2); (try clear hk); (try clear hi)))
                    go_roundg k2
                    case measure => have := HJ1.out; have := HK2.out; omega
                    case rel => exact ⟨(wrap64 (x21_2 + 1)), (by first | rfl | (simp; done) | (simp [*]; done)), H', ⟨by have := HJ1.out; have := HK2.out; omega⟩, ⟨by (with_reducible repeat (first | refine blk_drewN ?_ _ | refine blk_drew ?_ | refine blk_alloc ?_ _)); exact BK176.out⟩, ⟨by repeat (first | (with_reducible first | exact HB.out | apply below_alloc | apply pw_below_drewN | apply below_drew1 | refine below_set ?_ GE176.out | refine below_set ?_ GE178.out) | exact HB.out)⟩⟩
                  · replace c15 := Bool.eq_false_iff.mpr c15
                    subst c15
                    have H1 : (some false) = some r := by rw [if_neg (show ¬ (false = true) by decide)] at H; exact H
                    clear H
                    have H := H1
                    clear H1
                    obtain rfl := Option.some.inj H
                    have p177 : 0 ≤ (x21_2 : Int) := of_decide_eq_true (by first | (with_reducible assumption) | assumption)
                    have q177 : x21_2 < (l0_4.length : Int) := of_decide_eq_true (by first | (with_reducible assumption) | assumption)
                    obtain ⟨ad177, A177_4, c177_4, e177, hx177_0, hx177_1, hx177_2, hx177_3, hx177_4, hl177_4, hi177_4⟩ := at_T25 HR0_4.out x21_2 p177 q177
                    cases e177
                    replace hx177_0 := (HB.out.cell (World.block_lt_of_cell? w _ hx177_0)).trans hx177_0
                    replace hx177_1 := (HB.out.cell (World.block_lt_of_cell? w _ hx177_1)).trans hx177_1
                    replace hx177_2 := (HB.out.cell (World.block_lt_of_cell? w _ hx177_2)).trans hx177_2
                    replace hx177_3 := (HB.out.cell (World.block_lt_of_cell? w _ hx177_3)).trans hx177_3
                    replace hx177_4 := (HB.out.cell (World.block_lt_of_cell? w _ hx177_4)).trans hx177_4
                    have HR177_4 := Aside0.mk hi177_4
                    have HC177_4 := Aside0.mk hl177_4
                    clear hi177_4 hl177_4
                    replace p177 := eq_true p177
                    replace q177 := eq_true q177
                    go_wp2_with (first | ((with_reducible refine gate_dst (N := 4) rfl ?_); refine box_event ?hg (N := 4) ?hd (cs := #[.string (⟨#[]⟩ : ByteArray), .string (⟨#[]⟩ : ByteArray), .int .i64 0, .int .i64 0, .slice none 0 0]) (t := 25) ?hr ?_; (case hd => rfl); (case hg => rfl); (case hr => first | (go_simp; done) | (go_simp; rfl)); intro gb178 hg w20 hbox hb; have n0_ := Aside0.mk (blk_below (g := gb176) (o := .cells #[.string a0_0, .string a0_1, .int .i64 a0_2, .int .i64 a0_3, .slice (some ad177) l0_4.length c0_4] 25 (0, 0)) (by (with_reducible repeat (first | refine blk_drewN ?_ _ | refine blk_drew ?_ | refine blk_alloc ?_ _)); exact BK176.out) hb); have n1_ := Aside0.mk (below_step (by repeat (first | (with_reducible first | exact HB.out | apply below_alloc | apply pw_below_drewN | apply below_drew1 | refine below_set ?_ GE176.out) | exact HB.out)) hb); have n2_ := Aside0.mk (hbox); have n3_ := Aside0.mk ((by rw [hg]; exact (below_size (by repeat (first | (with_reducible first | exact HB.out | apply below_alloc | apply pw_below_drewN | apply below_drew1 | refine below_set ?_ GE176.out) | exact HB.out))) : w.heap.size ≤ gb178)); have n4_ := Aside0.mk ((by rw [hg]; exact (below_size (by repeat (first | (with_reducible first | exact HB.out | apply below_alloc | apply pw_below_drewN | apply below_drew1 | refine below_set ?_ GE176.out) | exact HB.out))) : w.heap.size ≤ gb178)); have n5_ := Aside0.mk ((by rw [hg]; exact Nat.ne_of_lt (blk_lt (g := gb176) (o := .cells #[.string a0_0, .string a0_1, .int .i64 a0_2, .int .i64 a0_3, .slice (some ad177) l0_4.length c0_4] 25 (0, 0)) (by (with_reducible repeat (first | refine blk_drewN ?_ _ | refine blk_drew ?_ | refine blk_alloc ?_ _)); exact BK176.out)) : gb176 ≠ gb178)); have n6_ := Aside0.mk ((by rw [hg]; exact Nat.ne_of_gt (blk_lt (g := gb176) (o := .cells #[.string a0_0, .string a0_1, .int .i64 a0_2, .int .i64 a0_3, .slice (some ad177) l0_4.length c0_4] 25 (0, 0)) (by (with_reducible repeat (first | refine blk_drewN ?_ _ | refine blk_drew ?_ | refine blk_alloc ?_ _)); exact BK176.out)) : gb178 ≠ gb176)); clear BK176; clear HB; have BK176 := n0_; have HB := n1_; have BK178 := n2_; have GW178 := n3_; have GE178 := n4_; have NB176_178 := n5_; have NB178_176 := n6_; clear n0_ n1_ n2_ n3_ n4_ n5_ n6_; clear hb hbox hg; have hnb21 := NB178_176.out; have hnc21 := NB176_178.out; have hcz22_0 : w20.cell? ⟨gb178, 0, none⟩ = some (.string (⟨#[]⟩ : ByteArray)) := (blk_cell BK178.out 0).trans rfl; have hcz22_1 : w20.cell? ⟨gb178, 1, none⟩ = some (.string (⟨#[]⟩ : ByteArray)) := (blk_cell BK178.out 1).trans rfl; have hcz22_2 : w20.cell? ⟨gb178, 2, none⟩ = some (.int .i64 0) := (blk_cell BK178.out 2).trans rfl; have hcz22_3 : w20.cell? ⟨gb178, 3, none⟩ = some (.int .i64 0) := (blk_cell BK178.out 3).trans rfl; have hcz22_4 : w20.cell? ⟨gb178, 4, none⟩ = some (.slice none 0 0) := (blk_cell BK178.out 4).trans rfl; have hfz22_0 := blk_frozen BK178.out 0; have hfz22_1 := blk_frozen BK178.out 1; have hfz22_2 := blk_frozen BK178.out 2; have hfz22_3 := blk_frozen BK178.out 3; have hfz22_4 := blk_frozen BK178.out 4) | ((with_reducible refine gate_callee (f := 26) rfl ?_); refine goesL_ (some 26) rfl rfl Tryd.func26 (by kernel_rfl) rfl #[.agg #[.string ((rd_T25 l0_4 x21_2).f0), .string ((rd_T25 l0_4 x21_2).f1), .int .i64 ((rd_T25 l0_4 x21_2).f2), .int .i64 ((rd_T25 l0_4 x21_2).f3), .slice A177_4 ((rd_T25 l0_4 x21_2).f4).length c177_4]] rfl (by (try simp only [List.map_toArray, List.map_cons, List.map_nil]); first | done | rfl | (simp only [List.length_drop, List.length_take]; rfl)) ?_; (with_reducible refine (parse_statement.calls k2 ((rd_T25 l0_4 x21_2).f0) ((rd_T25 l0_4 x21_2).f1) ((rd_T25 l0_4 x21_2).f2) ((rd_T25 l0_4 x21_2).f3) _ _ ((rd_T25 l0_4 x21_2).f4) false _ ?side1 ?side2 A14.out m_ (by first | (with_reducible exact hmA_.out) | exact mlen_below hmA_.out (by repeat (first | (with_reducible first | exact HB.out | apply below_alloc | apply pw_below_drewN | apply below_drew1 | refine below_set ?_ GE176.out | refine below_set ?_ GE178.out) | exact HB.out)) | (repeat (first | exact hmA_.out | refine mlen_drewN ?_ | refine mlen_drew ?_)))).mono ?_); (case side1 => exact Kd.C_below HR177_4.out (by repeat (first | (with_reducible first | exact HB.out | apply below_alloc | apply pw_below_drewN | apply below_drew1 | refine below_set ?_ GE176.out | refine below_set ?_ GE178.out) | exact HB.out))); (case side2 => exact HC177_4.out); rintro e w23 ⟨rfl, hb⟩; refine ⟨_, rfl, ?_⟩; have n0_ := Aside0.mk (blk_below (g := gb176) (o := .cells #[.string a0_0, .string a0_1, .int .i64 a0_2, .int .i64 a0_3, .slice (some ad177) l0_4.length c0_4] 25 (0, 0)) (by (with_reducible repeat (first | refine blk_drewN ?_ _ | refine blk_drew ?_ | refine blk_alloc ?_ _)); refine blk_far ?_ NB176_178.out _; (with_reducible repeat (first | refine blk_drewN ?_ _ | refine blk_drew ?_ | refine blk_alloc ?_ _)); refine blk_far ?_ NB176_178.out _; (with_reducible repeat (first | refine blk_drewN ?_ _ | refine blk_drew ?_ | refine blk_alloc ?_ _)); refine blk_far ?_ NB176_178.out _; (with_reducible repeat (first | refine blk_drewN ?_ _ | refine blk_drew ?_ | refine blk_alloc ?_ _)); refine blk_far ?_ NB176_178.out _; (with_reducible repeat (first | refine blk_drewN ?_ _ | refine blk_drew ?_ | refine blk_alloc ?_ _)); refine blk_far ?_ NB176_178.out _; (with_reducible repeat (first | refine blk_drewN ?_ _ | refine blk_drew ?_ | refine blk_alloc ?_ _)); exact BK176.out) hb); have n1_ := Aside0.mk (blk_below (g := gb178) (o := .cells #[.string ((rd_T25 l0_4 x21_2).f0), .string ((rd_T25 l0_4 x21_2).f1), .int .i64 ((rd_T25 l0_4 x21_2).f2), .int .i64 ((rd_T25 l0_4 x21_2).f3), .slice A177_4 ((rd_T25 l0_4 x21_2).f4).length c177_4] 25 (0, 0)) (by (with_reducible repeat (first | refine blk_drewN ?_ _ | refine blk_drew ?_ | refine blk_alloc ?_ _)); refine blk_put (cs := #[.string ((rd_T25 l0_4 x21_2).f0), .string ((rd_T25 l0_4 x21_2).f1), .int .i64 ((rd_T25 l0_4 x21_2).f2), .int .i64 ((rd_T25 l0_4 x21_2).f3), .slice none 0 0]) ?_ 4 _ rfl; (with_reducible repeat (first | refine blk_drewN ?_ _ | refine blk_drew ?_ | refine blk_alloc ?_ _)); refine blk_put (cs := #[.string ((rd_T25 l0_4 x21_2).f0), .string ((rd_T25 l0_4 x21_2).f1), .int .i64 ((rd_T25 l0_4 x21_2).f2), .int .i64 0, .slice none 0 0]) ?_ 3 _ rfl; (with_reducible repeat (first | refine blk_drewN ?_ _ | refine blk_drew ?_ | refine blk_alloc ?_ _)); refine blk_put (cs := #[.string ((rd_T25 l0_4 x21_2).f0), .string ((rd_T25 l0_4 x21_2).f1), .int .i64 0, .int .i64 0, .slice none 0 0]) ?_ 2 _ rfl; (with_reducible repeat (first | refine blk_drewN ?_ _ | refine blk_drew ?_ | refine blk_alloc ?_ _)); refine blk_put (cs := #[.string ((rd_T25 l0_4 x21_2).f0), .string (⟨#[]⟩ : ByteArray), .int .i64 0, .int .i64 0, .slice none 0 0]) ?_ 1 _ rfl; (with_reducible repeat (first | refine blk_drewN ?_ _ | refine blk_drew ?_ | refine blk_alloc ?_ _)); refine blk_put (cs := #[.string (⟨#[]⟩ : ByteArray), .string (⟨#[]⟩ : ByteArray), .int .i64 0, .int .i64 0, .slice none 0 0]) ?_ 0 _ rfl; (with_reducible repeat (first | refine blk_drewN ?_ _ | refine blk_drew ?_ | refine blk_alloc ?_ _)); exact BK178.out) hb); have n2_ := Aside0.mk (below_step (by repeat (first | (with_reducible first | exact HB.out | apply below_alloc | apply pw_below_drewN | apply below_drew1 | refine below_set ?_ GE176.out | refine below_set ?_ GE178.out) | exact HB.out)) hb); clear BK176; clear BK178; clear HB; have BK176 := n0_; have BK178 := n1_; have HB := n2_; clear n0_ n1_ n2_; (try clear hb); (try clear hb2); (try clear hk); (try clear hi)))
                    go_ret
                    exact ⟨by first | rfl | (simp [errW_none, errW_some] <;> rfl) | (simp [*, errW_none, errW_some] <;> rfl), by repeat (first | (with_reducible first | exact HB.out | apply below_alloc | apply pw_below_drewN | apply below_drew1 | refine below_set ?_ GE176.out | refine below_set ?_ GE178.out) | exact HB.out)⟩
                · rw [if_neg c13] at H
                  exact absurd H (by simp)
              · rw [if_neg c12] at H
                exact absurd H (by simp)
            · rw [if_neg c11] at H
              have c11b0 : decide (x21_2 < (l0_4.length : Int)) = false := decide_eq_false c11
              clear c11
              obtain rfl := Option.some.inj H
              go_wp2
              go_ret
              exact ⟨by first | rfl | (simp [errW_none, errW_some] <;> rfl) | (simp [*, errW_none, errW_some] <;> rfl), by repeat (first | (with_reducible first | exact HB.out | apply below_alloc | apply pw_below_drewN | apply below_drew1 | refine below_set ?_ GE176.out) | exact HB.out)⟩

end Go.Proofs.YtknbfhhmjbnemaaDoor.P
end
section
namespace Go.Proofs.YtknbfhhmjbnemaaDoor.P
open Go.RowKit Go.Proofs.YtknbfhhmjbnemaaDoorW.PrintWords Go.Proofs.YtknbfhhmjbnemaaDoorW.PrintLast Go.Proofs.YtknbfhhmjbnemaaDoorW.PrintMore
set_option linter.unusedVariables false
set_option linter.unusedSimpArgs false

theorem write_step (k : Nat) (ih : WrOk k) : WrOk (k + 1) := by
  intro w0 w b n A c l t hI h hlen
  rw [writeT] at h
  by_cases hb : n.f4.length ≤ 1000000 ∧ -9223372036854775808 ≤ n.f2 ∧ n.f2 ≤ 9223372036854775807
  case neg => rw [if_neg hb] at h; cases h
  rw [if_pos hb] at h
  obtain ⟨h4, h2⟩ := hb
  by_cases h0 : n.f0.toList = ([117, 115, 101] : List UInt8) ∨ n.f0.toList = ([110, 97, 109, 101] : List UInt8)
  · rw [if_pos h0] at h
    have h := (Option.some.inj h).symm
    rcases h0 with h0 | h0
    · exact wr_use k ih w0 w b n A c l t hI h2 h4 h0 h hlen
    · exact wr_name k ih w0 w b n A c l t hI h2 h4 h0 h hlen
  rw [if_neg h0] at h
  by_cases h1 : n.f0.toList = ([110, 117, 109] : List UInt8)
  · rw [if_pos h1] at h
    exact wr_num k ih w0 w b n A c l t hI h2 h4 h1 (Option.some.inj h).symm hlen
  rw [if_neg h1] at h
  by_cases h3 : n.f0.toList = ([104, 101, 120] : List UInt8)
  · rw [if_pos h3] at h
    exact wr_hex k ih w0 w b n A c l t hI h2 h4 h3 (Option.some.inj h).symm hlen
  rw [if_neg h3] at h
  by_cases h5 : n.f0.toList = ([102, 105, 108, 101] : List UInt8)
  · rw [if_pos h5] at h
    exact wr_file k ih w0 w b n A c l t hI h2 h4 h5 h hlen
  rw [if_neg h5] at h
  by_cases h6 : n.f0.toList = ([100, 101, 118, 105, 99, 101] : List UInt8) ∨ n.f0.toList = ([106, 111, 117, 114, 110, 97, 108] : List UInt8)
  · rw [if_pos h6] at h
    have h := (Option.some.inj h).symm
    rcases h6 with h6 | h6
    · exact wr_device k ih w0 w b n A c l t hI h2 h4 h6 h hlen
    · exact wr_journal k ih w0 w b n A c l t hI h2 h4 h6 h hlen
  rw [if_neg h6] at h
  by_cases h7 : n.f0.toList = ([107, 101, 121] : List UInt8) ∨ n.f0.toList = ([114, 111, 111, 116] : List UInt8)
  · rw [if_pos h7] at h
    obtain ⟨tx, hx, ht⟩ := Option.bind_eq_some_iff.1 h
    have ht := (Option.some.inj ht).symm
    rcases h7 with h7 | h7
    · exact wr_key k ih w0 w b n A c l t hI h2 h4 h7 tx hx ht hlen
    · exact wr_root k ih w0 w b n A c l t hI h2 h4 h7 tx hx ht hlen
  rw [if_neg h7] at h
  by_cases h8 : n.f0.toList = ([118, 111, 108, 117, 109, 101] : List UInt8)
  · rw [if_pos h8] at h
    obtain ⟨tx, hx, ht⟩ := Option.bind_eq_some_iff.1 h
    exact wr_volume k ih w0 w b n A c l t hI h2 h4 h8 tx hx (Option.some.inj ht).symm hlen
  rw [if_neg h8] at h
  by_cases h9 : n.f0.toList = ([101, 120, 112, 111, 114, 116] : List UInt8)
  · rw [if_pos h9] at h
    have h := (Option.some.inj h).symm
    by_cases hf : n.f2 = 1
    · rw [if_pos hf] at h
      exact wr_export1 k ih w0 w b n A c l t hI h2 h4 h9 (by simpa using hf) h hlen
    · rw [if_neg hf] at h
      exact wr_export0 k ih w0 w b n A c l t hI h2 h4 h9 (by simpa using hf) h hlen
  rw [if_neg h9] at h
  obtain ⟨tx, hx, ht⟩ := Option.bind_eq_some_iff.1 h
  exact wr_target k ih w0 w b n A c l t hI h2 h4 (fun e => h0 (.inl e)) (fun e => h0 (.inr e)) h1 h3 h5 (fun e => h6 (.inl e)) (fun e => h6 (.inr e)) (fun e => h7 (.inl e)) (fun e => h7 (.inr e)) h8 h9 tx hx (Option.some.inj ht).symm hlen
theorem write_all : ∀ k, WrOk k
  | 0 => fun w0 w b n A c l t hI h hlen => by simp [writeT] at h
  | k + 1 => write_step k (write_all k)
/-- What Print hands back. -/
def printP (k : Nat) (n : S25) : Option (ByteArray × Int) := (parse_Right.f k n.f0 n.f1 n.f2 n.f3 n.f4).bind fun r => if r = true then (writeT k n).bind fun t => if t.length ≤ 1000000000 then some (⟨t.toArray⟩, 0) else none else some (⟨#[]⟩, 111)
theorem bld_new (W : World) : Bld W.heap.size W.heap.size [] (W.alloc (.cells #[.pointer none, .slice none 0 0] 52 (0, 0))) :=
  .inl ⟨Nat.le_refl _, .slice none 0 0, blk_new _ _, ⟨rfl, .inl ⟨rfl, rfl⟩⟩, by simp [Value.ownBlock]⟩
theorem tab_below {w w1 : World} (h : Lib.TabIs Tryd.prog w "internal/strconv.uint64pow10" .u64 Lib.pow10Tab) (hb : Below w.heap.size w w1) : ∀ w', Below w1.heap.size w1 w' → Lib.TabIs Tryd.prog w' "internal/strconv.uint64pow10" .u64 Lib.pow10Tab :=
  fun w' h' => Lib.tabBelow_of_tabIs h w' (below_then hb hb.size h')
set_option maxHeartbeats 4000000 in
set_option maxRecDepth 100000 in
theorem print_calls (k : Nat) (n : S25) (A : Option Addr) (c : Nat) (s : ByteArray) (er m : Int) (w : World) (hc : n.f4.length ≤ c) (hC : Kd.C k25 w A n.f4.length n.f4) (hm : w.cell? ⟨0, 0, none⟩ = some (.int .i64 m)) (ht : Lib.TabIs Tryd.prog w "internal/strconv.uint64pow10" .u64 Lib.pow10Tab) (h : printP k n = some (s, er)) :
    Calls Tryd.prog 13 #[nodeVal n A c] w fun e w' => e = .returned (.tuple #[.string s, .int .i64 er]) ∧ Below w.heap.size w w' := by
  unfold printP at h
  obtain ⟨rb, hr, h⟩ := Option.bind_eq_some_iff.1 h
  have hu25 := Tryd.underlying25
  have hu52 := Tryd.underlying52
  unfold nodeVal
  have HB0 := Aside0.mk (show Below w.heap.size w (w.alloc (.cells #[.string n.f0, .string n.f1, .int .i64 n.f2, .int .i64 n.f3, .slice A n.f4.length c] 25 (0, 0))) from below_alloc (Below.refl _ _) _)
  have NB0 := Aside0.mk (blk_new w (.cells #[.string n.f0, .string n.f1, .int .i64 n.f2, .int .i64 n.f3, .slice A n.f4.length c] 25 (0, 0)))
  have HCC := Aside0.mk hC
  have HC := Aside0.mk hc
  have HM := Aside0.mk hm
  have HT := Aside0.mk ht
  have HR := Aside0.mk hr
  have HH := Aside0.mk h
  clear hC hc hm ht hr h
  cases rb with
  | false =>
    go_enter Tryd.func13, Tryd.ntmps13
    go_wp2_with (go_at_call 15; (with_reducible refine (parse_Right.calls k _ _ _ _ A c _ false _ (Kd.C_below HCC.out HB0.out) HC.out HR.out m (pw_cell_below HB0.out HM.out)).mono ?_); rintro e w1 ⟨rfl, h1⟩; have H1 := Aside0.mk h1; clear h1)
    have hh := HH.out
    simp only [Bool.false_eq_true, if_false, Option.some.injEq, Prod.mk.injEq] at hh
    obtain ⟨rfl, rfl⟩ := hh
    go_ret2
    exact ⟨rfl, below_then HB0.out HB0.out.size H1.out⟩
  | true =>
    have hh := HH.out
    clear HH
    rw [if_pos rfl] at hh
    obtain ⟨t, hw, hh⟩ := Option.bind_eq_some_iff.1 hh
    split at hh
    case isFalse => cases hh
    rename_i hl
    simp only [Option.some.injEq, Prod.mk.injEq] at hh
    obtain ⟨rfl, rfl⟩ := hh
    have HW := Aside0.mk hw
    have HL := Aside0.mk hl
    clear hw hl
    go_enter Tryd.func13, Tryd.ntmps13
    go_upto_region 3 with (go_at_call 15; (with_reducible refine (parse_Right.calls k _ _ _ _ A c _ true _ (Kd.C_below HCC.out HB0.out) HC.out HR.out m (pw_cell_below HB0.out HM.out)).mono ?_); rintro e w1 ⟨rfl, h1⟩; have HB1 := Aside0.mk (below_then HB0.out HB0.out.size h1); have NB1 := Aside0.mk (blk_below NB0.out h1); clear h1)
    have HB2 := Aside0.mk (below_alloc (Below.refl w1.heap.size w1) (.cells #[.pointer none, .slice none 0 0] 52 (0, 0)))
    have NB2 := Aside0.mk (blk_alloc NB1.out (.cells #[.pointer none, .slice none 0 0] 52 (0, 0)))
    have HBL := Aside0.mk (bld_new w1)
    have hcall := write_all k w1 _ w1.heap.size n A c [] t ⟨HB2.out, HBL.out, HC.out, Kd.C_below HCC.out HB1.out, tab_below HT.out HB1.out⟩ HW.out (by simpa using HL.out)
    unfold nodeVal at hcall
    have HCALL := Aside0.mk hcall
    clear hcall
    go_upto_region 4 with (fail)
    generalize World.alloc w1 (.cells #[.pointer none, .slice none 0 0] 52 (0, 0)) = W2 at *
    have c0 := (blk_cell NB2.out 0).trans rfl
    have c1 := (blk_cell NB2.out 1).trans rfl
    have c2 := (blk_cell NB2.out 2).trans rfl
    have c3 := (blk_cell NB2.out 3).trans rfl
    have c4 := (blk_cell NB2.out 4).trans rfl
    go_wp2_with (first | (go_at_call 22; (with_reducible refine HCALL.out.mono ?_); rintro e w3 ⟨rfl, h1, h2⟩; have H3 := Aside0.mk (show Lib.IsBuilderF 52 5 w1.heap.size w1.heap.size (Lib.byteCells ([] ++ t)) w3 from h1); have F3 := Aside0.mk h2; clear h1 h2) | (go_at_call 23; (refine (Tryd.Builder_String_any_f w1.heap.size w1.heap.size ([] ++ t) w3 H3.out (Nat.le_trans HB2.out.size F3.out.1.size)).mono ?_); rintro e w4 ⟨rfl, _, h1⟩; have H4 := Aside0.mk h1; clear h1))
    go_ret2
    exact ⟨rfl, below_then HB1.out HB1.out.size ((HB2.out.trans F3.out.1).trans H4.out)⟩
end Go.Proofs.YtknbfhhmjbnemaaDoor.P
end
section
namespace Go.Proofs.YtknbfhhmjbnemaaDoor.P
open Go.RowKit Go.Proofs.YtknbfhhmjbnemaaDoorW.PrintWords Go.Proofs.YtknbfhhmjbnemaaDoorW.PrintLast Go.Proofs.YtknbfhhmjbnemaaDoorW.PrintMore
set_option linter.unusedVariables false
set_option linter.unusedSimpArgs false

abbrev FILE : ByteArray := ⟨#[102, 105, 108, 101]⟩
def parseOf : Except PErr (List S25 × List S60) → S25 × Int × Int
  | .ok (L, _) => (⟨FILE, ⟨#[]⟩, 0, 0, L⟩, 0, -1)
  | .error x => (z25, x.1, x.2)
/-- What Parse hands back. -/
def parseP (k : Nat) (s : ByteArray) : Option (S25 × Int × Int) :=
  (lex_Scan.f k s).bind fun x => if x.2.1 = 0 then (pstmts k x.1 s.size []).bind fun r => some (parseOf r) else some (z25, x.2.1, x.2.2)
theorem parse_calls (k : Nat) (s : ByteArray) (n : S25) (er at_ m : Int) (w : World) (hm : w.cell? ⟨0, 0, none⟩ = some (.int .i64 m)) (h : parseP k s = some (n, er, at_)) :
    Calls Tryd.prog 9 #[.string s] w (parseR w n er at_) := by
  unfold parseP at h
  obtain ⟨⟨T, e, p⟩, hs, h⟩ := Option.bind_eq_some_iff.1 h
  by_cases he : e = 0
  · subst he
    rw [if_pos rfl] at h
    obtain ⟨r, hr, h⟩ := Option.bind_eq_some_iff.1 h
    have h1 := parse_main k k s T p m r w hm hs hr
    have h := Option.some.inj h
    rcases r with x | ⟨L, T'⟩
    · simp only [parseOf, Prod.mk.injEq] at h
      obtain ⟨rfl, rfl, rfl⟩ := h
      exact h1
    · simp only [parseOf, Prod.mk.injEq] at h
      obtain ⟨rfl, rfl, rfl⟩ := h
      exact h1
  · rw [if_neg he] at h
    simp only [Option.some.injEq, Prod.mk.injEq] at h
    obtain ⟨rfl, rfl, rfl⟩ := h
    exact parse_early k s T e p w hs he
/-- A node's box, and what it leads to. -/
structure NodeB (W : World) (b : Nat) (n : S25) (A : Option Addr) (c : Nat) : Prop where
  blk : W.heap[b]? = some (.cells #[.string n.f0, .string n.f1, .int .i64 n.f2, .int .i64 n.f3, .slice A n.f4.length c] 25 (0, 0))
  hc : n.f4.length ≤ c
  hC : Kd.C k25 W A n.f4.length n.f4
theorem NodeB.below {W W1 : World} {b : Nat} {n : S25} {A : Option Addr} {c : Nat} (h : NodeB W b n A c) (hb : Below W.heap.size W W1) : NodeB W1 b n A c := ⟨blk_below h.blk hb, h.hc, Kd.C_below h.hC hb⟩
theorem NodeB.new {W : World} {n : S25} {A : Option Addr} {c : Nat} (hc : n.f4.length ≤ c) (hC : Kd.C k25 W A n.f4.length n.f4) : NodeB (W.alloc (.cells #[.string n.f0, .string n.f1, .int .i64 n.f2, .int .i64 n.f3, .slice A n.f4.length c] 25 (0, 0))) W.heap.size n A c :=
  ⟨blk_new _ _, hc, Kd.C_alloc hC _⟩
/-- The same as the walk wants it. -/
theorem parse_node (k : Nat) (s : ByteArray) (n : S25) (er at_ m : Int) (w : World) (hm : w.cell? ⟨0, 0, none⟩ = some (.int .i64 m)) (h : parseP k s = some (n, er, at_)) :
    Calls Tryd.prog 9 #[.string s] w fun e w' => ∃ A c, e = .returned (.tuple #[.agg #[.string n.f0, .string n.f1, .int .i64 n.f2, .int .i64 n.f3, .slice A n.f4.length c], .int .i64 er, .int .i64 at_]) ∧ n.f4.length ≤ c ∧ Kd.C k25 w' A n.f4.length n.f4 ∧ Below w.heap.size w w' :=
  (parse_calls k s n er at_ m w hm h).mono fun e w' ⟨v, he, hN, hb⟩ => by
    obtain ⟨A, c, rfl⟩ := Kd.N_slice hN
    have h1 := Kd.N_reads' hN
    exact ⟨A, c, he, h1.2.1, h1.2.2, hb⟩
abbrev ALIVE : ByteArray := ⟨#[118, 111, 108, 117, 109, 101, 32, 118, 61, 109, 105, 114, 114, 111, 114, 40, 97, 44, 98, 41, 59]⟩
abbrev ALIVE2 : ByteArray := ⟨#[118, 111, 108, 117, 109, 101, 32, 118, 32, 61, 32, 109, 105, 114, 114, 111, 114, 40, 97, 44, 32, 98, 41, 59, 10]⟩
def aliveN : S25 := ⟨FILE, ⟨#[]⟩, 0, 0, [⟨⟨#[118, 111, 108, 117, 109, 101]⟩, ⟨#[118]⟩, 0, 0, [⟨⟨#[109, 105, 114, 114, 111, 114]⟩, ⟨#[]⟩, 0, 9, [⟨⟨#[117, 115, 101]⟩, ⟨#[97]⟩, 0, 16, []⟩, ⟨⟨#[117, 115, 101]⟩, ⟨#[98]⟩, 0, 18, []⟩]⟩]⟩]⟩
theorem alive_parse : parseP 60 ALIVE = some (aliveN, 0, -1) := by kernel_rfl
theorem alive_print : printP 60 aliveN = some (ALIVE2, 0) := by kernel_rfl
def TabW (w : World) : Prop := Lib.TabIs Tryd.prog w "internal/strconv.uint64pow10" .u64 Lib.pow10Tab
theorem TabW.below {w w1 : World} (h : TabW w) (hb : Below w.heap.size w w1) : TabW w1 := tab_below h (Below.refl _ _) w1 hb
theorem print_node (k : Nat) (n : S25) (A : Option Addr) (c : Nat) (s : ByteArray) (er m : Int) (w : World) (hc : n.f4.length ≤ c) (hC : Kd.C k25 w A n.f4.length n.f4) (hm : w.cell? ⟨0, 0, none⟩ = some (.int .i64 m)) (ht : TabW w) (h : printP k n = some (s, er)) :
    Calls Tryd.prog 13 #[.agg #[.string n.f0, .string n.f1, .int .i64 n.f2, .int .i64 n.f3, .slice A n.f4.length c]] w fun e w' => e = .returned (.tuple #[.string s, .int .i64 er]) ∧ Below w.heap.size w w' := print_calls k n A c s er m w hc hC hm ht h
set_option maxHeartbeats 4000000 in
set_option maxRecDepth 100000 in
theorem alive_calls (m : Int) (w : World) (hm : w.cell? ⟨0, 0, none⟩ = some (.int .i64 m)) (ht : TabW w) :
    Calls Tryd.prog 8 #[] w fun e w' => e = .returned (.bool true) ∧ Below w.heap.size w w' := by
  have hu25 := Tryd.underlying25
  have HM := Aside0.mk hm
  have HT := Aside0.mk ht
  clear hm ht
  go_enter Tryd.func8, Tryd.ntmps8
  go_upto_region 2 with (go_at_call 9; (with_reducible refine (parse_node 60 ALIVE aliveN 0 (-1) m w HM.out alive_parse).mono ?_); rintro e w1 ⟨A, c, rfl, h1, h2, h3⟩; have H1 := Aside0.mk h1; have H2 := Aside0.mk h2; have H3 := Aside0.mk h3; clear h1 h2 h3)
  generalize hW : World.alloc w1 _ = W1
  have HN := Aside0.mk (show NodeB W1 w1.heap.size aliveN A c from by rw [← hW]; exact NodeB.new H1.out H2.out)
  have HB := Aside0.mk (show Below w.heap.size w W1 from by rw [← hW]; exact below_alloc H3.out _)
  clear hW
  have c0 := (blk_cell HN.out.blk 0).trans rfl
  have c1 := (blk_cell HN.out.blk 1).trans rfl
  have c2 := (blk_cell HN.out.blk 2).trans rfl
  have c3 := (blk_cell HN.out.blk 3).trans rfl
  have c4 := (blk_cell HN.out.blk 4).trans rfl
  have hcall := Aside0.mk (print_node 60 aliveN A c ALIVE2 0 m W1 HN.out.hc HN.out.hC (pw_cell_below HB.out HM.out) (HT.out.below HB.out) alive_print)
  go_wp2_with (go_at_call 13; (refine hcall.out.mono ?_); rintro e w2 ⟨rfl, h1⟩; have H4 := Aside0.mk h1; clear h1)
  go_ret
  exact ⟨rfl, below_then HB.out HB.out.size H4.out⟩
end Go.Proofs.YtknbfhhmjbnemaaDoor.P
end
section
namespace Go.Proofs.YtknbfhhmjbnemaaDoor.P
open Go.RowKit Go.Proofs.YtknbfhhmjbnemaaDoorW.PrintWords Go.Proofs.YtknbfhhmjbnemaaDoorW.PrintLast Go.Proofs.YtknbfhhmjbnemaaDoorW.PrintMore
set_option linter.unusedVariables false
set_option linter.unusedSimpArgs false

/-! plain laws of the parser: what it hands on, and what it leaves -/
abbrev G (α : Type) := List S60 → Int → PR α
def er (t : S60) : Int × ByteArray × Int := (t.f0, t.f1, t.f2)
def ern : Nat → S25 → S25
  | 0, _ => z25
  | k + 1, n => ⟨n.f0, n.f1, n.f2, 0, n.f4.map (ern k)⟩
/-- The same trees, but for their places. -/
def En (n m : S25) : Prop := ∀ k, ern k n = ern k m
def El (l m : List S25) : Prop := ∀ k, l.map (ern k) = m.map (ern k)
def Et (t u : S60) : Prop := er t = er u
theorem El.snoc {l m : List S25} {a b : S25} (h : El l m) (h1 : En a b) : El (l ++ [a]) (m ++ [b]) := fun k => by rw [List.map_append, List.map_append, h k]; simp [h1 k]
theorem El.one {a b : S25} (h1 : En a b) : El [a] [b] := fun k => by simp [h1 k]
theorem El.nil : El [] [] := fun k => rfl
theorem El.len {l m : List S25} (h : El l m) : l.length = m.length := by have := congrArg List.length (h 0); simpa using this
theorem En.mk {a b : ByteArray} {c d e : Int} {l m : List S25} (h : El l m) : En ⟨a, b, c, d, l⟩ ⟨a, b, c, e, m⟩ := fun k => by
  cases k with
  | zero => rfl
  | succ k => simp only [ern, h k]
theorem En.refl (a : S25) : En a a := fun _ => rfl
theorem El.refl (a : List S25) : El a a := fun _ => rfl
/-- What is left is an end of what was given; a fault stands at the head of such an end. -/
def Mono {α : Type} (g : G α) : Prop := ∀ T en, (∀ a T', g T en = some (.ok (a, T')) → T' <:+ T) ∧ (∀ x, g T en = some (.error x) → ∃ S, S <:+ T ∧ x.2 = pplace S en)
/-- Something is taken. -/
def Cons {α : Type} (g : G α) : Prop := ∀ T en a T', g T en = some (.ok (a, T')) → T'.length < T.length
def bd {α β : Type} (g : G α) (h : α → G β) : G β := fun T en => pbd (g T en) fun a T1 => h a T1 en
section
variable {α β : Type} {g g' : G α} {h h' : α → G β}
theorem Mono.bd (hg : Mono g) (hh : ∀ a, Mono (h a)) : Mono (bd g h) := by
  intro T en
  refine ⟨fun b T' hb => ?_, fun x hx => ?_⟩
  · rcases pbd_inv hb with ⟨e, _, he⟩ | ⟨a, T1, h1, h2⟩
    · cases he
    · exact ((hh a T1 en).1 b T' h2).trans ((hg T en).1 a T1 h1)
  · rcases pbd_inv hx with ⟨e, h1, he⟩ | ⟨a, T1, h1, h2⟩
    · cases he
      exact (hg T en).2 x h1
    · obtain ⟨S, hS, hp⟩ := (hh a T1 en).2 x h2
      exact ⟨S, hS.trans ((hg T en).1 a T1 h1), hp⟩
theorem Cons.bd1 (hg : Cons g) (hh : ∀ a, Mono (h a)) : Cons (P.bd g h) := by
  intro T en b T' hb
  rcases pbd_inv hb with ⟨e, _, he⟩ | ⟨a, T1, h1, h2⟩
  · cases he
  · have := hg T en a T1 h1
    have := ((hh a T1 en).1 b T' h2).length_le
    omega
end
/-- What is read of tokens V, whatever stands behind them, is read of tokens alike. -/
def Sim {α : Type} (b : Bool) (Ra : α → α → Prop) (g g' : G α) : Prop :=
  ∀ V V' R R' en en' a T', V.map er = V'.map er → g (V ++ R) en = some (.ok (a, T')) → (R.length < T'.length ∨ b = true ∧ R.length ≤ T'.length) →
    ∃ a' V2 V2', T' = V2 ++ R ∧ V2.map er = V2'.map er ∧ g' (V' ++ R') en' = some (.ok (a', V2' ++ R')) ∧ Ra a a'
/-- A fault ahead of at. -/
def FE {α : Type} (g g' : G α) : Prop :=
  ∀ V R R' en en' at_ x, (∀ t ∈ R, at_ ≤ t.f3) → at_ ≤ en → g (V ++ R) en = some (.error x) → x.2 < at_ → g' (V ++ R') en' = some (.error x)
section
variable {α β : Type} {g g' : G α} {h h' : α → G β} {Ra : α → α → Prop} {Rb : β → β → Prop} {b : Bool}
theorem Sim.weak (hg : Sim true Ra g g') : Sim b Ra g g' := fun V V' R R' en en' a T' h1 h2 h3 => hg V V' R R' en en' a T' h1 h2 (h3.elim .inl fun k => .inr ⟨rfl, k.2⟩)
theorem Sim.bd (hg : Sim true Ra g g') (hh : ∀ a a', Ra a a' → Sim b Rb (h a) (h' a')) (hm : ∀ a, Mono (h a)) : Sim b Rb (P.bd g h) (P.bd g' h') := by
  intro V V' R R' en en' c T' hV hc hl
  rcases pbd_inv hc with ⟨e, _, he⟩ | ⟨a, T1, h1, h2⟩
  · cases he
  · have hle := ((hm a T1 en).1 c T' h2).length_le
    obtain ⟨a', V2, V2', rfl, hV2, h3, hR⟩ := hg V V' R R' en en' a T1 hV h1 (.inr ⟨rfl, by rcases hl with hl | hl <;> omega⟩)
    obtain ⟨c', V3, V3', rfl, hV3, h4, hRb⟩ := hh a a' hR V2 V2' R R' en en' c T' hV2 h2 hl
    exact ⟨c', V3, V3', rfl, hV3, by unfold P.bd; rw [h3]; exact h4, hRb⟩
theorem Sim.bdc (hg : Sim false Ra g g') (hh : ∀ a a', Ra a a' → Sim b Rb (h a) (h' a')) (hm : ∀ a, Cons (h a)) : Sim b Rb (P.bd g h) (P.bd g' h') := by
  intro V V' R R' en en' c T' hV hc hl
  rcases pbd_inv hc with ⟨e, _, he⟩ | ⟨a, T1, h1, h2⟩
  · cases he
  · have hle := hm a T1 en c T' h2
    obtain ⟨a', V2, V2', rfl, hV2, h3, hR⟩ := hg V V' R R' en en' a T1 hV h1 (.inl (by rcases hl with hl | hl <;> omega))
    obtain ⟨c', V3, V3', rfl, hV3, h4, hRb⟩ := hh a a' hR V2 V2' R R' en en' c T' hV2 h2 hl
    exact ⟨c', V3, V3', rfl, hV3, by unfold P.bd; rw [h3]; exact h4, hRb⟩
theorem suffix_cut {V V2 R : List S60} (h : V2 ++ R <:+ V ++ R) : V2 <:+ V := by
  obtain ⟨P, hP⟩ := h
  rw [← List.append_assoc] at hP
  exact ⟨P, List.append_cancel_right hP⟩
theorem suffix_same {V A B : List S60} (hA : A <:+ V) (hB : B <:+ V) (hl : A.length = B.length) : A = B := by
  obtain ⟨P, rfl⟩ := hA
  obtain ⟨Q, hQ⟩ := hB
  have := congrArg List.length hQ
  simp only [List.length_append] at this
  exact (List.append_inj hQ (by omega)).2.symm
theorem suffix_short {V R T : List S60} (h : T <:+ V ++ R) (hl : T.length ≤ R.length) : T <:+ R := by
  obtain ⟨P, hP⟩ := h
  have hlen := congrArg List.length hP
  simp only [List.length_append] at hlen
  have hd := congrArg (List.drop V.length) hP
  rw [List.drop_left] at hd
  rw [List.drop_append_of_le_length (by omega)] at hd
  exact ⟨_, hd⟩
theorem pplace_ge {R S : List S60} {en at_ : Int} (hR : ∀ t ∈ R, at_ ≤ t.f3) (he : at_ ≤ en) (hS : S <:+ R) : at_ ≤ pplace S en := by
  cases S with
  | nil => exact he
  | cons t S => exact hR t (hS.subset (List.mem_cons_self ..))
theorem FE.bd (hg : FE g g') (hs : Sim false Ra g g') (hmg : Mono g) (hmg' : Mono g') (hh : ∀ a a', Ra a a' → FE (h a) (h' a')) (hm : ∀ a, Mono (h a)) : FE (P.bd g h) (P.bd g' h') := by
  intro V R R' en en' at_ x hR he hx hlt
  rcases pbd_inv hx with ⟨e, h1, h2⟩ | ⟨a, T1, h1, h2⟩
  · cases h2
    unfold P.bd
    rw [hg V R R' en en' at_ x hR he h1 hlt]
    rfl
  · obtain ⟨S, hS, hp⟩ := (hm a T1 en).2 x h2
    have hlen : R.length < T1.length := by
      rcases Nat.lt_or_ge R.length T1.length with h | h
      · exact h
      · have := pplace_ge hR he (hS.trans (suffix_short ((hmg _ en).1 a T1 h1) h))
        omega
    obtain ⟨a', V2, V2', rfl, hV2, h3, hRa⟩ := hs V V R R' en en' a T1 rfl h1 (.inl hlen)
    have e1 := suffix_cut ((hmg _ en).1 a _ h1)
    have e2 := suffix_cut ((hmg' _ en').1 a' _ h3)
    obtain rfl : V2 = V2' := suffix_same e1 e2 (by have := congrArg List.length hV2; simpa using this)
    have h5 := hh a a' hRa V2 R R' en en' at_ x hR he h2 hlt
    unfold P.bd
    rw [h3]
    exact h5
end
/-! the leaves -/
def gret {α : Type} (a : α) : G α := fun T _ => some (.ok (a, T))
theorem Mono.ret {α : Type} (a : α) : Mono (gret a) := fun T en => ⟨fun b T' h => by cases h; exact List.suffix_refl _, fun x h => by cases h⟩
theorem Sim.ret {α : Type} {Ra : α → α → Prop} {b : Bool} {a a' : α} (h : Ra a a') : Sim b Ra (gret a) (gret a') := by
  intro V V' R R' en en' c T' hV hc hl
  cases hc
  exact ⟨a', V, V', rfl, hV, rfl, h⟩
theorem FE.ret {α : Type} {a a' : α} : FE (gret a) (gret a') := fun V R R' en en' at_ x hR he hx hlt => by cases hx
def gmust (s : ByteArray) : G Unit := fun T en => some (pmust T en s)
theorem pis_er {t u : S60} {T U : List S60} {s : ByteArray} (h : er t = er u) : pis (t :: T) s = pis (u :: U) s := by
  unfold er at h
  simp only [Prod.mk.injEq] at h
  obtain ⟨h0, h1, h2⟩ := h
  simp only [pis, h0, h1]
theorem Mono.must (s : ByteArray) : Mono (gmust s) := fun T en => by
  unfold gmust pmust
  refine ⟨fun a T' h => ?_, fun x h => ?_⟩
  · split at h
    · cases h; exact List.tail_suffix T
    · cases h
  · split at h
    · cases h
    · cases h; exact ⟨T, List.suffix_refl _, rfl⟩
theorem Cons.must (s : ByteArray) : Cons (gmust s) := fun T en a T' h => by
  unfold gmust pmust at h
  split at h
  · rename_i hp
    obtain ⟨t, T1, rfl⟩ := pis_cons hp
    cases h; simp
  · cases h
theorem Sim.must {b : Bool} (s : ByteArray) : Sim b (fun _ _ => True) (gmust s) (gmust s) := by
  intro V V' R R' en en' c T' hV hc hl
  have hcons := Cons.must s _ _ _ _ hc
  cases V with
  | nil => rw [List.nil_append] at hcons; rcases hl with hl | hl <;> omega
  | cons t V =>
    cases V' with
    | nil => cases hV
    | cons t' V' =>
      simp only [List.map_cons, List.cons.injEq] at hV
      unfold gmust pmust at hc ⊢
      rw [List.cons_append] at hc ⊢
      rw [pis_er (U := V' ++ R') hV.1] at hc
      by_cases hp : pis (t' :: (V' ++ R')) s = true
      · rw [if_pos hp] at hc
        rw [if_pos hp]
        cases hc
        exact ⟨(), V, V', rfl, hV.2, rfl, trivial⟩
      · rw [if_neg hp] at hc
        cases hc
theorem FE.must (s : ByteArray) : FE (gmust s) (gmust s) := by
  intro V R R' en en' at_ x hR he hx hlt
  cases V with
  | nil =>
    obtain ⟨S, hS, hp⟩ := (Mono.must s _ _).2 x hx
    have := pplace_ge hR he hS
    omega
  | cons t V =>
    unfold gmust pmust at hx ⊢
    rw [List.cons_append] at hx ⊢
    rw [pis_er (t := t) (u := t) (U := V ++ R') rfl] at hx
    by_cases hp : pis (t :: (V ++ R')) s = true
    · rw [if_pos hp] at hx; cases hx
    · rw [if_neg hp] at hx ⊢
      exact hx
def gtake (may : S60 → Option Bool) : G S60 := fun T en => ptake may T en
theorem Mono.take (may : S60 → Option Bool) : Mono (gtake may) := fun T en => by
  unfold gtake
  cases T with
  | nil => exact ⟨(fun a T' h => by cases h), (fun x h => by cases h; exact ⟨[], List.suffix_refl _, rfl⟩)⟩
  | cons t T =>
    simp only [ptake]
    refine ⟨fun a T' h => ?_, fun x h => ?_⟩
    · obtain ⟨b, hb, h⟩ := Option.map_eq_some_iff.1 h
      split at h
      · cases h; exact List.suffix_cons _ _
      · cases h
    · obtain ⟨b, hb, h⟩ := Option.map_eq_some_iff.1 h
      split at h
      · cases h
      · cases h; exact ⟨t :: T, List.suffix_refl _, rfl⟩
theorem Cons.take (may : S60 → Option Bool) : Cons (gtake may) := fun T en a T' h => by
  unfold gtake at h
  cases T with
  | nil => cases h
  | cons t T =>
    simp only [ptake] at h
    obtain ⟨b, hb, h⟩ := Option.map_eq_some_iff.1 h
    split at h
    · cases h; simp
    · cases h
theorem Sim.take {b : Bool} (may : S60 → Option Bool) (hmay : ∀ t u, er t = er u → may t = may u) : Sim b Et (gtake may) (gtake may) := by
  intro V V' R R' en en' c T' hV hc hl
  have hcons := Cons.take may _ _ _ _ hc
  cases V with
  | nil => rw [List.nil_append] at hcons; rcases hl with hl | hl <;> omega
  | cons t V =>
    cases V' with
    | nil => cases hV
    | cons t' V' =>
      simp only [List.map_cons, List.cons.injEq] at hV
      unfold gtake at hc ⊢
      rw [List.cons_append] at hc ⊢
      simp only [ptake] at hc ⊢
      rw [hmay t t' hV.1] at hc
      obtain ⟨bb, hb, h⟩ := Option.map_eq_some_iff.1 hc
      rw [hb]
      split at h
      · rename_i hbb
        cases h
        refine ⟨t', V, V', rfl, hV.2, ?_, hV.1⟩
        rw [Option.map_some, if_pos hbb]
      · cases h
theorem FE.take (may : S60 → Option Bool) : FE (gtake may) (gtake may) := by
  intro V R R' en en' at_ x hR he hx hlt
  cases V with
  | nil =>
    obtain ⟨S, hS, hp⟩ := (Mono.take may _ _).2 x hx
    have := pplace_ge hR he hS
    omega
  | cons t V =>
    unfold gtake at hx ⊢
    rw [List.cons_append] at hx ⊢
    simp only [ptake] at hx ⊢
    obtain ⟨bb, hb, h⟩ := Option.map_eq_some_iff.1 hx
    rw [hb]
    split at h
    · cases h
    · rename_i hbb
      rw [Option.map_some, if_neg hbb]
      exact congrArg some h
theorem pmay_er (k : Int) : ∀ t u, er t = er u → pmay k t = pmay k u := by
  intro t u h
  unfold er at h
  simp only [Prod.mk.injEq] at h
  simp only [pmay, h.1, h.2.1]
theorem pstw_er : ∀ t u, er t = er u → (some (pstw t) : Option Bool) = some (pstw u) := by
  intro t u h
  unfold er at h
  simp only [Prod.mk.injEq] at h
  simp only [pstw, h.1, h.2.1]
def gof (k : Int) : G S60 := fun T en => pof T en k
end Go.Proofs.YtknbfhhmjbnemaaDoor.P
end
section
namespace Go.Proofs.YtknbfhhmjbnemaaDoor.P
open Go.RowKit Go.Proofs.YtknbfhhmjbnemaaDoorW.PrintWords Go.Proofs.YtknbfhhmjbnemaaDoorW.PrintLast Go.Proofs.YtknbfhhmjbnemaaDoorW.PrintMore
set_option linter.unusedVariables false
set_option linter.unusedSimpArgs false

def gite {α : Type} (c : Prop) [Decidable c] (f g : G α) : G α := fun T en => if c then f T en else g T en
section
variable {α : Type} {c : Prop} [Decidable c] {f g f' g' : G α} {Ra : α → α → Prop} {b : Bool}
theorem gite_pos (h : c) : gite c f g = f := by unfold gite; funext T en; rw [if_pos h]
theorem gite_neg (h : ¬ c) : gite c f g = g := by unfold gite; funext T en; rw [if_neg h]
theorem Mono.gite (hf : Mono f) (hg : Mono g) : Mono (P.gite c f g) := by by_cases h : c; rw [gite_pos h]; exact hf; rw [gite_neg h]; exact hg
theorem Sim.gite (hf : Sim b Ra f f') (hg : Sim b Ra g g') : Sim b Ra (P.gite c f g) (P.gite c f' g') := by by_cases h : c; rw [gite_pos h, gite_pos h]; exact hf; rw [gite_neg h, gite_neg h]; exact hg
theorem FE.gite (hf : FE f f') (hg : FE g g') : FE (P.gite c f g) (P.gite c f' g') := by by_cases h : c; rw [gite_pos h, gite_pos h]; exact hf; rw [gite_neg h, gite_neg h]; exact hg
end
theorem Mono.none {α : Type} {g : G α} (e : ∀ T en, g T en = none) : Mono g := by
  intro T en
  rw [e]
  exact ⟨(fun a T' h => by cases h), (fun x h => by cases h)⟩
theorem Mono.err {α : Type} {g : G α} {c : Int} (e : ∀ T en, g T en = some (.error (c, pplace T en))) : Mono g := by
  intro T en
  rw [e]
  exact ⟨(fun a T' h => by cases h), (fun x h => by cases h; exact ⟨T, List.suffix_refl _, rfl⟩)⟩
theorem Cons.none {α : Type} {g : G α} (e : ∀ T en, g T en = none) : Cons g := by
  intro T en a T' h
  rw [e] at h
  cases h
theorem Cons.err {α : Type} {g : G α} {c : Int} (e : ∀ T en, g T en = some (.error (c, pplace T en))) : Cons g := by
  intro T en a T' h
  rw [e] at h
  cases h
def gexpr (k : Nat) (nest : Int) : G S25 := fun T en => pexpr k T en nest
def gexprs (k : Nat) (nest : Int) (acc : List S25) : G (List S25) := fun T en => pexprs k T en nest acc
theorem gexpr_zero (nest : Int) : ∀ T en, gexpr 0 nest T en = none := fun T en => by unfold gexpr; rw [pexpr]
theorem gexprs_zero (nest : Int) (acc : List S25) : ∀ T en, gexprs 0 nest acc T en = none := fun T en => by unfold gexprs; rw [pexprs]
def guse : G S25 := bd (gof 0) fun t => gret ⟨(⟨#[117, 115, 101]⟩ : ByteArray), t.f1, 0, t.f3, []⟩
def gbr (k : Nat) (w : ByteArray) (nest : Int) (first : S25) : G (List S25) :=
  gite (w.toList = ([108, 105, 110, 101, 97, 114] : List UInt8)) (bd (gmust CM) fun _ => bd (gof 1) fun a => bd (gmust CM) fun _ => bd (gof 1) fun b => gret ([first] ++ [pnumN a] ++ [pnumN b]))
  (gite (w.toList = ([115, 110, 97, 112, 115, 104, 111, 116] : List UInt8)) (bd (gmust CM) fun _ => bd (gexpr k (nest + 1)) fun a => bd (gmust CM) fun _ => bd (gof 1) fun b => gret ([first] ++ [a] ++ [pnumN b]))
  (gite (w.toList = ([99, 114, 121, 112, 116] : List UInt8) ∨ w.toList = ([105, 110, 116, 101, 103, 114, 105, 116, 121] : List UInt8) ∨ w.toList = ([118, 101, 114, 105, 116, 121] : List UInt8)) (bd (gmust CM) fun _ => bd (gof 0) fun a => gret ([first] ++ [pnameN a]))
  (gexprs k nest [first])))
def gT (k : Nat) (w : ByteArray) (p : Int) (nest : Int) : G S25 := bd (gmust LP) fun _ => bd (gexpr k (nest + 1)) fun first => bd (gbr k w nest first) fun L => bd (gmust RP) fun _ => gret ⟨w, ⟨#[]⟩, 0, p, L⟩
theorem gexpr_cons (k : Nat) (nest : Int) (hn0 : ¬ (nest < 0 ∨ nest > 100)) (hn : ¬ nest > 12) (t : S60) (T : List S60) (en : Int) :
    gexpr (k + 1) nest (t :: T) en = if ((t.f0 == 0) && ptarget t.f1) = true then gT k t.f1 t.f3 nest T en else guse (t :: T) en := by
  unfold gexpr
  rw [pexpr, if_neg hn0, if_neg hn]
  rfl
theorem gexpr_nil (k : Nat) (nest : Int) (hn0 : ¬ (nest < 0 ∨ nest > 100)) (hn : ¬ nest > 12) (en : Int) : gexpr (k + 1) nest [] en = guse [] en := by
  unfold gexpr
  rw [pexpr, if_neg hn0, if_neg hn]
  rfl
theorem gexprs_eq (k : Nat) (nest : Int) (acc : List S25) (T : List S60) (en : Int) :
    gexprs (k + 1) nest acc T en = if acc.length ≤ 1000000 then (if pis T CM = true then bd (gexpr k (nest + 1)) (fun a => gexprs k nest (acc ++ [a])) T.tail en else some (.ok (acc, T))) else none := by
  unfold gexprs
  rw [pexprs]
  rfl
theorem Mono.of (k : Int) : Mono (gof k) := Mono.take _
theorem Cons.of (k : Int) : Cons (gof k) := Cons.take _
theorem Sim.of {b : Bool} (k : Int) : Sim b Et (gof k) (gof k) := Sim.take _ (pmay_er k)
theorem FE.of (k : Int) : FE (gof k) (gof k) := FE.take _
theorem Mono.use : Mono guse := Mono.bd (Mono.of 0) fun _ => Mono.ret _
theorem Cons.use : Cons guse := Cons.bd1 (Cons.of 0) fun _ => Mono.ret _
theorem Et.f1 {t u : S60} (h : Et t u) : t.f1 = u.f1 := by unfold Et er at h; simp only [Prod.mk.injEq] at h; exact h.2.1
theorem Et.f2 {t u : S60} (h : Et t u) : t.f2 = u.f2 := by unfold Et er at h; simp only [Prod.mk.injEq] at h; exact h.2.2
theorem Et.f0 {t u : S60} (h : Et t u) : t.f0 = u.f0 := by unfold Et er at h; simp only [Prod.mk.injEq] at h; exact h.1
theorem Sim.use {b : Bool} : Sim b En guse guse := Sim.bd (Sim.of 0) (fun a a' h => Sim.ret (by rw [h.f1]; exact En.mk (fun _ => rfl))) fun _ => Mono.ret _
theorem En.num {t u : S60} (h : Et t u) : En (pnumN t) (pnumN u) := by unfold pnumN; rw [h.f2]; exact En.mk (fun _ => rfl)
theorem En.name {t u : S60} (h : Et t u) : En (pnameN t) (pnameN u) := by unfold pnameN; rw [h.f1]; exact En.mk (fun _ => rfl)
section
variable (k : Nat) (ihm : ∀ nest, Mono (gexpr k nest)) (ihc : ∀ nest, Cons (gexpr k nest)) (ihms : ∀ nest acc, Mono (gexprs k nest acc))
include ihm ihms
theorem Mono.br (w : ByteArray) (nest : Int) (first : S25) : Mono (gbr k w nest first) := by
  unfold gbr
  refine Mono.gite (Mono.bd (Mono.must _) fun _ => Mono.bd (Mono.of 1) fun _ => Mono.bd (Mono.must _) fun _ => Mono.bd (Mono.of 1) fun _ => Mono.ret _) (Mono.gite (Mono.bd (Mono.must _) fun _ => Mono.bd (ihm _) fun _ => Mono.bd (Mono.must _) fun _ => Mono.bd (Mono.of 1) fun _ => Mono.ret _) (Mono.gite (Mono.bd (Mono.must _) fun _ => Mono.bd (Mono.of 0) fun _ => Mono.ret _) (ihms _ _)))
theorem Mono.T (w : ByteArray) (p nest : Int) : Mono (gT k w p nest) :=
  Mono.bd (Mono.must _) fun _ => Mono.bd (ihm _) fun first => Mono.bd (Mono.br k ihm ihms w nest first) fun _ => Mono.bd (Mono.must _) fun _ => Mono.ret _
end
theorem mono_all : ∀ k, (∀ nest, Mono (gexpr k nest)) ∧ (∀ nest acc, Mono (gexprs k nest acc)) ∧ (∀ nest, Cons (gexpr k nest))
  | 0 => ⟨fun nest => Mono.none (gexpr_zero nest), fun nest acc => Mono.none (gexprs_zero nest acc), fun nest => Cons.none (gexpr_zero nest)⟩
  | k + 1 => by
    obtain ⟨ihm, ihms, ihc⟩ := mono_all k
    have key : ∀ nest, Mono (gexpr (k + 1) nest) ∧ Cons (gexpr (k + 1) nest) := by
      intro nest
      by_cases hn0 : nest < 0 ∨ nest > 100
      · have e : ∀ T en, gexpr (k + 1) nest T en = none := fun T en => by unfold gexpr; rw [pexpr, if_pos hn0]
        exact ⟨Mono.none e, Cons.none e⟩
      by_cases hn : nest > 12
      · have e : ∀ T en, gexpr (k + 1) nest T en = some (.error (112, pplace T en)) := fun T en => by unfold gexpr; rw [pexpr, if_neg hn0, if_pos hn]
        exact ⟨Mono.err e, Cons.err e⟩
      have hT := fun w p => Mono.T k ihm ihms w p nest
      have hTc : ∀ w p, Cons (gT k w p nest) := fun w p => Cons.bd1 (Cons.must _) fun _ => Mono.bd (ihm _) fun first => Mono.bd (Mono.br k ihm ihms w nest first) fun _ => Mono.bd (Mono.must _) fun _ => Mono.ret _
      refine ⟨fun T en => ?_, fun T en a T' h => ?_⟩
      · cases T with
        | nil =>
          rw [gexpr_nil k nest hn0 hn]
          exact Mono.use _ _
        | cons t T =>
          rw [gexpr_cons k nest hn0 hn]
          split
          · refine ⟨fun a T' h => (((hT _ _) _ _).1 a T' h).trans (List.suffix_cons _ _), fun x h => ?_⟩
            obtain ⟨S, hS, hp⟩ := ((hT _ _) _ _).2 x h
            exact ⟨S, hS.trans (List.suffix_cons _ _), hp⟩
          · exact Mono.use _ _
      · cases T with
        | nil =>
          rw [gexpr_nil k nest hn0 hn] at h
          exact Cons.use _ _ _ _ h
        | cons t T =>
          rw [gexpr_cons k nest hn0 hn] at h
          split at h
          · have := hTc _ _ _ _ _ _ h
            rw [List.length_cons]
            omega
          · exact Cons.use _ _ _ _ h
    refine ⟨fun nest => (key nest).1, fun nest acc T en => ?_, fun nest => (key nest).2⟩
    rw [gexprs_eq]
    split
    · split
      · have hM := Mono.bd (ihm (nest + 1)) (fun a => ihms nest (acc ++ [a])) T.tail en
        refine ⟨fun a T' h => (hM.1 a T' h).trans (List.tail_suffix _), fun x h => ?_⟩
        obtain ⟨S, hS, hp⟩ := hM.2 x h
        exact ⟨S, hS.trans (List.tail_suffix _), hp⟩
      · exact ⟨fun a T' h => (by cases h; exact List.suffix_refl _), fun x h => (by cases h)⟩
    · exact ⟨fun a T' h => (by cases h), fun x h => (by cases h)⟩
section
variable (k : Nat) (ih : ∀ nest, Sim true En (gexpr k nest) (gexpr k nest)) (ihs : ∀ nest acc acc', El acc acc' → Sim false El (gexprs k nest acc) (gexprs k nest acc'))
include ih ihs
theorem Sim.br (w : ByteArray) (nest : Int) (first first' : S25) (hf : En first first') : Sim false El (gbr k w nest first) (gbr k w nest first') := by
  obtain ⟨hm, hms, hc⟩ := mono_all k
  unfold gbr
  refine Sim.gite ?_ (Sim.gite ?_ (Sim.gite ?_ ?_))
  · exact Sim.bd (Sim.must _) (fun _ _ _ => Sim.bd (Sim.of 1) (fun a a' ha => Sim.bd (Sim.must _) (fun _ _ _ => Sim.bd (Sim.of 1) (fun c c' hc => Sim.ret (((El.one hf).snoc (En.num ha)).snoc (En.num hc))) fun _ => Mono.ret _) fun _ => Mono.bd (Mono.of 1) fun _ => Mono.ret _) fun _ => Mono.bd (Mono.must _) fun _ => Mono.bd (Mono.of 1) fun _ => Mono.ret _) fun _ => Mono.bd (Mono.of 1) fun _ => Mono.bd (Mono.must _) fun _ => Mono.bd (Mono.of 1) fun _ => Mono.ret _
  · exact Sim.bd (Sim.must _) (fun _ _ _ => Sim.bd (ih _) (fun a a' ha => Sim.bd (Sim.must _) (fun _ _ _ => Sim.bd (Sim.of 1) (fun c c' hc => Sim.ret (((El.one hf).snoc ha).snoc (En.num hc))) fun _ => Mono.ret _) fun _ => Mono.bd (Mono.of 1) fun _ => Mono.ret _) fun _ => Mono.bd (Mono.must _) fun _ => Mono.bd (Mono.of 1) fun _ => Mono.ret _) fun _ => Mono.bd (hm _) fun _ => Mono.bd (Mono.must _) fun _ => Mono.bd (Mono.of 1) fun _ => Mono.ret _
  · exact Sim.bd (Sim.must _) (fun _ _ _ => Sim.bd (Sim.of 0) (fun a a' ha => Sim.ret ((El.one hf).snoc (En.name ha))) fun _ => Mono.ret _) fun _ => Mono.bd (Mono.of 0) fun _ => Mono.ret _
  · exact ihs _ _ _ (El.one hf)
theorem Sim.T (w : ByteArray) (p p' nest : Int) : Sim true En (gT k w p nest) (gT k w p' nest) := by
  obtain ⟨hm, hms, hc⟩ := mono_all k
  exact Sim.bd (Sim.must _) (fun _ _ _ => Sim.bd (ih _) (fun a a' ha => Sim.bdc (Sim.br k ih ihs w nest a a' ha) (fun L L' hL => Sim.bd (Sim.must _) (fun _ _ _ => Sim.ret (En.mk hL)) fun _ => Mono.ret _) fun _ => Cons.bd1 (Cons.must _) fun _ => Mono.ret _) fun _ => Mono.bd (Mono.br k hm hms w nest _) fun _ => Mono.bd (Mono.must _) fun _ => Mono.ret _) fun _ => Mono.bd (hm _) fun _ => Mono.bd (Mono.br k hm hms w nest _) fun _ => Mono.bd (Mono.must _) fun _ => Mono.ret _
end
theorem sim_all : ∀ k, (∀ nest, Sim true En (gexpr k nest) (gexpr k nest)) ∧ (∀ nest acc acc', El acc acc' → Sim false El (gexprs k nest acc) (gexprs k nest acc'))
  | 0 => ⟨(fun nest V V' R R' en en' a T' _ h _ => by rw [gexpr_zero] at h; cases h), (fun nest acc acc' _ V V' R R' en en' a T' _ h _ => by rw [gexprs_zero] at h; cases h)⟩
  | k + 1 => by
    obtain ⟨ih, ihs⟩ := sim_all k
    obtain ⟨hm, hms, hc⟩ := mono_all k
    refine ⟨fun nest => ?_, fun nest acc acc' hacc => ?_⟩
    · by_cases hn0 : nest < 0 ∨ nest > 100
      · have e : ∀ T en, gexpr (k + 1) nest T en = none := fun T en => by unfold gexpr; rw [pexpr, if_pos hn0]
        intro V V' R R' en en' a T' _ h _
        rw [e] at h; cases h
      by_cases hn : nest > 12
      · have e : ∀ T en, gexpr (k + 1) nest T en = some (.error (112, pplace T en)) := fun T en => by unfold gexpr; rw [pexpr, if_neg hn0, if_pos hn]
        intro V V' R R' en en' a T' _ h _
        rw [e] at h; cases h
      intro V V' R R' en en' a T' hV h hl
      have hcons := (mono_all (k + 1)).2.2 nest _ _ _ _ h
      cases V with
      | nil => rw [List.nil_append] at hcons; rcases hl with hl | hl <;> omega
      | cons t V =>
        cases V' with
        | nil => cases hV
        | cons t' V' =>
          simp only [List.map_cons, List.cons.injEq] at hV
          have ht : Et t t' := hV.1
          rw [List.cons_append, gexpr_cons k nest hn0 hn] at h
          rw [List.cons_append, gexpr_cons k nest hn0 hn, ← ht.f0, ← ht.f1]
          split at h
          · rename_i hc1
            rw [if_pos hc1]
            exact Sim.T k ih ihs t.f1 t.f3 t'.f3 nest V V' R R' en en' a T' hV.2 h hl
          · rename_i hc1
            rw [if_neg hc1]
            exact Sim.use (b := true) (t :: V) (t' :: V') R R' en en' a T' (by simp [hV.1, hV.2]) h hl
    · intro V V' R R' en en' a T' hV h hl
      have hle := (((mono_all (k + 1)).2.1 nest acc _ _).1 _ _ h).length_le
      rw [gexprs_eq] at h
      rw [gexprs_eq, ← hacc.len]
      split at h
      case isFalse => cases h
      rename_i hb
      rw [if_pos hb]
      cases V with
      | nil => rw [List.nil_append] at hle; rcases hl with hl | ⟨hl, _⟩; (omega); (cases hl)
      | cons t V =>
        cases V' with
        | nil => cases hV
        | cons t' V' =>
          simp only [List.map_cons, List.cons.injEq] at hV
          rw [List.cons_append] at h ⊢
          rw [pis_er (U := V' ++ R') hV.1] at h
          split at h
          · rename_i hp
            rw [if_pos hp]
            exact Sim.bd (b := false) (Rb := El) (ih (nest + 1)) (fun a a' ha => ihs nest (acc ++ [a]) (acc' ++ [a']) (hacc.snoc ha)) (fun a => hms nest (acc ++ [a])) V V' R R' en en' a T' hV.2 h hl
          · rename_i hp
            rw [if_neg hp]
            cases h
            exact ⟨acc', t :: V, t' :: V', rfl, by simp [hV.1, hV.2], rfl, hacc⟩
end Go.Proofs.YtknbfhhmjbnemaaDoor.P
end
section
namespace Go.Proofs.YtknbfhhmjbnemaaDoor.P
open Go.RowKit Go.Proofs.YtknbfhhmjbnemaaDoorW.PrintWords Go.Proofs.YtknbfhhmjbnemaaDoorW.PrintLast Go.Proofs.YtknbfhhmjbnemaaDoorW.PrintMore
set_option linter.unusedVariables false
set_option linter.unusedSimpArgs false

section
variable (k : Nat) (ihf : ∀ nest, FE (gexpr k nest) (gexpr k nest)) (ihfs : ∀ nest acc acc', El acc acc' → FE (gexprs k nest acc) (gexprs k nest acc'))
include ihf ihfs
theorem FE.br (w : ByteArray) (nest : Int) (first first' : S25) (hf : En first first') : FE (gbr k w nest first) (gbr k w nest first') := by
  obtain ⟨hm, hms, hc⟩ := mono_all k
  obtain ⟨ih, ihs⟩ := sim_all k
  have m1 : ∀ a b : S25, Mono (P.bd (gof 1) fun c => gret ([a] ++ [b] ++ [pnumN c])) := fun a b => Mono.bd (Mono.of 1) fun _ => Mono.ret _
  have m2 : ∀ a b : S25, Mono (P.bd (gmust CM) fun _ => P.bd (gof 1) fun c => gret ([a] ++ [b] ++ [pnumN c])) := fun a b => Mono.bd (Mono.must _) fun _ => m1 a b
  have f1 : ∀ a b a' b' : S25, FE (P.bd (gof 1) fun c => gret ([a] ++ [b] ++ [pnumN c])) (P.bd (gof 1) fun c => gret ([a'] ++ [b'] ++ [pnumN c])) := fun a b a' b' => FE.bd (FE.of 1) (Sim.of 1) (Mono.of 1) (Mono.of 1) (fun _ _ _ => FE.ret) fun _ => Mono.ret _
  have f2 : ∀ a b a' b' : S25, FE (P.bd (gmust CM) fun _ => P.bd (gof 1) fun c => gret ([a] ++ [b] ++ [pnumN c])) (P.bd (gmust CM) fun _ => P.bd (gof 1) fun c => gret ([a'] ++ [b'] ++ [pnumN c])) := fun a b a' b' => FE.bd (FE.must _) (Sim.must _) (Mono.must _) (Mono.must _) (fun _ _ _ => f1 a b a' b') fun _ => m1 a b
  unfold gbr
  refine FE.gite ?_ (FE.gite ?_ (FE.gite ?_ ?_))
  · exact FE.bd (FE.must _) (Sim.must _) (Mono.must _) (Mono.must _) (fun _ _ _ => FE.bd (FE.of 1) (Sim.of 1) (Mono.of 1) (Mono.of 1) (fun a a' _ => f2 first (pnumN a) first' (pnumN a')) fun a => m2 first (pnumN a)) fun _ => Mono.bd (Mono.of 1) fun a => m2 first (pnumN a)
  · exact FE.bd (FE.must _) (Sim.must _) (Mono.must _) (Mono.must _) (fun _ _ _ => FE.bd (ihf _) (Sim.weak (ih _)) (hm _) (hm _) (fun a a' _ => f2 first a first' a') fun a => m2 first a) fun _ => Mono.bd (hm _) fun a => m2 first a
  · exact FE.bd (FE.must _) (Sim.must _) (Mono.must _) (Mono.must _) (fun _ _ _ => FE.bd (FE.of 0) (Sim.of 0) (Mono.of 0) (Mono.of 0) (fun a a' _ => FE.ret) fun a => Mono.ret _) fun _ => Mono.bd (Mono.of 0) fun a => Mono.ret _
  · exact ihfs _ _ _ (El.one hf)
theorem FE.T (w : ByteArray) (p p' nest : Int) : FE (gT k w p nest) (gT k w p' nest) := by
  obtain ⟨hm, hms, hc⟩ := mono_all k
  obtain ⟨ih, ihs⟩ := sim_all k
  have hme : ∀ L : List S25, Mono (P.bd (gmust RP) fun _ => gret (⟨w, ⟨#[]⟩, 0, p, L⟩ : S25)) := fun L => Mono.bd (Mono.must _) fun _ => Mono.ret _
  refine FE.bd (FE.must _) (Sim.must _) (Mono.must _) (Mono.must _) (fun _ _ _ => ?_) fun _ => Mono.bd (hm _) fun _ => Mono.bd (Mono.br k hm hms w nest _) hme
  refine FE.bd (ihf _) (Sim.weak (ih _)) (hm _) (hm _) (fun a a' ha => ?_) fun _ => Mono.bd (Mono.br k hm hms w nest _) hme
  refine FE.bd (FE.br k ihf ihfs w nest a a' ha) (Sim.br k ih ihs w nest a a' ha) (Mono.br k hm hms w nest _) (Mono.br k hm hms w nest _) (fun L L' hL => ?_) hme
  exact FE.bd (FE.must _) (Sim.must _) (Mono.must _) (Mono.must _) (fun _ _ _ => FE.ret) fun _ => Mono.ret _
end
theorem FE.use : FE guse guse := FE.bd (FE.of 0) (Sim.of 0) (Mono.of 0) (Mono.of 0) (fun a a' _ => FE.ret) fun a => Mono.ret _
theorem FE.early {α : Type} {g : G α} {V R : List S60} {en at_ : Int} {x : PErr} (hm : Mono g) (hV : V = []) (hR : ∀ t ∈ R, at_ ≤ t.f3) (he : at_ ≤ en) (hx : g (V ++ R) en = some (.error x)) (hlt : x.2 < at_) : False := by
  subst hV
  obtain ⟨S, hS, hp⟩ := (hm _ en).2 x hx
  have := pplace_ge hR he hS
  omega
theorem fe_all : ∀ k, (∀ nest, FE (gexpr k nest) (gexpr k nest)) ∧ (∀ nest acc acc', El acc acc' → FE (gexprs k nest acc) (gexprs k nest acc'))
  | 0 => ⟨(fun nest V R R' en en' at_ x _ _ h _ => by rw [gexpr_zero] at h; cases h), (fun nest acc acc' _ V R R' en en' at_ x _ _ h _ => by rw [gexprs_zero] at h; cases h)⟩
  | k + 1 => by
    obtain ⟨ihf, ihfs⟩ := fe_all k
    obtain ⟨ih, ihs⟩ := sim_all k
    obtain ⟨hm, hms, hc⟩ := mono_all k
    refine ⟨fun nest => ?_, fun nest acc acc' hacc => ?_⟩
    · intro V R R' en en' at_ x hR he h hlt
      cases V with
      | nil => exact (FE.early ((mono_all (k + 1)).1 nest) rfl hR he h hlt).elim
      | cons t V =>
        by_cases hn0 : nest < 0 ∨ nest > 100
        · have e : ∀ T en, gexpr (k + 1) nest T en = none := fun T en => by unfold gexpr; rw [pexpr, if_pos hn0]
          rw [e] at h; cases h
        by_cases hn : nest > 12
        · have e : ∀ T en, gexpr (k + 1) nest T en = some (.error (112, pplace T en)) := fun T en => by unfold gexpr; rw [pexpr, if_neg hn0, if_pos hn]
          rw [e] at h ⊢
          exact h
        rw [List.cons_append, gexpr_cons k nest hn0 hn] at h ⊢
        split at h
        · rename_i hc1
          rw [if_pos hc1]
          exact FE.T k ihf ihfs t.f1 t.f3 t.f3 nest V R R' en en' at_ x hR he h hlt
        · rename_i hc1
          rw [if_neg hc1]
          exact FE.use (t :: V) R R' en en' at_ x hR he h hlt
    · intro V R R' en en' at_ x hR he h hlt
      cases V with
      | nil => exact (FE.early ((mono_all (k + 1)).2.1 nest acc) rfl hR he h hlt).elim
      | cons t V =>
        rw [gexprs_eq] at h
        rw [gexprs_eq, ← hacc.len]
        split at h
        case isFalse => cases h
        rename_i hb
        rw [if_pos hb]
        rw [List.cons_append] at h ⊢
        rw [pis_er (t := t) (u := t) (U := V ++ R') rfl] at h
        split at h
        · rename_i hp
          rw [if_pos hp]
          exact FE.bd (ihf (nest + 1)) (Sim.weak (ih (nest + 1))) (hm _) (hm _) (fun a a' ha => ihfs nest (acc ++ [a]) (acc' ++ [a']) (hacc.snoc ha)) (fun a => hms nest (acc ++ [a])) V R R' en en' at_ x hR he h hlt
        · cases h
/-! statements -/
def gro : G (Int × List S25) := fun T en => if pis T RO = true then some (.ok ((1, []), T.tail)) else some (.ok ((0, []), T))
def Rnl (a b : Int × List S25) : Prop := a.1 = b.1 ∧ El a.2 b.2
def gval (k : Nat) (w : ByteArray) : G (Int × List S25) :=
  gite (w.toList = ([100, 101, 118, 105, 99, 101] : List UInt8) ∨ w.toList = ([106, 111, 117, 114, 110, 97, 108] : List UInt8)) (bd (gof 1) fun a => gret (a.f2, []))
  (gite (w.toList = ([107, 101, 121] : List UInt8) ∨ w.toList = ([114, 111, 111, 116] : List UInt8)) (bd (gof 2) fun a => gret (0, [phexN a]))
  (gite (w.toList = ([118, 111, 108, 117, 109, 101] : List UInt8)) (bd (gmust EQ) fun _ => bd (gexpr k 1) fun a => gret (0, [a]))
  (gite (w.toList = ([101, 120, 112, 111, 114, 116] : List UInt8)) gro (gret (0, [])))))
def gtail (k : Nat) (w nm : ByteArray) (pl : Int) : G S25 := bd (gval k w) fun nl => bd (gmust SC) fun _ => gret ⟨w, nm, nl.1, pl, nl.2⟩
def gstw : G S60 := gtake (fun t => some (pstw t))
def gstmt (k : Nat) : G S25 := bd gstw fun t => bd (gof 0) fun nm => gtail k t.f1 nm.f1 t.f3
theorem gstmt_eq (k : Nat) (T : List S60) (en : Int) : pstmt k T en = gstmt k T en := by
  cases T with
  | nil => rfl
  | cons t T =>
    unfold pstmt gstmt bd gstw gtake
    simp only [ptake, Option.map_some]
    split <;> rfl
theorem Mono.ro : Mono gro := by
  intro T en
  unfold gro
  split
  · exact ⟨(fun a T' h => by cases h; exact List.tail_suffix _), (fun x h => by cases h)⟩
  · exact ⟨(fun a T' h => by cases h; exact List.suffix_refl _), (fun x h => by cases h)⟩
theorem Sim.ro : Sim false Rnl gro gro := by
  intro V V' R R' en en' a T' hV h hl
  have hle := ((Mono.ro _ _).1 _ _ h).length_le
  cases V with
  | nil => rw [List.nil_append] at hle; rcases hl with hl | ⟨hl, _⟩; (omega); (cases hl)
  | cons t V =>
    cases V' with
    | nil => cases hV
    | cons t' V' =>
      simp only [List.map_cons, List.cons.injEq] at hV
      unfold gro at h ⊢
      rw [List.cons_append] at h ⊢
      rw [pis_er (U := V' ++ R') hV.1] at h
      split at h
      · rename_i hp
        rw [if_pos hp]
        cases h
        exact ⟨_, V, V', rfl, hV.2, rfl, rfl, El.nil⟩
      · rename_i hp
        rw [if_neg hp]
        cases h
        exact ⟨_, t :: V, t' :: V', rfl, by simp [hV.1, hV.2], rfl, rfl, El.nil⟩
theorem FE.ro : FE gro gro := fun V R R' en en' at_ x hR he h hlt => by
  unfold gro at h
  split at h <;> cases h
theorem Mono.val (k : Nat) (w : ByteArray) : Mono (gval k w) := by
  obtain ⟨hm, hms, hc⟩ := mono_all k
  exact Mono.gite (Mono.bd (Mono.of _) fun _ => Mono.ret _) (Mono.gite (Mono.bd (Mono.of _) fun _ => Mono.ret _) (Mono.gite (Mono.bd (Mono.must _) fun _ => Mono.bd (hm _) fun _ => Mono.ret _) (Mono.gite Mono.ro (Mono.ret _))))
theorem En.hex {t u : S60} (h : Et t u) : En (phexN t) (phexN u) := by unfold phexN; rw [h.f1]; exact En.mk (fun _ => rfl)
theorem Sim.val (k : Nat) (w : ByteArray) : Sim false Rnl (gval k w) (gval k w) := by
  obtain ⟨hm, hms, hc⟩ := mono_all k
  obtain ⟨ih, ihs⟩ := sim_all k
  exact Sim.gite (Sim.bd (Sim.of _) (fun a a' h => Sim.ret ⟨h.f2, El.nil⟩) fun _ => Mono.ret _) (Sim.gite (Sim.bd (Sim.of _) (fun a a' h => Sim.ret ⟨rfl, El.one (En.hex h)⟩) fun _ => Mono.ret _) (Sim.gite (Sim.bd (Sim.must _) (fun _ _ _ => Sim.bd (ih _) (fun a a' h => Sim.ret ⟨rfl, El.one h⟩) fun _ => Mono.ret _) fun _ => Mono.bd (hm _) fun _ => Mono.ret _) (Sim.gite Sim.ro (Sim.ret ⟨rfl, El.nil⟩))))
theorem FE.val (k : Nat) (w : ByteArray) : FE (gval k w) (gval k w) := by
  obtain ⟨hm, hms, hc⟩ := mono_all k
  obtain ⟨ih, ihs⟩ := sim_all k
  obtain ⟨ihf, ihfs⟩ := fe_all k
  exact FE.gite (FE.bd (FE.of _) (Sim.of _) (Mono.of _) (Mono.of _) (fun a a' h => FE.ret) fun _ => Mono.ret _) (FE.gite (FE.bd (FE.of _) (Sim.of _) (Mono.of _) (Mono.of _) (fun a a' h => FE.ret) fun _ => Mono.ret _) (FE.gite (FE.bd (FE.must _) (Sim.must _) (Mono.must _) (Mono.must _) (fun _ _ _ => FE.bd (ihf _) (Sim.weak (ih _)) (hm _) (hm _) (fun a a' h => FE.ret) fun _ => Mono.ret _) fun _ => Mono.bd (hm _) fun _ => Mono.ret _) (FE.gite FE.ro FE.ret)))
theorem Mono.tail (k : Nat) (w nm : ByteArray) (pl : Int) : Mono (gtail k w nm pl) := Mono.bd (Mono.val k w) fun _ => Mono.bd (Mono.must _) fun _ => Mono.ret _
theorem Sim.tail (k : Nat) (w nm : ByteArray) (pl pl' : Int) : Sim true En (gtail k w nm pl) (gtail k w nm pl') :=
  Sim.bdc (Sim.val k w) (fun a a' h => Sim.bd (Sim.must _) (fun _ _ _ => Sim.ret (by rw [h.1]; exact En.mk h.2)) fun _ => Mono.ret _) fun _ => Cons.bd1 (Cons.must _) fun _ => Mono.ret _
theorem FE.tail (k : Nat) (w nm : ByteArray) (pl pl' : Int) : FE (gtail k w nm pl) (gtail k w nm pl') :=
  FE.bd (FE.val k w) (Sim.val k w) (Mono.val k w) (Mono.val k w) (fun a a' h => FE.bd (FE.must _) (Sim.must _) (Mono.must _) (Mono.must _) (fun _ _ _ => FE.ret) fun _ => Mono.ret _) fun _ => Mono.bd (Mono.must _) fun _ => Mono.ret _
theorem Mono.stmt (k : Nat) : Mono (gstmt k) := Mono.bd (Mono.take _) fun _ => Mono.bd (Mono.of _) fun _ => Mono.tail _ _ _ _
theorem Cons.stmt (k : Nat) : Cons (gstmt k) := Cons.bd1 (Cons.take _) fun _ => Mono.bd (Mono.of _) fun _ => Mono.tail _ _ _ _
theorem Sim.stmt (k : Nat) : Sim true En (gstmt k) (gstmt k) :=
  Sim.bd (Sim.take _ pstw_er) (fun t t' ht => Sim.bd (Sim.of 0) (fun n n' hn => by rw [ht.f1, hn.f1]; exact Sim.tail _ _ _ _ _) fun _ => Mono.tail _ _ _ _) fun _ => Mono.bd (Mono.of _) fun _ => Mono.tail _ _ _ _
theorem FE.stmt (k : Nat) : FE (gstmt k) (gstmt k) :=
  FE.bd (FE.take _) (Sim.take _ pstw_er) (Mono.take _) (Mono.take _) (fun t t' ht => FE.bd (FE.of 0) (Sim.of 0) (Mono.of _) (Mono.of _) (fun n n' hn => by rw [ht.f1, hn.f1]; exact FE.tail _ _ _ _ _) fun _ => Mono.tail _ _ _ _) fun _ => Mono.bd (Mono.of _) fun _ => Mono.tail _ _ _ _
def gstmts (k : Nat) (acc : List S25) : G (List S25) := fun T en => pstmts k T en acc
theorem gstmts_zero (acc : List S25) : ∀ T en, gstmts 0 acc T en = none := fun T en => by unfold gstmts; rw [pstmts]
theorem gstmts_eq (k : Nat) (acc : List S25) (T : List S60) (en : Int) : gstmts (k + 1) acc T en = if acc.length ≤ 1000000 then (if T = [] then some (.ok (acc, T)) else bd (gstmt k) (fun x => gstmts k (acc ++ [x])) T en) else none := by
  unfold gstmts
  rw [pstmts]
  simp only [gstmt_eq]
  rfl
theorem Mono.stmts : ∀ k acc, Mono (gstmts k acc)
  | 0, acc => Mono.none (gstmts_zero acc)
  | k + 1, acc => by
    intro T en
    rw [gstmts_eq]
    split
    · split
      · exact ⟨(fun a T' h => by cases h; exact List.suffix_refl _), (fun x h => by cases h)⟩
      · exact Mono.bd (Mono.stmt k) (fun x => Mono.stmts k (acc ++ [x])) T en
    · exact ⟨(fun a T' h => by cases h), (fun x h => by cases h)⟩
theorem FE.stmts : ∀ k acc acc', El acc acc' → FE (gstmts k acc) (gstmts k acc')
  | 0, acc, acc', _ => fun V R R' en en' at_ x _ _ h _ => by rw [gstmts_zero] at h; cases h
  | k + 1, acc, acc', hacc => by
    intro V R R' en en' at_ x hR he h hlt
    cases V with
    | nil => exact (FE.early (Mono.stmts (k + 1) acc) rfl hR he h hlt).elim
    | cons t V =>
      rw [gstmts_eq] at h
      rw [gstmts_eq, ← hacc.len]
      split at h
      case isFalse => cases h
      rename_i hb
      rw [if_pos hb, if_neg (by simp)]
      rw [if_neg (by simp)] at h
      exact FE.bd (FE.stmt k) (Sim.weak (Sim.stmt k)) (Mono.stmt k) (Mono.stmt k) (fun a a' ha => FE.stmts k (acc ++ [a]) (acc' ++ [a']) (hacc.snoc ha)) (fun a => Mono.stmts k (acc ++ [a])) (t :: V) R R' en en' at_ x hR he h hlt
theorem LeO.rounds {α : Type} {f : Nat → Option α} (h : ∀ k, LeO (f k) (f (k + 1))) (j : Nat) : ∀ d, LeO (f j) (f (j + d))
  | 0 => LeO.refl _
  | d + 1 => fun r hr => h (j + d) r (LeO.rounds h j d r hr)
/-- A file's statements, others behind them. -/
theorem stmts_join : ∀ k T en acc L T', gstmts k acc T en = some (.ok (L, T')) → T' = [] ∧ ∀ V' acc' R' en', T.map er = V'.map er → El acc acc' →
    ∃ L', El L L' ∧ ∀ j r, gstmts j L' R' en' = some r → gstmts (k + j) acc' (V' ++ R') en' = some r
  | 0, T, en, acc, L, T', h => by rw [gstmts_zero] at h; cases h
  | k + 1, T, en, acc, L, T', h => by
    rw [gstmts_eq] at h
    split at h
    case isFalse => cases h
    rename_i hb
    by_cases hT : T = []
    · subst hT
      rw [if_pos rfl] at h
      cases h
      refine ⟨rfl, fun V' acc' R' en' hV hacc => ⟨acc', hacc, fun j r hr => ?_⟩⟩
      have : V' = [] := by simpa using hV.symm
      subst this
      rw [List.nil_append]
      have := LeO.rounds (f := fun j => gstmts j acc' R' en') (fun j => pstmts_mono j R' en' acc') j (k + 1) r hr
      rw [Nat.add_comm]
      exact this
    · rw [if_neg hT] at h
      rcases pbd_inv h with ⟨e, _, he⟩ | ⟨x, T1, h1, h2⟩
      · cases he
      obtain ⟨rfl, ih⟩ := stmts_join k T1 en (acc ++ [x]) L T' h2
      refine ⟨rfl, fun V' acc' R' en' hV hacc => ?_⟩
      obtain ⟨x', V2, V2', e1, hV2, h3, hx⟩ := Sim.stmt k T V' [] R' en en' x T1 hV (by simpa using h1) (.inr ⟨rfl, by simp⟩)
      rw [List.append_nil] at e1
      subst e1
      obtain ⟨L', hL, ih2⟩ := ih V2' (acc' ++ [x']) R' en' hV2 (hacc.snoc hx)
      refine ⟨L', hL, fun j r hr => ?_⟩
      have h4 := ih2 j r hr
      rw [show k + 1 + j = (k + j) + 1 by omega, gstmts_eq, ← hacc.len, if_pos hb, if_neg ?hne]
      case hne =>
        intro e
        apply hT
        have h5 := (List.append_eq_nil_iff.1 e).1
        subst h5
        simpa using hV
      have h5 := LeO.rounds (f := fun j => gstmt j (V' ++ R') en') (fun j => by simp only [← gstmt_eq]; exact pstmt_mono j _ _) k j _ h3
      unfold bd
      rw [h5]
      exact h4
end Go.Proofs.YtknbfhhmjbnemaaDoor.P
end
section
namespace Go.Proofs.YtknbfhhmjbnemaaDoor.Pure
open Go.RowKit Go.Proofs.YtknbfhhmjbnemaaDoor.P Go.Proofs.YtknbfhhmjbnemaaDoorW.PrintWords Go.Proofs.YtknbfhhmjbnemaaDoorW.PrintLast
set_option linter.unusedVariables false
set_option linter.unusedSimpArgs false


/-! ### what the scanner does, over lists of bytes -/
def isBlank (c : Int) : Bool := c == 9 || c == 10 || c == 13 || c == 32
/-- What is left behind blanks and notes; the first: does it begin within a note? -/
def skipS : Bool → List Int → List Int
  | _, [] => []
  | true, c :: l => if c = 10 then skipS false l else skipS true l
  | false, c :: l => if isBlank c = true then skipS false l else if c = 47 ∧ l.head? = some 47 then skipS true l else c :: l
def goesL : List Int → Bool
  | [] => false
  | c :: _ => pLetter c || (c == 95)
structure One where
  kind : Int
  s : List Int
  n : Int
  len : Nat
  e : Int
  off : Nat
def oneL : List Int → One
  | [] => ⟨0, [], 0, 0, 0, 0⟩
  | c :: t =>
    if pLetter c = true then ⟨0, (c :: t).takeWhile pWord, 0, ((c :: t).takeWhile pWord).length, if 16 < ((c :: t).takeWhile pWord).length then 102 else 0, 0⟩
    else if pFigure c = true then ⟨1, [], lexNum ((c :: t).takeWhile pFigure), ((c :: t).takeWhile pFigure).length,
      if 9 < ((c :: t).takeWhile pFigure).length then 102 else if goesL ((c :: t).drop ((c :: t).takeWhile pFigure).length) = true then 101 else 0,
      if 9 < ((c :: t).takeWhile pFigure).length then 0 else ((c :: t).takeWhile pFigure).length⟩
    else if c = 36 then ⟨2, t.takeWhile pHex, 0, (t.takeWhile pHex).length + 1,
      if (t.takeWhile pHex).length = 0 then 101 else if 128 < (t.takeWhile pHex).length then 102 else if goesL (t.drop (t.takeWhile pHex).length) = true then 101 else 0,
      if (t.takeWhile pHex).length = 0 then 1 else if 128 < (t.takeWhile pHex).length then 0 else (t.takeWhile pHex).length + 1⟩
    else if c = 40 ∨ c = 41 ∨ c = 44 ∨ c = 61 ∨ c = 59 then ⟨3, [c], 0, 1, 0, 0⟩
    else ⟨3, [], 0, 0, 101, 0⟩
def tokOf (o : One) (p : Nat) : S60 := ⟨o.kind, strOfNums o.s, o.n, p⟩
def scanF : Nat → Nat → List Int → Nat → Except (Int × Int) (List S60)
  | 0, _, _, _ => .ok []
  | f + 1, cnt, r, total =>
    if r = [] then .ok []
    else if cnt = 500 then .error (103, ((total - r.length : Nat) : Int))
    else if (oneL r).e = 0 then (scanF f (cnt + 1) (skipS false (r.drop (oneL r).len)) total).map (tokOf (oneL r) (total - r.length) :: ·)
    else .error ((oneL r).e, ((total - r.length + (oneL r).off : Nat) : Int))
def scan (l : List Int) : Except (Int × Int) (List S60) :=
  if 2000 < l.length then .error (103, 0) else scanF (l.length + 1) 0 (skipS false l) l.length
def told : Except (Int × Int) (List S60) → List S60 × Int × Int
  | .ok l => (l, 0, -1)
  | .error e => ([], e.1, e.2)

theorem skipS_len : ∀ (l : List Int) (q : Bool), (skipS q l).length ≤ l.length
  | [], q => by cases q <;> simp [skipS]
  | c :: l, true => by
    unfold skipS
    split
    · exact Nat.le_succ_of_le (skipS_len l false)
    · exact Nat.le_succ_of_le (skipS_len l true)
  | c :: l, false => by
    unfold skipS
    split
    · exact Nat.le_succ_of_le (skipS_len l false)
    · split
      · exact Nat.le_succ_of_le (skipS_len l true)
      · exact Nat.le_refl _
theorem skipS_suffix : ∀ (l : List Int) (q : Bool), skipS q l <:+ l
  | [], q => by cases q <;> simp [skipS]
  | c :: l, true => by
    unfold skipS
    split
    · exact (skipS_suffix l false).trans (List.suffix_cons c l)
    · exact (skipS_suffix l true).trans (List.suffix_cons c l)
  | c :: l, false => by
    unfold skipS
    split
    · exact (skipS_suffix l false).trans (List.suffix_cons c l)
    · split
      · exact (skipS_suffix l true).trans (List.suffix_cons c l)
      · exact List.suffix_refl _
theorem takeWhile_len (p : Int → Bool) (l : List Int) : (l.takeWhile p).length ≤ l.length := List.Sublist.length_le (List.takeWhile_sublist p)
theorem oneL_len (l : List Int) (h : l ≠ []) : (oneL l).len ≤ l.length ∧ ((oneL l).e = 0 → 1 ≤ (oneL l).len) := by
  cases l with
  | nil => exact absurd rfl h
  | cons c t =>
    have h1 := takeWhile_len pWord (c :: t)
    have h2 := takeWhile_len pFigure (c :: t)
    have h3 := takeWhile_len pHex t
    simp only [oneL]
    by_cases c1 : pLetter c = true
    · rw [if_pos c1]
      refine ⟨h1, fun _ => ?_⟩
      have hw : pWord c = true := by simp [pWord, c1]
      simp [List.takeWhile_cons, hw]
    · rw [if_neg c1]
      by_cases c2 : pFigure c = true
      · rw [if_pos c2]
        refine ⟨h2, fun _ => ?_⟩
        simp [List.takeWhile_cons, c2]
      · rw [if_neg c2]
        by_cases c3 : c = 36
        · rw [if_pos c3]
          simp only [List.length_cons]
          exact ⟨by omega, fun _ => by omega⟩
        · rw [if_neg c3]
          by_cases c4 : c = 40 ∨ c = 41 ∨ c = 44 ∨ c = 61 ∨ c = 59
          · rw [if_pos c4]
            simp
          · rw [if_neg c4]
            simp
theorem scanF_more : ∀ (f g cnt : Nat) (r : List Int) (total : Nat), r.length < f → r.length < g → scanF f cnt r total = scanF g cnt r total
  | 0, _, _, _, _, h, _ => by omega
  | _, 0, _, _, _, _, h => by omega
  | f + 1, g + 1, cnt, r, total, h1, h2 => by
    unfold scanF
    split
    · rfl
    · split
      · rfl
      · split
        · rename_i hr _ he
          have hl := (oneL_len r hr).2 he
          have hs := skipS_len (r.drop (oneL r).len) false
          rw [List.length_drop] at hs
          have hr' : 0 < r.length := List.length_pos_iff.2 hr
          rw [scanF_more f g (cnt + 1) _ total (by omega) (by omega)]
        · rfl

/-! ### the printed functions are these -/
theorem bytesOf_drop (s : ByteArray) (k : Nat) (h : k < s.size) : (bytesOf s).drop k = bt s k :: (bytesOf s).drop (k + 1) := by
  have hl : k < (bytesOf s).length := by rw [bytesOf_length]; exact h
  rw [List.drop_eq_getElem_cons hl]
  have := bytesOf_get s k h
  rw [List.getElem?_eq_getElem hl] at this
  injection this with this
  rw [this]
theorem lexEnd_run (p : Int → Bool) (s : ByteArray) : ∀ f k, s.size - k = f → k ≤ s.size → lexEnd p s f k = k + (((bytesOf s).drop k).takeWhile p).length
  | 0, k, hf, hk => by
    have : (bytesOf s).drop k = [] := List.drop_eq_nil_iff.2 (by rw [bytesOf_length]; omega)
    rw [this]
    rfl
  | f + 1, k, hf, hk => by
    rw [bytesOf_drop s k (by omega)]
    unfold lexEnd
    by_cases h : p (bt s k) = true
    · rw [if_pos ⟨by omega, h⟩, lexEnd_run p s f (k + 1) (by omega) (by omega), List.takeWhile_cons, if_pos h, List.length_cons]
      omega
    · rw [if_neg (fun h2 => h h2.2), List.takeWhile_cons, if_neg h]
      rfl
theorem toI_back (l : List UInt8) : (l.map fun b => (b.toNat : Int)).map (fun n => UInt8.ofNat n.toNat) = l := by
  rw [List.map_map]
  conv => rhs; rw [← List.map_id l]
  apply List.map_congr_left
  intro b _
  simp
theorem strOfNums_bytesOf (s : ByteArray) : strOfNums (bytesOf s) = s := by
  cases s with | mk d =>
  unfold strOfNums bytesOf
  rw [toI_back]
theorem byteArray_ext {a b : ByteArray} (h : a.data.toList = b.data.toList) : a = b := by
  cases a; cases b
  simp only [ByteArray.mk.injEq]
  exact Array.toList_inj.1 h
theorem extract_toList (s : ByteArray) (i n : Nat) : (s.extract i (i + n)).data.toList = (s.data.toList.drop i).take n := by
  rw [ByteArray.data_extract, Array.toList_extract, List.extract_eq_take_drop]
  congr 1
  omega
theorem extract_nums (s : ByteArray) (i n : Nat) : s.extract i (i + n) = strOfNums (((bytesOf s).drop i).take n) := by
  apply byteArray_ext
  rw [extract_toList, strOfNums_data]
  unfold bytesOf
  rw [← List.map_drop, ← List.map_take, toI_back]
theorem bytesOf_extract (s : ByteArray) (i n : Nat) : bytesOf (s.extract i (i + n)) = ((bytesOf s).drop i).take n := by
  unfold bytesOf
  rw [extract_toList, ← List.map_drop, ← List.map_take]
theorem pGoes_run (s : ByteArray) (k : Nat) : pGoes s k = goesL ((bytesOf s).drop k) := by
  unfold pGoes
  by_cases h : k < s.size
  · rw [bytesOf_drop s k h]
    simp [h, goesL]
  · have : (bytesOf s).drop k = [] := List.drop_eq_nil_iff.2 (by rw [bytesOf_length]; omega)
    rw [this]
    simp [h, goesL]
theorem take_takeWhile (p : Int → Bool) (l : List Int) : l.take (l.takeWhile p).length = l.takeWhile p := (List.prefix_iff_eq_take.1 (List.takeWhile_prefix p)).symm
def oneOut (i : Nat) (o : One) : Int × ByteArray × Int × Int × Int × Int × Int :=
  (o.kind, strOfNums o.s, o.n, (i : Int), ((i + o.len : Nat) : Int), o.e, if o.e = 0 then -1 else ((i + o.off : Nat) : Int))
theorem one_run (s : ByteArray) (i : Nat) (hi : i < s.size) (hs : s.size ≤ 140737488351232) :
    lex_one.f s i = some (oneOut i (oneL ((bytesOf s).drop i))) := by
  unfold lex_one.f
  rw [if_pos ⟨by omega, by omega, hs⟩]
  simp only [Int.toNat_natCast]
  have hw := lexEnd_run pWord s (s.size - i) i rfl (by omega)
  have hf := lexEnd_run pFigure s (s.size - i) i rfl (by omega)
  have hh := lexEnd_run pHex s (s.size - (i + 1)) (i + 1) rfl (by omega)
  rw [hw, hf, hh]
  simp only [pGoes_run, bytesOf_extract]
  simp only [extract_nums]
  have hd := bytesOf_drop s i hi
  have hd2 : ∀ n, (bytesOf s).drop (i + n) = ((bytesOf s).drop i).drop n := fun n => by rw [List.drop_drop]
  have hd3 : ∀ n, (bytesOf s).drop (i + 1 + n) = ((bytesOf s).drop (i + 1)).drop n := fun n => by rw [List.drop_drop]
  rw [hd2, hd3]
  simp only [take_takeWhile]
  rw [hd]
  generalize bt s i = c
  generalize (bytesOf s).drop (i + 1) = t
  have hnil : strOfNums [] = ⟨#[]⟩ := rfl
  by_cases c1 : pLetter c = true
  · have ho : oneL (c :: t) = ⟨0, (c :: t).takeWhile pWord, 0, ((c :: t).takeWhile pWord).length, if 16 < ((c :: t).takeWhile pWord).length then 102 else 0, 0⟩ := by
      simp only [oneL]; rw [if_pos c1]
    rw [ho, if_pos c1]
    unfold oneOut
    generalize (c :: t).takeWhile pWord = W
    by_cases c2 : 16 < W.length
    · rw [if_pos (by omega)]; simp [c2]
    · rw [if_neg (by omega)]; simp [c2]
  · rw [if_neg c1]
    by_cases c2 : pFigure c = true
    · have ho : oneL (c :: t) = ⟨1, [], lexNum ((c :: t).takeWhile pFigure), ((c :: t).takeWhile pFigure).length,
          if 9 < ((c :: t).takeWhile pFigure).length then 102 else if goesL ((c :: t).drop ((c :: t).takeWhile pFigure).length) = true then 101 else 0,
          if 9 < ((c :: t).takeWhile pFigure).length then 0 else ((c :: t).takeWhile pFigure).length⟩ := by
        simp only [oneL]; rw [if_neg c1, if_pos c2]
      rw [ho, if_pos c2]
      unfold oneOut
      generalize (c :: t).takeWhile pFigure = W
      generalize goesL ((c :: t).drop W.length) = G
      by_cases c3 : 9 < W.length
      · rw [if_pos (by omega)]; simp [c3, hnil]
      · rw [if_neg (by omega)]
        cases G
        · simp [c3, hnil]
        · simp [c3, hnil]
    · rw [if_neg c2]
      by_cases c3 : c = 36
      · have ho : oneL (c :: t) = ⟨2, t.takeWhile pHex, 0, (t.takeWhile pHex).length + 1,
            if (t.takeWhile pHex).length = 0 then 101 else if 128 < (t.takeWhile pHex).length then 102 else if goesL (t.drop (t.takeWhile pHex).length) = true then 101 else 0,
            if (t.takeWhile pHex).length = 0 then 1 else if 128 < (t.takeWhile pHex).length then 0 else (t.takeWhile pHex).length + 1⟩ := by
          simp only [oneL]; rw [if_neg c1, if_neg c2, if_pos c3]
        rw [ho, if_pos c3]
        unfold oneOut
        generalize t.takeWhile pHex = W
        generalize goesL (t.drop W.length) = G
        by_cases c4 : W.length = 0
        · rw [if_pos (by omega)]
          have c5 : W = [] := List.length_eq_zero_iff.1 c4
          subst c5
          simp [hnil]
        · rw [if_neg (by omega)]
          by_cases c5 : 128 < W.length
          · rw [if_pos (by omega)]
            simp only [c4, c5, if_true, if_false]
            simp
            omega
          · rw [if_neg (by omega)]
            cases G
            · simp only [c4, c5, if_true, if_false, Bool.false_eq_true]
              simp
              omega
            · simp only [c4, c5, if_true, if_false]
              simp
              omega
      · rw [if_neg c3]
        by_cases c4 : c = 40 ∨ c = 41 ∨ c = 44 ∨ c = 61 ∨ c = 59
        · have ho : oneL (c :: t) = ⟨3, [c], 0, 1, 0, 0⟩ := by
            simp only [oneL]; rw [if_neg c1, if_neg c2, if_neg c3, if_pos c4]
          rw [ho, if_pos c4]
          simp [oneOut]
        · have ho : oneL (c :: t) = ⟨3, [], 0, 0, 101, 0⟩ := by
            simp only [oneL]; rw [if_neg c1, if_neg c2, if_neg c3, if_neg c4]
          rw [ho, if_neg c4]
          simp [oneOut, hnil]

theorem blank_tab : ∀ n : Nat, n < 256 → (decide (0 ≤ Lib.indexByte [9, 10, 13, 32] n.toUInt8) = isBlank n) := by decide +kernel
theorem blank_run (c : Int) (h0 : 0 ≤ c) (h1 : c ≤ 255) : (Lib.indexByte (⟨#[9, 10, 13, 32]⟩ : ByteArray).data.toList c.toNat.toUInt8 ≥ 0) ↔ isBlank c = true := by
  have h := blank_tab c.toNat (by omega)
  rw [show ((c.toNat : Nat) : Int) = c by omega] at h
  rw [← h]
  simp
theorem skip_note : ∀ (l : List UInt8), skipS true (l.map fun b => (b.toNat : Int)) = if Lib.indexByte l 10 = -1 then [] else skipS false ((l.map fun b => (b.toNat : Int)).drop (Lib.indexByte l 10).toNat)
  | [] => by simp [skipS, Lib.indexByte]
  | b :: l => by
    have ih := skip_note l
    have hge := Lib.indexByte_ge l 10
    simp only [List.map_cons, skipS, Lib.indexByte]
    by_cases hb : b = 10
    · subst hb
      simp [skipS, isBlank]
    · have hb1 : (b == 10) = false := by simpa using hb
      have hb2 : ¬ ((b.toNat : Int) = 10) := by
        intro h
        apply hb
        apply UInt8.toNat_inj.1
        have : b.toNat = 10 := by omega
        rw [this]
        rfl
      rw [if_neg hb2, ih, hb1]
      simp only [Bool.false_eq_true, if_false, beq_iff_eq]
      by_cases hi : Lib.indexByte l 10 = -1
      · simp [hi]
      · rw [if_neg hi, if_neg hi, if_neg (by omega)]
        rw [show (Lib.indexByte l 10 + 1).toNat = (Lib.indexByte l 10).toNat + 1 by omega]
        rfl
theorem toI_inj {a b : List UInt8} (h : a.map (fun b => (b.toNat : Int)) = b.map (fun b => (b.toNat : Int))) : a = b := by
  have := congrArg (List.map fun n : Int => UInt8.ofNat n.toNat) h
  rwa [toI_back, toI_back] at this
theorem beq_bytes (a b : ByteArray) : (a.toList == b.toList) = decide (bytesOf a = bytesOf b) := by
  rw [ByteArray.toList_eq, ByteArray.toList_eq]
  by_cases h : a.data.toList = b.data.toList
  · simp [h, bytesOf]
  · have : ¬ bytesOf a = bytesOf b := fun h2 => h (toI_inj h2)
    rw [beq_eq_false_iff_ne.2 h, decide_eq_false this]
theorem prefix_run (s : ByteArray) (i : Nat) (hi : i < s.size) (hs : s.size ≤ 140737488351232) :
    strings_HasPrefix.f (s.extract i s.size) (⟨#[47, 47]⟩ : ByteArray) = some (decide (bt s i = 47 ∧ ((bytesOf s).drop (i + 1)).head? = some 47)) := by
  have hsz : (s.extract i s.size).size = s.size - i := by rw [ByteArray.size_extract]; omega
  have h2 : (⟨#[47, 47]⟩ : ByteArray).size = 2 := rfl
  have hex : bytesOf (s.extract i s.size) = (bytesOf s).drop i := by
    have := bytesOf_extract s i (s.size - i)
    rw [show i + (s.size - i) = s.size by omega, List.take_of_length_le (by rw [List.length_drop, bytesOf_length]; omega)] at this
    exact this
  unfold strings_HasPrefix.f stringslite_HasPrefix.f
  rw [hsz, h2, bytesOf_drop s i hi] at *
  by_cases h3 : 2 ≤ s.size - i
  · rw [if_pos (by omega), if_pos (by omega), if_pos (by omega)]
    simp only [Option.bind_some]
    congr 1
    have hx := bytesOf_extract (s.extract i s.size) 0 2
    rw [hex, List.drop_zero] at hx
    simp only [Nat.zero_add] at hx
    rw [show ((((2 : Nat) : Int)) : Int).toNat = 2 by rfl, beq_bytes, hx]
    have hl : bytesOf (⟨#[47, 47]⟩ : ByteArray) = [47, 47] := rfl
    rw [hl, bytesOf_drop s (i + 1) (by omega)]
    simp
  · rw [if_neg (by omega)]
    simp only [Option.bind_some]
    congr 1
    have : (bytesOf s).drop (i + 1) = [] := List.drop_eq_nil_iff.2 (by rw [bytesOf_length]; omega)
    rw [this]
    simp
/-- Where skip comes out, as a place. -/
def skipAt (s : ByteArray) (i : Nat) : Nat := s.size - (skipS false ((bytesOf s).drop i)).length
theorem skipAt_bounds (s : ByteArray) (i : Nat) (hi : i ≤ s.size) : i ≤ skipAt s i ∧ skipAt s i ≤ s.size := by
  have h := skipS_len ((bytesOf s).drop i) false
  rw [List.length_drop, bytesOf_length] at h
  unfold skipAt
  omega
theorem skipAt_drop (s : ByteArray) (i : Nat) (hi : i ≤ s.size) : (bytesOf s).drop (skipAt s i) = skipS false ((bytesOf s).drop i) := by
  have h := (skipS_suffix ((bytesOf s).drop i) false).trans (List.drop_suffix i (bytesOf s))
  have h2 := List.suffix_iff_eq_drop.1 h
  rw [bytesOf_length] at h2
  exact h2.symm
theorem skip_run (s : ByteArray) (hs : s.size ≤ 140737488351232) : ∀ (d i k : Nat), s.size - i ≤ d → i ≤ s.size → d < k → lex_skip.l0 k s i = some ((skipAt s i : Nat) : Int) := by
  intro d
  induction d with
  | zero =>
    intro i k hd hi hk
    obtain ⟨k, rfl⟩ : ∃ m, k = m + 1 := ⟨k - 1, by omega⟩
    simp only [lex_skip.l0]
    rw [if_neg (by omega)]
    have : (bytesOf s).drop i = [] := List.drop_eq_nil_iff.2 (by rw [bytesOf_length]; omega)
    unfold skipAt
    rw [this]
    simp only [skipS, List.length_nil]
    congr 1
    omega
  | succ d ih =>
    intro i k hd hi hk
    obtain ⟨k, rfl⟩ : ∃ m, k = m + 1 := ⟨k - 1, by omega⟩
    simp only [lex_skip.l0]
    by_cases hlt : i < s.size
    · rw [if_pos (by omega), if_pos (by omega)]
      have hr := bt_range s i
      have hdr := bytesOf_drop s i hlt
      simp only [strings_IndexByte.f, Option.bind_some]
      by_cases hb : isBlank (bt s i) = true
      · rw [if_pos ((blank_run _ hr.1 hr.2).2 hb)]
        have hwrap : wrap64 ((i : Int) + 1) = ((i + 1 : Nat) : Int) := by unfold wrap64; omega
        rw [hwrap, ih (i + 1) k (by omega) (by omega) (by omega)]
        congr 2
        unfold skipAt
        rw [hdr]
        simp only [skipS, hb, if_true]
      · rw [if_neg (fun h => hb ((blank_run _ hr.1 hr.2).1 h)), if_pos (by omega)]
        simp only [Int.toNat_natCast]
        rw [prefix_run s i hlt hs]
        simp only [Option.bind_some, decide_eq_true_eq]
        by_cases hc : bt s i = 47 ∧ ((bytesOf s).drop (i + 1)).head? = some 47
        · rw [if_pos hc]
          have hn := skip_note ((s.extract i s.size).data.toList)
          have hmap : ((s.extract i s.size).data.toList.map fun b => (b.toNat : Int)) = (bytesOf s).drop i := by
            have := bytesOf_extract s i (s.size - i)
            rw [show i + (s.size - i) = s.size by omega, List.take_of_length_le (by rw [List.length_drop, bytesOf_length]; omega)] at this
            exact this
          rw [hmap] at hn
          have hge := Lib.indexByte_ge (s.extract i s.size).data.toList 10
          have hsk : skipS false ((bytesOf s).drop i) = skipS true ((bytesOf s).drop i) := by
            rw [hdr]
            simp only [skipS]
            rw [if_neg hb, if_pos hc, if_neg (by rw [hc.1]; omega)]
          simp only [show (10 : Int).toNat.toUInt8 = 10 from rfl]
          by_cases hq : Lib.indexByte (s.extract i s.size).data.toList 10 < 0
          · rw [if_pos hq]
            rw [if_pos (by omega)] at hn
            unfold skipAt
            rw [hsk, hn]
            simp
          · rw [if_neg hq]
            rw [if_neg (by omega)] at hn
            obtain ⟨n, hn2⟩ := Int.eq_ofNat_of_zero_le (show 0 ≤ Lib.indexByte (s.extract i s.size).data.toList 10 by omega)
            rw [hn2] at hn ⊢
            have hat := (Lib.indexByte_some hn2).1
            have hat2 : ((bytesOf s).drop i)[n]? = some 10 := by
              rw [← hmap, List.getElem?_map, hat]
              rfl
            have hpos : 1 ≤ n := by
              rcases Nat.eq_zero_or_pos n with h0 | h0
              · subst h0
                rw [hdr] at hat2
                simp at hat2
                omega
              · exact h0
            have hle : i + n ≤ s.size := by
              have := (List.getElem?_eq_some_iff.1 hat2).1
              rw [List.length_drop, bytesOf_length] at this
              omega
            have hwrap : wrap64 ((i : Int) + (n : Int)) = ((i + n : Nat) : Int) := by unfold wrap64; omega
            rw [hwrap, ih (i + n) k (by omega) hle (by omega)]
            congr 2
            unfold skipAt
            rw [hsk, hn, Int.toNat_natCast, List.drop_drop]
        · rw [if_neg hc]
          unfold skipAt
          rw [hdr]
          simp only [skipS]
          rw [if_neg hb, if_neg hc]
          simp only [List.length_cons, List.length_drop, bytesOf_length]
          congr 1
          omega
    · rw [if_neg (by omega)]
      have : (bytesOf s).drop i = [] := List.drop_eq_nil_iff.2 (by rw [bytesOf_length]; omega)
      unfold skipAt
      rw [this]
      simp only [skipS, List.length_nil]
      congr 1
      omega

def toldAcc (acc : List S60) : Except (Int × Int) (List S60) → List S60 × Int × Int
  | .ok l => (acc ++ l, 0, -1)
  | .error e => ([], e.1, e.2)
theorem scan_run0 (s : ByteArray) (hs : s.size ≤ 2000) : ∀ (d i k : Nat) (acc : List S60), s.size - i ≤ d → i ≤ s.size → s.size + d < k → acc.length ≤ 500 →
    lex_Scan.l0 k s acc i = some (toldAcc acc (scanF (d + 1) acc.length ((bytesOf s).drop i) s.size)) := by
  intro d
  induction d with
  | zero =>
    intro i k acc hd hi hk ha
    obtain ⟨k, rfl⟩ : ∃ m, k = m + 1 := ⟨k - 1, by omega⟩
    simp only [lex_Scan.l0]
    rw [if_neg (by omega)]
    have : (bytesOf s).drop i = [] := List.drop_eq_nil_iff.2 (by rw [bytesOf_length]; omega)
    rw [this]
    simp [scanF, toldAcc]
  | succ d ih =>
    intro i k acc hd hi hk ha
    obtain ⟨k, rfl⟩ : ∃ m, k = m + 1 := ⟨k - 1, by omega⟩
    simp only [lex_Scan.l0]
    by_cases hlt : i < s.size
    · rw [if_pos (by omega)]
      have hne : (bytesOf s).drop i ≠ [] := by rw [bytesOf_drop s i hlt]; simp
      have hlen : ((bytesOf s).drop i).length = s.size - i := by rw [List.length_drop, bytesOf_length]
      have hpos : s.size - ((bytesOf s).drop i).length = i := by omega
      unfold scanF
      rw [if_neg hne]
      by_cases h500 : acc.length = 500
      · rw [if_pos (by omega), if_pos h500, hpos]
        rfl
      · rw [if_neg (by omega), if_neg h500]
        have hone : lex_one.f s i = some ((oneL ((bytesOf s).drop i)).kind, strOfNums (oneL ((bytesOf s).drop i)).s, (oneL ((bytesOf s).drop i)).n, (i : Int), ((i + (oneL ((bytesOf s).drop i)).len : Nat) : Int), (oneL ((bytesOf s).drop i)).e,
            if (oneL ((bytesOf s).drop i)).e = 0 then -1 else ((i + (oneL ((bytesOf s).drop i)).off : Nat) : Int)) := one_run s i hlt (by omega)
        rw [hone]
        simp only [Option.bind_some]
        have hol := oneL_len _ hne
        by_cases he : (oneL ((bytesOf s).drop i)).e = 0
        · rw [if_pos he, if_pos he, if_pos (by omega)]
          have hl1 := hol.2 he
          have hl2 := hol.1
          have hle : i + (oneL ((bytesOf s).drop i)).len ≤ s.size := by omega
          have hsk := skip_run s (by omega) s.size (i + (oneL ((bytesOf s).drop i)).len) k (by omega) hle (by omega)
          have hsb := skipAt_bounds s (i + (oneL ((bytesOf s).drop i)).len) hle
          unfold lex_skip.f
          rw [hsk]
          simp only [Option.bind_some]
          rw [ih (skipAt s (i + (oneL ((bytesOf s).drop i)).len)) k _ (by omega) hsb.2 (by omega) (by simp; omega)]
          rw [skipAt_drop s _ hle, ← List.drop_drop, List.length_append, List.length_singleton]
          congr 1
          have htok : (⟨(oneL ((bytesOf s).drop i)).kind, strOfNums (oneL ((bytesOf s).drop i)).s, (oneL ((bytesOf s).drop i)).n, (i : Int)⟩ : S60) = tokOf (oneL ((bytesOf s).drop i)) (s.size - ((bytesOf s).drop i).length) := by
            rw [hpos]
            rfl
          rw [htok]
          cases scanF (d + 1) (acc.length + 1) (skipS false (((bytesOf s).drop i).drop (oneL ((bytesOf s).drop i)).len)) s.size with
          | ok l => simp [toldAcc, Except.map]
          | error e => simp [toldAcc, Except.map]
        · rw [if_neg he, if_neg he, if_neg he, hpos]
          rfl
    · rw [if_neg (by omega)]
      have : (bytesOf s).drop i = [] := List.drop_eq_nil_iff.2 (by rw [bytesOf_length]; omega)
      rw [this]
      unfold scanF
      simp [toldAcc]
theorem scan_run (s : ByteArray) : ∀ k, 5000 ≤ k → lex_Scan.f k s = some (told (scan (bytesOf s))) := by
  intro k hk
  unfold lex_Scan.f scan
  rw [bytesOf_length]
  by_cases h : 2000 < s.size
  · rw [if_pos (by omega), if_pos h]
    rfl
  · rw [if_neg (by omega), if_neg h]
    have hsk := skip_run s (by omega) s.size 0 k (by omega) (by omega) (by omega)
    have hsb := skipAt_bounds s 0 (by omega)
    unfold lex_skip.f
    simp only [Int.natCast_zero] at hsk
    rw [hsk]
    simp only [Option.bind_some]
    rw [scan_run0 s (by omega) s.size (skipAt s 0) k [] (by omega) hsb.2 (by omega) (by simp), skipAt_drop s 0 (by omega), List.drop_zero]
    congr 1
end Go.Proofs.YtknbfhhmjbnemaaDoor.Pure
end
section
namespace Go.Proofs.YtknbfhhmjbnemaaDoor.Pure
open Go.RowKit Go.Proofs.YtknbfhhmjbnemaaDoor.P Go.Proofs.YtknbfhhmjbnemaaDoorW.PrintWords Go.Proofs.YtknbfhhmjbnemaaDoorW.PrintLast
set_option linter.unusedVariables false
set_option linter.unusedSimpArgs false

def shiftTok (d : Nat) (t : S60) : S60 := ⟨t.f0, t.f1, t.f2, t.f3 + d⟩
def shiftE (d : Nat) : Except (Int × Int) (List S60) → Except (Int × Int) (List S60)
  | .ok l => .ok (l.map (shiftTok d))
  | .error e => .error (e.1, e.2 + d)
theorem scanF_shift (d : Nat) : ∀ (f cnt : Nat) (r : List Int) (total : Nat), r.length ≤ total → scanF f cnt r (total + d) = shiftE d (scanF f cnt r total)
  | 0, cnt, r, total, _ => rfl
  | f + 1, cnt, r, total, h => by
    unfold scanF
    by_cases h1 : r = []
    · rw [if_pos h1, if_pos h1]; rfl
    · rw [if_neg h1, if_neg h1]
      by_cases h2 : cnt = 500
      · rw [if_pos h2, if_pos h2]
        simp only [shiftE]
        congr 2
        omega
      · rw [if_neg h2, if_neg h2]
        by_cases h3 : (oneL r).e = 0
        · rw [if_pos h3, if_pos h3]
          have hs := skipS_len (r.drop (oneL r).len) false
          rw [List.length_drop] at hs
          rw [scanF_shift d f (cnt + 1) _ total (by omega)]
          have ht : tokOf (oneL r) (total + d - r.length) = shiftTok d (tokOf (oneL r) (total - r.length)) := by
            unfold tokOf shiftTok
            simp only [S60.mk.injEq, true_and]
            omega
          rw [ht]
          cases scanF f (cnt + 1) (skipS false (r.drop (oneL r).len)) total with
          | ok l => rfl
          | error e => rfl
        · rw [if_neg h3, if_neg h3]
          simp only [shiftE]
          congr 2
          omega
theorem takeWhile_stop (p : Int → Bool) (x : Int) (hx : p x = false) (b : List Int) : ∀ l : List Int, (l ++ x :: b).takeWhile p = l.takeWhile p
  | [] => by simp [List.takeWhile_cons, hx]
  | c :: l => by
    rw [List.cons_append, List.takeWhile_cons, List.takeWhile_cons, takeWhile_stop p x hx b l]
theorem goes_stop (x : Int) (hx : (pLetter x || (x == 95)) = false) (b : List Int) : ∀ l : List Int, goesL (l ++ x :: b) = goesL l
  | [] => by simpa [goesL] using hx
  | c :: l => rfl
/-- A byte that nothing goes on with. -/
def stops (x : Int) : Prop := pWord x = false ∧ pFigure x = false ∧ pHex x = false ∧ (pLetter x || (x == 95)) = false
theorem stops10 : stops 10 := by unfold stops; decide
theorem stops32 : stops 32 := by unfold stops; decide
theorem oneL_stop (x : Int) (hx : stops x) (b : List Int) (r : List Int) (hr : r ≠ []) : oneL (r ++ x :: b) = oneL r := by
  obtain ⟨hw, hf, hh, hg⟩ := hx
  cases r with
  | nil => exact absurd rfl hr
  | cons c t =>
    rw [List.cons_append]
    simp only [oneL]
    have e1 : (c :: (t ++ x :: b)).takeWhile pWord = (c :: t).takeWhile pWord := takeWhile_stop pWord x hw b (c :: t)
    have e2 : (c :: (t ++ x :: b)).takeWhile pFigure = (c :: t).takeWhile pFigure := takeWhile_stop pFigure x hf b (c :: t)
    have e3 : (t ++ x :: b).takeWhile pHex = t.takeWhile pHex := takeWhile_stop pHex x hh b t
    have l2 := takeWhile_len pFigure (c :: t)
    have l3 := takeWhile_len pHex t
    have g2 : goesL ((c :: (t ++ x :: b)).drop ((c :: t).takeWhile pFigure).length) = goesL ((c :: t).drop ((c :: t).takeWhile pFigure).length) := by
      rw [← List.cons_append, List.drop_append_of_le_length l2]
      exact goes_stop x hg b _
    have g3 : goesL ((t ++ x :: b).drop (t.takeWhile pHex).length) = goesL (t.drop (t.takeWhile pHex).length) := by
      rw [List.drop_append_of_le_length l3]
      exact goes_stop x hg b _
    simp only [e1, e2, e3, g2, g3]
theorem skipS_stop (b : List Int) : ∀ (r : List Int) (q : Bool), skipS q (r ++ 10 :: b) = if skipS q r = [] then skipS false b else skipS q r ++ 10 :: b
  | [], q => by cases q <;> simp [skipS, isBlank]
  | c :: r, true => by
    rw [List.cons_append]
    by_cases hc : c = 10
    · have hA : skipS true (c :: (r ++ 10 :: b)) = skipS false (r ++ 10 :: b) := by simp only [skipS]; rw [if_pos hc]
      have hB : skipS true (c :: r) = skipS false r := by simp only [skipS]; rw [if_pos hc]
      rw [hA, hB]; exact skipS_stop b r false
    · have hA : skipS true (c :: (r ++ 10 :: b)) = skipS true (r ++ 10 :: b) := by simp only [skipS]; rw [if_neg hc]
      have hB : skipS true (c :: r) = skipS true r := by simp only [skipS]; rw [if_neg hc]
      rw [hA, hB]; exact skipS_stop b r true
  | c :: r, false => by
    rw [List.cons_append]
    by_cases hc : isBlank c = true
    · have hA : skipS false (c :: (r ++ 10 :: b)) = skipS false (r ++ 10 :: b) := by simp only [skipS]; rw [if_pos hc]
      have hB : skipS false (c :: r) = skipS false r := by simp only [skipS]; rw [if_pos hc]
      rw [hA, hB]; exact skipS_stop b r false
    · have hh : (r ++ 10 :: b).head? = some 47 ↔ r.head? = some 47 := by
        cases r with
        | nil => simp
        | cons d r => simp
      by_cases h2 : c = 47 ∧ r.head? = some 47
      · have hA : skipS false (c :: (r ++ 10 :: b)) = skipS true (r ++ 10 :: b) := by simp only [skipS]; rw [if_neg hc, if_pos ⟨h2.1, hh.2 h2.2⟩]
        have hB : skipS false (c :: r) = skipS true r := by simp only [skipS]; rw [if_neg hc, if_pos h2]
        rw [hA, hB]; exact skipS_stop b r true
      · have hA : skipS false (c :: (r ++ 10 :: b)) = c :: (r ++ 10 :: b) := by simp only [skipS]; rw [if_neg hc, if_neg (fun h => h2 ⟨h.1, hh.1 h.2⟩)]
        have hB : skipS false (c :: r) = c :: r := by simp only [skipS]; rw [if_neg hc, if_neg h2]
        rw [hA, hB]
        simp
theorem scanF_step (f cnt : Nat) (r : List Int) (total : Nat) : scanF (f + 1) cnt r total =
    if r = [] then .ok []
    else if cnt = 500 then .error (103, ((total - r.length : Nat) : Int))
    else if (oneL r).e = 0 then (scanF f (cnt + 1) (skipS false (r.drop (oneL r).len)) total).map (tokOf (oneL r) (total - r.length) :: ·)
    else .error ((oneL r).e, ((total - r.length + (oneL r).off : Nat) : Int)) := rfl
theorem oneL_off (l : List Int) (h : l ≠ []) : (oneL l).off ≤ l.length := by
  cases l with
  | nil => exact absurd rfl h
  | cons c t =>
    have h2 := takeWhile_len pFigure (c :: t)
    have h3 := takeWhile_len pHex t
    simp only [oneL]
    by_cases c1 : pLetter c = true
    · rw [if_pos c1]
      simp
    · rw [if_neg c1]
      by_cases c2 : pFigure c = true
      · rw [if_pos c2]
        simp only
        split <;> omega
      · rw [if_neg c2]
        by_cases c3 : c = 36
        · rw [if_pos c3]
          simp only [List.length_cons]
          split
          · omega
          · split <;> omega
        · rw [if_neg c3]
          by_cases c4 : c = 40 ∨ c = 41 ∨ c = 44 ∨ c = 61 ∨ c = 59
          · rw [if_pos c4]
            simp
          · rw [if_neg c4]
            simp
/-- Two texts with a line's end between. -/
theorem scanF_join (b : List Int) : ∀ (g cnt : Nat) (r : List Int) (total f : Nat), r.length < g → r.length ≤ total → r.length + 1 + b.length < f →
    scanF f cnt (skipS false (r ++ 10 :: b)) (total + (1 + b.length)) = match scanF g cnt (skipS false r) total with
      | .ok l => (scanF (b.length + 1) (cnt + l.length) (skipS false b) (total + (1 + b.length))).map (l ++ ·)
      | .error e => .error e
  | 0, _, _, _, _, h, _, _ => by omega
  | g + 1, cnt, r, total, 0, h, _, h3 => by omega
  | g + 1, cnt, r, total, f + 1, h, h2, h3 => by
    have hlen := skipS_len r false
    have hlb := skipS_len b false
    rw [skipS_stop]
    by_cases hs : skipS false r = []
    · rw [if_pos hs, hs]
      have h0 : scanF (g + 1) cnt [] total = .ok [] := by unfold scanF; simp
      rw [h0]
      simp only [List.length_nil, Nat.add_zero]
      rw [scanF_more (f + 1) (b.length + 1) cnt _ _ (by omega) (by omega)]
      cases scanF (b.length + 1) cnt (skipS false b) (total + (1 + b.length)) with
      | ok l => simp [Except.map]
      | error e => rfl
    · rw [if_neg hs]
      have hw := oneL_stop 10 stops10 b (skipS false r) hs
      rw [scanF_step g cnt (skipS false r) total, scanF_step f cnt (skipS false r ++ 10 :: b) _, if_neg (show ¬ (skipS false r ++ 10 :: b = []) by simp), if_neg hs, hw]
      have hp : total + (1 + b.length) - (skipS false r ++ 10 :: b).length = total - (skipS false r).length := by
        simp only [List.length_append, List.length_cons]
        omega
      rw [hp]
      by_cases h5 : cnt = 500
      · rw [if_pos h5, if_pos h5]
      · rw [if_neg h5, if_neg h5]
        have hol := oneL_len _ hs
        by_cases he : (oneL (skipS false r)).e = 0
        · rw [if_pos he, if_pos he]
          have hl1 := hol.2 he
          rw [List.drop_append_of_le_length hol.1]
          rw [scanF_join b g (cnt + 1) ((skipS false r).drop (oneL (skipS false r)).len) total f (by rw [List.length_drop]; omega) (by rw [List.length_drop]; omega) (by rw [List.length_drop]; omega)]
          cases scanF g (cnt + 1) (skipS false ((skipS false r).drop (oneL (skipS false r)).len)) total with
          | ok l =>
            simp only [Except.map, List.length_cons]
            rw [show cnt + 1 + l.length = cnt + (l.length + 1) by omega]
            cases scanF (b.length + 1) (cnt + (l.length + 1)) (skipS false b) (total + (1 + b.length)) with
            | ok m => rfl
            | error e => rfl
          | error e => rfl
        · rw [if_neg he, if_neg he]
/-- The count matters only past the limit. -/
theorem scanF_count : ∀ (f cnt cnt' : Nat) (r : List Int) (total : Nat) (l : List S60), scanF f cnt r total = .ok l → cnt' + l.length ≤ 500 → scanF f cnt' r total = .ok l
  | 0, _, _, _, _, l, h, _ => h
  | f + 1, cnt, cnt', r, total, l, h, h2 => by
    unfold scanF at h ⊢
    by_cases h1 : r = []
    · rw [if_pos h1] at h ⊢; exact h
    · rw [if_neg h1] at h ⊢
      by_cases h5 : cnt = 500
      · rw [if_pos h5] at h; cases h
      · rw [if_neg h5] at h
        by_cases he : (oneL r).e = 0
        · rw [if_pos he] at h ⊢
          cases hx : scanF f (cnt + 1) (skipS false (r.drop (oneL r).len)) total with
          | error e => rw [hx] at h; cases h
          | ok m =>
            rw [hx] at h
            simp only [Except.map, Except.ok.injEq] at h
            subst h
            simp only [List.length_cons] at h2
            rw [if_neg (by omega), scanF_count f (cnt + 1) (cnt' + 1) _ total m hx (by omega)]
            rfl
        · rw [if_neg he] at h; cases h
theorem scanF_at : ∀ (f cnt : Nat) (r : List Int) (total : Nat) (l : List S60), scanF f cnt r total = .ok l → r.length ≤ total → ∀ t ∈ l, 0 ≤ t.f3 ∧ t.f3 ≤ total
  | 0, _, _, _, l, h, _ => by
    simp only [scanF, Except.ok.injEq] at h
    subst h
    intro t ht
    cases ht
  | f + 1, cnt, r, total, l, h, hr => by
    unfold scanF at h
    by_cases h1 : r = []
    · rw [if_pos h1] at h
      simp only [Except.ok.injEq] at h
      subst h
      intro t ht
      cases ht
    · rw [if_neg h1] at h
      by_cases h5 : cnt = 500
      · rw [if_pos h5] at h; cases h
      · rw [if_neg h5] at h
        by_cases he : (oneL r).e = 0
        · rw [if_pos he] at h
          cases hx : scanF f (cnt + 1) (skipS false (r.drop (oneL r).len)) total with
          | error e => rw [hx] at h; cases h
          | ok m =>
            rw [hx] at h
            simp only [Except.map, Except.ok.injEq] at h
            subst h
            have hs := skipS_len (r.drop (oneL r).len) false
            rw [List.length_drop] at hs
            intro t ht
            rcases List.mem_cons.1 ht with rfl | ht
            · simp only [tokOf]; omega
            · exact scanF_at f (cnt + 1) _ total m hx (by omega) t ht
        · rw [if_neg he] at h; cases h
theorem scanF_err : ∀ (f cnt : Nat) (r : List Int) (total : Nat) (e : Int × Int), scanF f cnt r total = .error e → r.length ≤ total → e.1 ≠ 0 ∧ 0 ≤ e.2 ∧ e.2 ≤ total
  | 0, _, _, _, l, h, _ => by simp [scanF] at h
  | f + 1, cnt, r, total, l, h, hr => by
    unfold scanF at h
    by_cases h1 : r = []
    · rw [if_pos h1] at h; cases h
    · rw [if_neg h1] at h
      by_cases h5 : cnt = 500
      · rw [if_pos h5] at h
        simp only [Except.error.injEq] at h
        subst h
        simp only
        omega
      · rw [if_neg h5] at h
        by_cases he : (oneL r).e = 0
        · rw [if_pos he] at h
          cases hx : scanF f (cnt + 1) (skipS false (r.drop (oneL r).len)) total with
          | error e =>
            rw [hx] at h
            simp only [Except.map, Except.error.injEq] at h
            subst h
            have hs := skipS_len (r.drop (oneL r).len) false
            rw [List.length_drop] at hs
            exact scanF_err f (cnt + 1) _ total _ hx (by omega)
          | ok m => rw [hx] at h; cases h
        · rw [if_neg he] at h
          simp only [Except.error.injEq] at h
          subst h
          refine ⟨he, by simp only; omega, ?_⟩
          simp only
          have := oneL_off r h1
          omega
end Go.Proofs.YtknbfhhmjbnemaaDoor.Pure
end
section
namespace Go.Proofs.YtknbfhhmjbnemaaDoor.Pure
open Go.RowKit Go.Proofs.YtknbfhhmjbnemaaDoor.P Go.Proofs.YtknbfhhmjbnemaaDoorW.PrintWords Go.Proofs.YtknbfhhmjbnemaaDoorW.PrintLast
set_option linter.unusedVariables false
set_option linter.unusedSimpArgs false

theorem takeWhile_all (p : Int → Bool) : ∀ (l : List Int), ∀ x ∈ l.takeWhile p, p x = true
  | [], x, h => by simp at h
  | y :: l, x, h => by
    by_cases hx : p y = true
    · rw [List.takeWhile_cons_of_pos hx] at h
      rcases List.mem_cons.1 h with rfl | h
      · exact hx
      · exact takeWhile_all p l x h
    · rw [List.takeWhile_cons_of_neg hx] at h
      cases h
theorem figure_of {c : Int} (h : pFigure c = true) : 48 ≤ c ∧ c ≤ 57 := by
  unfold pFigure at h
  simpa using h
/-- What a token without a fault is. -/
theorem oneL_ok (r : List Int) (h : r ≠ []) (he : (oneL r).e = 0) :
    ((oneL r).kind = 1 ∧ (oneL r).s = [] ∧ (oneL r).len = (r.takeWhile pFigure).length ∧ 1 ≤ (oneL r).len ∧ (oneL r).len ≤ 9 ∧ (oneL r).n = lexNum (r.takeWhile pFigure)) ∨
    ((oneL r).kind = 2 ∧ r.head? = some 36 ∧ (oneL r).len = ((r.drop 1).takeWhile pHex).length + 1 ∧ (oneL r).s = (r.drop 1).takeWhile pHex ∧ 1 ≤ ((r.drop 1).takeWhile pHex).length ∧ ((r.drop 1).takeWhile pHex).length ≤ 128 ∧ (oneL r).n = 0) ∨
    ((oneL r).kind = 0 ∧ (∃ c, r.head? = some c ∧ pLetter c = true) ∧ (oneL r).len = (r.takeWhile pWord).length ∧ (oneL r).s = r.takeWhile pWord ∧ 1 ≤ (r.takeWhile pWord).length ∧ (r.takeWhile pWord).length ≤ 16 ∧ (oneL r).n = 0) ∨
    ((oneL r).kind = 3 ∧ (∃ c t, r = c :: t ∧ (c = 40 ∨ c = 41 ∨ c = 44 ∨ c = 61 ∨ c = 59) ∧ (oneL r).s = [c]) ∧ (oneL r).len = 1 ∧ (oneL r).n = 0) := by
  cases r with
  | nil => exact absurd rfl h
  | cons c t =>
    simp only [oneL] at he ⊢
    by_cases h1 : pLetter c = true
    · rw [if_pos h1] at he ⊢
      have hw : pWord c = true := by unfold pWord; rw [h1]; rfl
      have : 1 ≤ ((c :: t).takeWhile pWord).length := by rw [List.takeWhile_cons_of_pos hw, List.length_cons]; omega
      refine Or.inr (Or.inr (Or.inl ⟨rfl, ⟨c, rfl, h1⟩, rfl, rfl, this, ?_, rfl⟩))
      simp only at he
      split at he
      · exact absurd he (by decide)
      · omega
    · rw [if_neg h1] at he ⊢
      by_cases h2 : pFigure c = true
      · rw [if_pos h2] at he ⊢
        have : 1 ≤ ((c :: t).takeWhile pFigure).length := by rw [List.takeWhile_cons_of_pos h2, List.length_cons]; omega
        refine Or.inl ⟨rfl, rfl, rfl, this, ?_, rfl⟩
        simp only at he ⊢
        split at he
        · exact absurd he (by decide)
        · omega
      · rw [if_neg h2] at he ⊢
        by_cases h3 : c = 36
        · rw [if_pos h3] at he ⊢
          subst h3
          simp only at he
          refine Or.inr (Or.inl ⟨rfl, rfl, rfl, rfl, ?_, ?_, rfl⟩)
          · simp only [List.drop_succ_cons, List.drop_zero]
            split at he
            · exact absurd he (by decide)
            · omega
          · simp only [List.drop_succ_cons, List.drop_zero]
            split at he
            · exact absurd he (by decide)
            · split at he
              · exact absurd he (by decide)
              · omega
        · rw [if_neg h3] at he ⊢
          by_cases h4 : c = 40 ∨ c = 41 ∨ c = 44 ∨ c = 61 ∨ c = 59
          · rw [if_pos h4]
            exact Or.inr (Or.inr (Or.inr ⟨rfl, ⟨c, t, rfl, h4, rfl⟩, rfl, rfl⟩))
          · rw [if_neg h4] at he
            exact absurd he (by decide)
theorem mn_small (x : Int) (h : x < 10000000000) : mn x 1099511627776 = x := by unfold mn; omega
theorem lexNum_take (D : List Int) (hD : ∀ x ∈ D, pFigure x = true) (h9 : D.length ≤ 9) : ∀ (j q : Nat), j ≤ D.length → q = 10 ^ j → 0 ≤ lexNum (D.take j) ∧ lexNum (D.take j) < (q : Int) ∧ q ≤ 1000000000
  | 0, q, _, hq => by subst hq; simp [lexNum]
  | j + 1, q, h, hq => by
    have ih := lexNum_take D hD h9 j (10 ^ j) (by omega) rfl
    have hx : D.take (j + 1) = D.take j ++ [D[j]] := by
      rw [List.take_add_one, List.getElem?_eq_getElem (by omega)]
      rfl
    have hd := figure_of (hD D[j] (List.getElem_mem (by omega)))
    have hp : 10 ^ (j + 1) ≤ 1000000000 := by
      have := Nat.pow_le_pow_right (show 10 > 0 by decide) (show j + 1 ≤ 9 by omega)
      exact Nat.le_trans this (by decide)
    rw [← hq] at hp
    rw [Nat.pow_succ] at hq
    generalize 10 ^ j = b at *
    have hm := mn_small (lexNum (D.take j)) (by omega)
    rw [hx, lexNum_snoc, hm]
    omega
theorem lexNum_small (D : List Int) (hD : ∀ x ∈ D, pFigure x = true) (h9 : D.length ≤ 9) (j : Nat) (hj : j ≤ D.length) : 0 ≤ lexNum (D.take j) ∧ lexNum (D.take j) < 1000000000 := by
  have := lexNum_take D hD h9 j (10 ^ j) hj rfl
  generalize 10 ^ j = b at *
  omega

theorem scanF_count500 : ∀ (f cnt : Nat) (r : List Int) (total : Nat) (l : List S60), scanF f cnt r total = .ok l → cnt ≤ 500 → cnt + l.length ≤ 500
  | 0, _, _, _, l, h, hc => by
    simp only [scanF, Except.ok.injEq] at h
    subst h
    simpa using hc
  | f + 1, cnt, r, total, l, h, hc => by
    rw [scanF_step] at h
    by_cases h1 : r = []
    · rw [if_pos h1] at h
      simp only [Except.ok.injEq] at h
      subst h
      simpa using hc
    · rw [if_neg h1] at h
      by_cases h5 : cnt = 500
      · rw [if_pos h5] at h; cases h
      · rw [if_neg h5] at h
        by_cases he : (oneL r).e = 0
        · rw [if_pos he] at h
          cases hx : scanF f (cnt + 1) (skipS false (r.drop (oneL r).len)) total with
          | error e => rw [hx] at h; cases h
          | ok m =>
            rw [hx] at h
            simp only [Except.map, Except.ok.injEq] at h
            subst h
            have := scanF_count500 f (cnt + 1) _ total m hx (by omega)
            simp only [List.length_cons]
            omega
        · rw [if_neg he] at h; cases h
theorem scan_ok {l : List Int} {m : List S60} (h : scan l = .ok m) : l.length ≤ 2000 ∧ m.length ≤ 500 ∧ ∀ t ∈ m, 0 ≤ t.f3 ∧ t.f3 ≤ l.length := by
  unfold scan at h
  by_cases h1 : 2000 < l.length
  · rw [if_pos h1] at h; cases h
  · rw [if_neg h1] at h
    have hs := skipS_len l false
    exact ⟨by omega, by have := scanF_count500 _ _ _ _ _ h (by omega); omega, scanF_at _ _ _ _ _ h hs⟩
theorem bytesOf_append (a b : ByteArray) : bytesOf (a ++ b) = bytesOf a ++ bytesOf b := by
  unfold bytesOf
  rw [ByteArray.data_append, Array.toList_append, List.map_append]
theorem scan_join (a b : List Int) (l m : List S60) (ha : scan a = .ok l) (hb : scan b = .ok m) (h : a.length + b.length < 2000) (hlm : l.length + m.length ≤ 500) :
    scan (a ++ 10 :: b) = .ok (l ++ m.map (shiftTok (a.length + 1))) := by
  have h1 := ha
  have h2 := hb
  unfold scan at h1 h2 ⊢
  rw [if_neg (by omega)] at h1 h2
  have hlen : (a ++ 10 :: b).length = a.length + (1 + b.length) := by simp; omega
  rw [if_neg (by omega), hlen]
  rw [scanF_join b (a.length + 1) 0 a a.length (a.length + (1 + b.length) + 1) (by omega) (by omega) (by omega), h1]
  simp only [Nat.zero_add]
  have h3 := scanF_count _ 0 l.length _ _ _ h2 (by omega)
  have h4 := scanF_shift (a.length + 1) (b.length + 1) l.length (skipS false b) b.length (skipS_len b false)
  rw [h3] at h4
  rw [show a.length + (1 + b.length) = b.length + (a.length + 1) by omega, h4]
  rfl
def digF : Nat → Nat → List Int
  | 0, _ => []
  | d + 1, n => if n = 0 then [] else digF d (n / 10) ++ [((48 + n % 10 : Nat) : Int)]
def digL (n : Nat) : List Int := if n = 0 then [48] else digF 9 n
theorem digF_len : ∀ d n, (digF d n).length ≤ d
  | 0, n => by simp [digF]
  | d + 1, n => by
    have := digF_len d (n / 10)
    unfold digF
    split
    · simp
    · simp; omega
theorem digF_fig : ∀ d n, ∀ x ∈ digF d n, pFigure x = true
  | 0, n, x, h => by simp [digF] at h
  | d + 1, n, x, h => by
    unfold digF at h
    split at h
    · cases h
    · rcases List.mem_append.1 h with h | h
      · exact digF_fig d _ x h
      · obtain rfl := List.mem_singleton.1 h
        unfold pFigure
        rw [decide_eq_true (show (48 : Int) ≤ ((48 + n % 10 : Nat) : Int) by omega), decide_eq_true (show ((48 + n % 10 : Nat) : Int) ≤ 57 by omega)]
        rfl
theorem digF_pos (d n : Nat) (h : n ≠ 0) : 1 ≤ (digF (d + 1) n).length := by
  unfold digF
  rw [if_neg h]
  simp
theorem digF_succ (d n : Nat) (h : n ≠ 0) : digF (d + 1) n = digF d (n / 10) ++ [((48 + n % 10 : Nat) : Int)] := by rw [digF, if_neg h]
theorem digF_num : ∀ (d n q : Nat), q = 10 ^ d → d ≤ 9 → n < q → lexNum (digF d n) = n
  | 0, n, q, hq, _, h => by
    obtain rfl : n = 0 := by subst hq; omega
    rfl
  | d + 1, n, q, hq, hd, h => by
    unfold digF
    by_cases h0 : n = 0
    · rw [if_pos h0, h0]; rfl
    · rw [if_neg h0, lexNum_snoc]
      rw [Nat.pow_succ] at hq
      have ih := digF_num d (n / 10) (10 ^ d) rfl (by omega) (by generalize 10 ^ d = b at *; omega)
      have hb : 10 ^ d ≤ 1000000000 := by
        have := Nat.pow_le_pow_right (show 10 > 0 by decide) (show d ≤ 9 by omega)
        exact Nat.le_trans this (by decide)
      rw [ih, mn_small _ (by generalize 10 ^ d = b at *; omega)]
      omega
theorem digL_num (n : Nat) (h : n < 1000000000) : lexNum (digL n) = n := by
  unfold digL
  by_cases h0 : n = 0
  · rw [if_pos h0, h0]; rfl
  · rw [if_neg h0]
    exact digF_num 9 n 1000000000 (by decide) (by decide) h
theorem digL_fig (n : Nat) : ∀ x ∈ digL n, pFigure x = true := by
  unfold digL
  split
  · intro x h
    obtain rfl := List.mem_singleton.1 h
    rfl
  · exact digF_fig 9 n
theorem digL_len (n : Nat) : 1 ≤ (digL n).length ∧ (digL n).length ≤ 9 := by
  unfold digL
  by_cases h0 : n = 0
  · rw [if_pos h0]; simp
  · rw [if_neg h0]
    exact ⟨digF_pos 8 n h0, digF_len 9 n⟩
def GoodK (kd : Int) (L : List Int) (n : Int) : Prop :=
  (kd = 1 ∧ L = [] ∧ 0 ≤ n ∧ n < 1000000000) ∨
  (kd = 2 ∧ (∀ x ∈ L, pHex x = true) ∧ 1 ≤ L.length ∧ L.length ≤ 128 ∧ n = 0) ∨
  (kd = 0 ∧ (∃ c t, L = c :: t ∧ pLetter c = true) ∧ (∀ x ∈ L, pWord x = true) ∧ L.length ≤ 16 ∧ n = 0) ∨
  (kd = 3 ∧ (∃ c, L = [c] ∧ (c = 40 ∨ c = 41 ∨ c = 44 ∨ c = 61 ∨ c = 59)) ∧ n = 0)
def GoodTok (t : S60) : Prop := GoodK t.f0 (bytesOf t.f1) t.f2
def txt (kd : Int) (L : List Int) (n : Int) : List Int := if kd = 1 then digL n.toNat else if kd = 2 then 36 :: L else L
theorem takeWhile_of_all (p : Int → Bool) : ∀ (l : List Int), (∀ x ∈ l, p x = true) → l.takeWhile p = l
  | [], _ => rfl
  | c :: l, h => by rw [List.takeWhile_cons_of_pos (h c List.mem_cons_self), takeWhile_of_all p l (fun x hx => h x (List.mem_cons_of_mem _ hx))]
theorem figure_no_letter {c : Int} (h : pFigure c = true) : pLetter c = false := by
  have := figure_of h
  unfold pLetter
  rw [decide_eq_false (by omega)]
  rfl
theorem good_one {kd : Int} {L : List Int} {n : Int} (h : GoodK kd L n) : (oneL (txt kd L n)).kind = kd ∧ (oneL (txt kd L n)).s = L ∧ (oneL (txt kd L n)).n = n ∧ (oneL (txt kd L n)).len = (txt kd L n).length ∧ (oneL (txt kd L n)).e = 0 := by
  rcases h with ⟨rfl, rfl, h0, h1⟩ | ⟨rfl, hx, h1, h2, rfl⟩ | ⟨rfl, ⟨c, t, rfl, hc⟩, hx, h2, rfl⟩ | ⟨rfl, ⟨c, rfl, hc⟩, rfl⟩
  · have e1 : txt 1 [] n = digL n.toNat := rfl
    rw [e1]
    have hl := digL_len n.toNat
    have hf := digL_fig n.toNat
    have hn := digL_num n.toNat (by omega)
    cases hD : digL n.toNat with
    | nil => rw [hD] at hl; simp at hl
    | cons c t =>
      rw [hD] at hl hf hn
      have hc := hf c List.mem_cons_self
      have ht := takeWhile_of_all pFigure (c :: t) hf
      simp only [oneL]
      rw [if_neg (by rw [figure_no_letter hc]; decide), if_pos hc, ht, List.drop_length, if_neg (by omega), if_neg (by decide), hn]
      exact ⟨rfl, rfl, Int.toNat_of_nonneg h0, rfl, rfl⟩
  · have e1 : txt 2 L 0 = 36 :: L := rfl
    rw [e1]
    have ht := takeWhile_of_all pHex L hx
    simp only [oneL]
    rw [if_neg (by decide), if_neg (by decide), if_pos trivial, ht, List.drop_length, if_neg (by omega), if_neg (by omega), if_neg (by decide)]
    exact ⟨rfl, rfl, rfl, rfl, rfl⟩
  · have e1 : txt 0 (c :: t) 0 = c :: t := rfl
    rw [e1]
    have ht := takeWhile_of_all pWord (c :: t) hx
    simp only [oneL]
    rw [if_pos hc, ht, if_neg (by omega)]
    exact ⟨rfl, rfl, rfl, rfl, rfl⟩
  · have e1 : txt 3 [c] 0 = [c] := rfl
    rw [e1]
    rcases hc with rfl | rfl | rfl | rfl | rfl <;> decide
theorem good_head {kd : Int} {L : List Int} {n : Int} (h : GoodK kd L n) : (∃ c t, txt kd L n = c :: t ∧ isBlank c = false ∧ c ≠ 47) ∧ (txt kd L n).length ≤ 129 := by
  rcases h with ⟨rfl, rfl, h0, h1⟩ | ⟨rfl, hx, h1, h2, rfl⟩ | ⟨rfl, ⟨c, t, rfl, hc⟩, hx, h2, rfl⟩ | ⟨rfl, ⟨c, rfl, hc⟩, rfl⟩
  · have e1 : txt 1 [] n = digL n.toNat := rfl
    rw [e1]
    have hl := digL_len n.toNat
    have hf := digL_fig n.toNat
    refine ⟨?_, by omega⟩
    cases hD : digL n.toNat with
    | nil => rw [hD] at hl; simp at hl
    | cons c t =>
      rw [hD] at hf
      have hc := figure_of (hf c List.mem_cons_self)
      refine ⟨c, t, rfl, ?_, by omega⟩
      unfold isBlank
      simp only [Bool.or_eq_false_iff, beq_eq_false_iff_ne]
      omega
  · exact ⟨⟨36, L, rfl, by decide, by decide⟩, by show (36 :: L).length ≤ 129; simp; omega⟩
  · refine ⟨⟨c, t, rfl, ?_, ?_⟩, by show (c :: t).length ≤ 129; omega⟩
    · unfold pLetter at hc
      simp only [Bool.and_eq_true, decide_eq_true_eq] at hc
      unfold isBlank
      simp only [Bool.or_eq_false_iff, beq_eq_false_iff_ne]
      omega
    · unfold pLetter at hc
      simp only [Bool.and_eq_true, decide_eq_true_eq] at hc
      omega
  · refine ⟨⟨c, [], rfl, ?_, ?_⟩, by show 1 ≤ 129; omega⟩ <;> rcases hc with rfl | rfl | rfl | rfl | rfl <;> decide
theorem bytesOf_range (s : ByteArray) : ∀ x ∈ bytesOf s, 0 ≤ x ∧ x ≤ 255 := by
  intro x hx
  unfold bytesOf at hx
  obtain ⟨b, _, rfl⟩ := List.mem_map.1 hx
  have := b.toNat_lt
  omega
theorem bytesOf_strOfNums (l : List Int) (h : ∀ x ∈ l, 0 ≤ x ∧ x ≤ 255) : bytesOf (strOfNums l) = l := by
  unfold bytesOf strOfNums
  rw [List.toList_toArray, List.map_map]
  conv => rhs; rw [← List.map_id l]
  apply List.map_congr_left
  intro x hx
  have := h x hx
  simp only [Function.comp, id]
  rw [UInt8.toNat_ofNat_of_lt' (by simp [UInt8.size]; omega)]
  omega
theorem scanF_good : ∀ (f cnt : Nat) (r : List Int) (total : Nat) (l : List S60), scanF f cnt r total = .ok l → (∀ x ∈ r, 0 ≤ x ∧ x ≤ 255) → ∀ t ∈ l, GoodTok t
  | 0, _, _, _, l, h, _ => by
    simp only [scanF, Except.ok.injEq] at h
    subst h
    intro t ht
    cases ht
  | f + 1, cnt, r, total, l, h, hr => by
    rw [scanF_step] at h
    by_cases h1 : r = []
    · rw [if_pos h1] at h
      simp only [Except.ok.injEq] at h
      subst h
      intro t ht
      cases ht
    · rw [if_neg h1] at h
      by_cases h5 : cnt = 500
      · rw [if_pos h5] at h; cases h
      · rw [if_neg h5] at h
        by_cases he : (oneL r).e = 0
        · rw [if_pos he] at h
          cases hx : scanF f (cnt + 1) (skipS false (r.drop (oneL r).len)) total with
          | error e => rw [hx] at h; cases h
          | ok m =>
            rw [hx] at h
            simp only [Except.map, Except.ok.injEq] at h
            subst h
            intro t ht
            rcases List.mem_cons.1 ht with rfl | ht
            · have hok := oneL_ok r h1 he
              have hmem : ∀ (p : Int → Bool) (q : Nat), ∀ x ∈ (r.drop q).takeWhile p, 0 ≤ x ∧ x ≤ 255 := fun p q x hx => hr x ((List.drop_sublist q r).subset ((List.takeWhile_sublist p).subset hx))
              have hrng : ∀ x ∈ (oneL r).s, 0 ≤ x ∧ x ≤ 255 := by
                rcases hok with ⟨_, hs, _⟩ | ⟨_, _, _, hs, _⟩ | ⟨_, _, _, hs, _⟩ | ⟨_, ⟨c, t, hr2, _, hs⟩, _⟩
                · rw [hs]; intro x hx; cases hx
                · rw [hs]; exact hmem pHex 1
                · rw [hs]; exact hmem pWord 0
                · rw [hs]
                  intro x hx
                  obtain rfl := List.mem_singleton.1 hx
                  exact hr x (by rw [hr2]; exact List.mem_cons_self)
              unfold GoodTok
              simp only [tokOf]
              rw [bytesOf_strOfNums _ hrng]
              rcases hok with ⟨hk, hs, hl, g1, g9, hn⟩ | ⟨hk, _, _, hs, g1, g2, hn⟩ | ⟨hk, ⟨c, hc, hlet⟩, hl, hs, g1, g2, hn⟩ | ⟨hk, ⟨c, t, hr2, hc, hs⟩, _, hn⟩
              · have := lexNum_small (r.takeWhile pFigure) (takeWhile_all _ _) (by omega) (r.takeWhile pFigure).length (Nat.le_refl _)
                rw [List.take_length, ← hn] at this
                exact Or.inl ⟨hk, hs, this⟩
              · exact Or.inr (Or.inl ⟨hk, by rw [hs]; exact takeWhile_all _ _, by rw [hs]; exact g1, by rw [hs]; exact g2, hn⟩)
              · refine Or.inr (Or.inr (Or.inl ⟨hk, ?_, by rw [hs]; exact takeWhile_all _ _, by rw [hs]; exact g2, hn⟩))
                cases r with
                | nil => cases hc
                | cons d t =>
                  obtain rfl : d = c := Option.some.inj hc
                  have hw : pWord d = true := by unfold pWord; rw [hlet]; rfl
                  exact ⟨d, _, by rw [hs, List.takeWhile_cons_of_pos hw], hlet⟩
              · exact Or.inr (Or.inr (Or.inr ⟨hk, ⟨c, hs, hc⟩, hn⟩))
            · exact scanF_good f (cnt + 1) _ total m hx (fun x hx => hr x ((List.drop_sublist _ r).subset ((skipS_suffix _ _).subset hx))) t ht
        · rw [if_neg he] at h; cases h
/-! ### the tokens, written, are read again -/
end Go.Proofs.YtknbfhhmjbnemaaDoor.Pure
end
section
namespace Go.Proofs.YtknbfhhmjbnemaaDoor.P
open Go.RowKit Go.Proofs.YtknbfhhmjbnemaaDoorW.PrintWords Go.Proofs.YtknbfhhmjbnemaaDoorW.PrintLast Go.Proofs.YtknbfhhmjbnemaaDoorW.PrintMore
attribute [local go_sem] max2_int min2_int max_two min_two max_three min_three max_four min_four   -- for this text's walks alone
set_option linter.unusedVariables false
set_option linter.unusedSimpArgs false

/-! ### cofferdamref10_Reserved: function 75 -/
def cofferdamref10_Reserved.l0 : Nat → ByteArray → List ByteArray → Int → Option (Bool)
  | 0, _, _, _ => none
  | k + 1, x0, x3, x4 => if x4 < (x3.length : Int) then (if 0 ≤ x4 then (if (rdOf ByteArray.empty x3 x4).toList = x0.toList then (some true) else (cofferdamref10_Reserved.l0 k x0 x3 (wrap64 (x4 + 1)))) else (none)) else (some false)
def cofferdamref10_Reserved.f (k : Nat) (a0 : ByteArray) : Option (Bool) := cofferdamref10_Reserved.l0 k a0 (([(⟨#[100, 101, 118, 105, 99, 101]⟩ : ByteArray), (⟨#[106, 111, 117, 114, 110, 97, 108]⟩ : ByteArray), (⟨#[107, 101, 121]⟩ : ByteArray), (⟨#[114, 111, 111, 116]⟩ : ByteArray), (⟨#[118, 111, 108, 117, 109, 101]⟩ : ByteArray), (⟨#[101, 120, 112, 111, 114, 116]⟩ : ByteArray), (⟨#[114, 101, 97, 100, 111, 110, 108, 121]⟩ : ByteArray), (⟨#[108, 105, 110, 101, 97, 114]⟩ : ByteArray), (⟨#[99, 111, 110, 99, 97, 116]⟩ : ByteArray), (⟨#[109, 105, 114, 114, 111, 114]⟩ : ByteArray), (⟨#[115, 110, 97, 112, 115, 104, 111, 116]⟩ : ByteArray), (⟨#[99, 114, 121, 112, 116]⟩ : ByteArray), (⟨#[105, 110, 116, 101, 103, 114, 105, 116, 121]⟩ : ByteArray), (⟨#[118, 101, 114, 105, 116, 121]⟩ : ByteArray)] : List ByteArray)) 0
theorem cofferdamref10_Reserved.mono_l : ∀ k, (∀ y0 y1 y2, LeO (cofferdamref10_Reserved.l0 k y0 y1 y2) (cofferdamref10_Reserved.l0 (k + 1) y0 y1 y2))
  | 0 => fun _ _ _ r h => by simp [cofferdamref10_Reserved.l0] at h
  | k + 1 => by
    have ih0 := cofferdamref10_Reserved.mono_l k
    · intro y0 y1 y2
      unfold cofferdamref10_Reserved.l0
      repeat' first
      | (with_reducible exact ih0 _ _ _)
      | (with_reducible exact LeO.refl _)
      | (with_reducible exact LeO.none _)
      | (with_reducible refine LeO.ite ?_ ?_)
      | (with_reducible refine LeO.bind ?_ (fun _ => ?_))
      | exact ih0 _ _ _
      | exact LeO.none _
      | refine LeO.ite ?_ ?_
      | refine LeO.bind ?_ (fun _ => ?_)
theorem cofferdamref10_Reserved.mono : ∀ a0 k, LeO (cofferdamref10_Reserved.f k a0) (cofferdamref10_Reserved.f (k + 1) a0) := by
  intro a0 k
  have ih0 := cofferdamref10_Reserved.mono_l k
  unfold cofferdamref10_Reserved.f
  repeat' first
      | (with_reducible exact ih0 _ _ _)
      | (with_reducible exact LeO.refl _)
      | (with_reducible exact LeO.none _)
      | (with_reducible refine LeO.ite ?_ ?_)
      | (with_reducible refine LeO.bind ?_ (fun _ => ?_))
      | exact ih0 _ _ _
      | exact LeO.none _
      | refine LeO.ite ?_ ?_
      | refine LeO.bind ?_ (fun _ => ?_)
set_option maxHeartbeats 8000000 in
set_option maxRecDepth 100000 in
theorem cofferdamref10_Reserved.calls (k : Nat) (a0 : ByteArray) (r : Bool) (w : World) (h : cofferdamref10_Reserved.f k a0 = some r) :
    Calls Tryd.prog 75 #[.string a0] w fun e w' => e = .returned (.bool r) ∧ Below w.heap.size w w' := by
  have HB := Aside0.mk (Below.refl w.heap.size w)
  have H : (cofferdamref10_Reserved.l0 k a0 (([(⟨#[100, 101, 118, 105, 99, 101]⟩ : ByteArray), (⟨#[106, 111, 117, 114, 110, 97, 108]⟩ : ByteArray), (⟨#[107, 101, 121]⟩ : ByteArray), (⟨#[114, 111, 111, 116]⟩ : ByteArray), (⟨#[118, 111, 108, 117, 109, 101]⟩ : ByteArray), (⟨#[101, 120, 112, 111, 114, 116]⟩ : ByteArray), (⟨#[114, 101, 97, 100, 111, 110, 108, 121]⟩ : ByteArray), (⟨#[108, 105, 110, 101, 97, 114]⟩ : ByteArray), (⟨#[99, 111, 110, 99, 97, 116]⟩ : ByteArray), (⟨#[109, 105, 114, 114, 111, 114]⟩ : ByteArray), (⟨#[115, 110, 97, 112, 115, 104, 111, 116]⟩ : ByteArray), (⟨#[99, 114, 121, 112, 116]⟩ : ByteArray), (⟨#[105, 110, 116, 101, 103, 114, 105, 116, 121]⟩ : ByteArray), (⟨#[118, 101, 114, 105, 116, 121]⟩ : ByteArray)] : List ByteArray)) 0) = some r := h
  clear h
  obtain ⟨y236, hy236⟩ : ∃ y_ : List ByteArray, y_ = (([(⟨#[100, 101, 118, 105, 99, 101]⟩ : ByteArray), (⟨#[106, 111, 117, 114, 110, 97, 108]⟩ : ByteArray), (⟨#[107, 101, 121]⟩ : ByteArray), (⟨#[114, 111, 111, 116]⟩ : ByteArray), (⟨#[118, 111, 108, 117, 109, 101]⟩ : ByteArray), (⟨#[101, 120, 112, 111, 114, 116]⟩ : ByteArray), (⟨#[114, 101, 97, 100, 111, 110, 108, 121]⟩ : ByteArray), (⟨#[108, 105, 110, 101, 97, 114]⟩ : ByteArray), (⟨#[99, 111, 110, 99, 97, 116]⟩ : ByteArray), (⟨#[109, 105, 114, 114, 111, 114]⟩ : ByteArray), (⟨#[115, 110, 97, 112, 115, 104, 111, 116]⟩ : ByteArray), (⟨#[99, 114, 121, 112, 116]⟩ : ByteArray), (⟨#[105, 110, 116, 101, 103, 114, 105, 116, 121]⟩ : ByteArray), (⟨#[118, 101, 114, 105, 116, 121]⟩ : ByteArray)] : List ByteArray)) := ⟨_, rfl⟩
  replace H : (cofferdamref10_Reserved.l0 k a0 y236 0) = some r := by first | (rw [hy236]; with_reducible exact H) | (have H2_ := (Option.bind_some _ _).symm.trans H; rw [hy236]; with_reducible exact H2_) | (have H2_ := (Option.bind_some _ _).symm.trans H; with_reducible exact H2_) | with_reducible exact H | (rw [hy236]; exact H) | exact H
  have Ny236 := Aside0.mk hy236
  clear hy236
  have H' := Aside0.mk H
  clear H
  go_enter Tryd.func75, Tryd.ntmps75
  go_wp2_with (first | ((with_reducible refine gate_dst (N := 5) rfl ?_); refine Kd.R_lit Kd.string _ 9 ?hg (N := 5) ?hd (xs := ([(⟨#[100, 101, 118, 105, 99, 101]⟩ : ByteArray), (⟨#[106, 111, 117, 114, 110, 97, 108]⟩ : ByteArray), (⟨#[107, 101, 121]⟩ : ByteArray), (⟨#[114, 111, 111, 116]⟩ : ByteArray), (⟨#[118, 111, 108, 117, 109, 101]⟩ : ByteArray), (⟨#[101, 120, 112, 111, 114, 116]⟩ : ByteArray), (⟨#[114, 101, 97, 100, 111, 110, 108, 121]⟩ : ByteArray), (⟨#[108, 105, 110, 101, 97, 114]⟩ : ByteArray), (⟨#[99, 111, 110, 99, 97, 116]⟩ : ByteArray), (⟨#[109, 105, 114, 114, 111, 114]⟩ : ByteArray), (⟨#[115, 110, 97, 112, 115, 104, 111, 116]⟩ : ByteArray), (⟨#[99, 114, 121, 112, 116]⟩ : ByteArray), (⟨#[105, 110, 116, 101, 103, 114, 105, 116, 121]⟩ : ByteArray), (⟨#[118, 101, 114, 105, 116, 121]⟩ : ByteArray)] : List ByteArray)) (inner := [.string (⟨#[100, 101, 118, 105, 99, 101]⟩ : ByteArray), .string (⟨#[106, 111, 117, 114, 110, 97, 108]⟩ : ByteArray), .string (⟨#[107, 101, 121]⟩ : ByteArray), .string (⟨#[114, 111, 111, 116]⟩ : ByteArray), .string (⟨#[118, 111, 108, 117, 109, 101]⟩ : ByteArray), .string (⟨#[101, 120, 112, 111, 114, 116]⟩ : ByteArray), .string (⟨#[114, 101, 97, 100, 111, 110, 108, 121]⟩ : ByteArray), .string (⟨#[108, 105, 110, 101, 97, 114]⟩ : ByteArray), .string (⟨#[99, 111, 110, 99, 97, 116]⟩ : ByteArray), .string (⟨#[109, 105, 114, 114, 111, 114]⟩ : ByteArray), .string (⟨#[115, 110, 97, 112, 115, 104, 111, 116]⟩ : ByteArray), .string (⟨#[99, 114, 121, 112, 116]⟩ : ByteArray), .string (⟨#[105, 110, 116, 101, 103, 114, 105, 116, 121]⟩ : ByteArray), .string (⟨#[118, 101, 114, 105, 116, 121]⟩ : ByteArray)]) (ok := fun _ => True) (okp := fun _ => True) ?hr ?hp (fun _ hk => hk) trivial (Below.refl _ _) (Nat.le_refl _) (by simp) ?_; (case hd => rfl); (case hg => rfl); (case hr => first | (go_simp; done) | (go_simp; rfl)); (case hp => exact (Reps.one (show Kd.M Kd.string _ _ _ (⟨#[100, 101, 118, 105, 99, 101]⟩ : ByteArray) [.string (⟨#[100, 101, 118, 105, 99, 101]⟩ : ByteArray)] from rfl) (Reps.one (show Kd.M Kd.string _ _ _ (⟨#[106, 111, 117, 114, 110, 97, 108]⟩ : ByteArray) [.string (⟨#[106, 111, 117, 114, 110, 97, 108]⟩ : ByteArray)] from rfl) (Reps.one (show Kd.M Kd.string _ _ _ (⟨#[107, 101, 121]⟩ : ByteArray) [.string (⟨#[107, 101, 121]⟩ : ByteArray)] from rfl) (Reps.one (show Kd.M Kd.string _ _ _ (⟨#[114, 111, 111, 116]⟩ : ByteArray) [.string (⟨#[114, 111, 111, 116]⟩ : ByteArray)] from rfl) (Reps.one (show Kd.M Kd.string _ _ _ (⟨#[118, 111, 108, 117, 109, 101]⟩ : ByteArray) [.string (⟨#[118, 111, 108, 117, 109, 101]⟩ : ByteArray)] from rfl) (Reps.one (show Kd.M Kd.string _ _ _ (⟨#[101, 120, 112, 111, 114, 116]⟩ : ByteArray) [.string (⟨#[101, 120, 112, 111, 114, 116]⟩ : ByteArray)] from rfl) (Reps.one (show Kd.M Kd.string _ _ _ (⟨#[114, 101, 97, 100, 111, 110, 108, 121]⟩ : ByteArray) [.string (⟨#[114, 101, 97, 100, 111, 110, 108, 121]⟩ : ByteArray)] from rfl) (Reps.one (show Kd.M Kd.string _ _ _ (⟨#[108, 105, 110, 101, 97, 114]⟩ : ByteArray) [.string (⟨#[108, 105, 110, 101, 97, 114]⟩ : ByteArray)] from rfl) (Reps.one (show Kd.M Kd.string _ _ _ (⟨#[99, 111, 110, 99, 97, 116]⟩ : ByteArray) [.string (⟨#[99, 111, 110, 99, 97, 116]⟩ : ByteArray)] from rfl) (Reps.one (show Kd.M Kd.string _ _ _ (⟨#[109, 105, 114, 114, 111, 114]⟩ : ByteArray) [.string (⟨#[109, 105, 114, 114, 111, 114]⟩ : ByteArray)] from rfl) (Reps.one (show Kd.M Kd.string _ _ _ (⟨#[115, 110, 97, 112, 115, 104, 111, 116]⟩ : ByteArray) [.string (⟨#[115, 110, 97, 112, 115, 104, 111, 116]⟩ : ByteArray)] from rfl) (Reps.one (show Kd.M Kd.string _ _ _ (⟨#[99, 114, 121, 112, 116]⟩ : ByteArray) [.string (⟨#[99, 114, 121, 112, 116]⟩ : ByteArray)] from rfl) (Reps.one (show Kd.M Kd.string _ _ _ (⟨#[105, 110, 116, 101, 103, 114, 105, 116, 121]⟩ : ByteArray) [.string (⟨#[105, 110, 116, 101, 103, 114, 105, 116, 121]⟩ : ByteArray)] from rfl) (Reps.one (show Kd.M Kd.string _ _ _ (⟨#[118, 101, 114, 105, 116, 121]⟩ : ByteArray) [.string (⟨#[118, 101, 114, 105, 116, 121]⟩ : ByteArray)] from rfl) (Reps.none _ _)))))))))))))))); intro v237 w2 ho3 hb hg_ hnew_; clear hg_ hnew_; (first | rw [← Ny236.out] at ho3 | (simp only [Int.reduceToNat] at ho3; rw [← Ny236.out] at ho3)); have n0_ := Aside0.mk (Kd.R_lower ho3 (below_size (by repeat (first | (with_reducible first | exact HB.out | apply below_alloc | apply pw_below_drewN | apply below_drew1) | exact HB.out)))); have n1_ := Aside0.mk (below_step (by repeat (first | (with_reducible first | exact HB.out | apply below_alloc | apply pw_below_drewN | apply below_drew1) | exact HB.out)) hb); clear HB; have HO238 := n0_; have HB := n1_; clear n0_ n1_; clear hb ho3))
  go_loopg [4] k (fun kq v4 w' => ∃ (x4_1 : Int), v4 = .int .i64 x4_1 ∧ Aside0 (cofferdamref10_Reserved.l0 kq a0 y236 x4_1 = some r) ∧ Aside0 (kq ≤ k) ∧ Aside0 (Kd.R Kd.string 9 w' w.heap.size (fun _ => True) v237 y236) ∧ Aside0 (Below w.heap.size w w'))
  case atStart => exact ⟨(0), (by first | rfl | (simp; done) | (simp [*]; done)), H', ⟨Nat.le_refl _⟩, ⟨by (with_reducible repeat (first | apply Kd.R_alloc | apply Kd.R_drewN | apply Kd.R_drew)); exact HO238.out⟩, ⟨by repeat (first | (with_reducible first | exact HB.out | apply below_alloc | apply pw_below_drewN | apply below_drew1) | exact HB.out)⟩⟩
  case round =>
    clear H'
    try clear p2
    obtain ⟨x4_1, rfl, HA, HK1, HO_3, HB⟩ := hrel
    cases gk with
    | zero => exact absurd HA.out (by simp [cofferdamref10_Reserved.l0])
    | succ k1 =>
      have H := HA.out
      clear HA
      simp only [cofferdamref10_Reserved.l0] at H
      by_cases c4 : x4_1 < (y236.length : Int)
      · rw [if_pos c4] at H
        have c4b0 : decide (x4_1 < (y236.length : Int)) = true := decide_eq_true c4
        clear c4
        by_cases c5 : 0 ≤ x4_1
        · rw [if_pos c5] at H
          have c5b0 : decide (0 ≤ x4_1) = true := decide_eq_true c5
          clear c5
          by_cases c6 : (rdOf ByteArray.empty y236 x4_1).toList = a0.toList
          · rw [if_pos c6] at H
            have c6b0 : ((rdOf ByteArray.empty y236 x4_1).toList == a0.toList) = true := beq_iff_eq.mpr c6
            have c6b1 : ((rdOf ByteArray.empty y236 x4_1).toList != a0.toList) = false := bne_eq_false_iff_eq.mpr c6
            clear c6
            obtain rfl := Option.some.inj H
            obtain ⟨Ao7, co7, eo7⟩ := Kd.R_slice HO_3.out
            subst eo7
            have p239 : 0 ≤ (x4_1 : Int) := of_decide_eq_true (by first | (with_reducible assumption) | assumption)
            have q239 : x4_1 < (y236.length : Int) := of_decide_eq_true (by first | (with_reducible assumption) | assumption)
            obtain ⟨ad239, e239, hx239_0⟩ := Kd.at_string (Kd.R_reads' HO_3.out).2.2 x4_1 p239 q239
            cases e239
            replace p239 := eq_true p239
            replace q239 := eq_true q239
            go_wp2
            go_ret
            exact ⟨by first | rfl | (simp [errW_none, errW_some] <;> rfl) | (simp [*, errW_none, errW_some] <;> rfl), by repeat (first | (with_reducible first | exact HB.out | apply below_alloc | apply pw_below_drewN | apply below_drew1) | exact HB.out)⟩
          · rw [if_neg c6] at H
            have c6b0 : ((rdOf ByteArray.empty y236 x4_1).toList == a0.toList) = false := beq_eq_false_iff_ne.mpr c6
            have c6b1 : ((rdOf ByteArray.empty y236 x4_1).toList != a0.toList) = true := bne_iff_ne.mpr c6
            have H' := Aside0.mk H
            clear H
            obtain ⟨Ao8, co8, eo8⟩ := Kd.R_slice HO_3.out
            subst eo8
            have p239 : 0 ≤ (x4_1 : Int) := of_decide_eq_true (by first | (with_reducible assumption) | assumption)
            have q239 : x4_1 < (y236.length : Int) := of_decide_eq_true (by first | (with_reducible assumption) | assumption)
            obtain ⟨ad239, e239, hx239_0⟩ := Kd.at_string (Kd.R_reads' HO_3.out).2.2 x4_1 p239 q239
            cases e239
            replace p239 := eq_true p239
            replace q239 := eq_true q239
            go_wp2
            go_roundg k1
            case measure => have := HK1.out; omega
            case rel => exact ⟨(wrap64 (x4_1 + 1)), (by first | rfl | (simp; done) | (simp [*]; done)), H', ⟨by have := HK1.out; omega⟩, ⟨by (with_reducible repeat (first | apply Kd.R_alloc | apply Kd.R_drewN | apply Kd.R_drew)); exact HO_3.out⟩, ⟨by repeat (first | (with_reducible first | exact HB.out | apply below_alloc | apply pw_below_drewN | apply below_drew1) | exact HB.out)⟩⟩
        · rw [if_neg c5] at H
          exact absurd H (by simp)
      · rw [if_neg c4] at H
        have c4b0 : decide (x4_1 < (y236.length : Int)) = false := decide_eq_false c4
        clear c4
        obtain rfl := Option.some.inj H
        obtain ⟨Ao9, co9, eo9⟩ := Kd.R_slice HO_3.out
        subst eo9
        go_wp2
        go_ret
        exact ⟨by first | rfl | (simp [errW_none, errW_some] <;> rfl) | (simp [*, errW_none, errW_some] <;> rfl), by repeat (first | (with_reducible first | exact HB.out | apply below_alloc | apply pw_below_drewN | apply below_drew1) | exact HB.out)⟩

end Go.Proofs.YtknbfhhmjbnemaaDoor.P
end
section
namespace Go.Proofs.YtknbfhhmjbnemaaDoor.Pure
open Go.RowKit Go.Proofs.YtknbfhhmjbnemaaDoor.P Go.Proofs.YtknbfhhmjbnemaaDoorW.PrintWords Go.Proofs.YtknbfhhmjbnemaaDoorW.PrintLast
set_option linter.unusedVariables false
set_option linter.unusedSimpArgs false

def joinW : List (List UInt8) → List UInt8
  | [] => [32]
  | v :: l => 32 :: (v ++ joinW l)
theorem joinW_head (l : List (List UInt8)) : ∃ r, joinW l = 32 :: r := by
  cases l with
  | nil => exact ⟨[], rfl⟩
  | cons v l => exact ⟨_, rfl⟩
theorem contains_step (b : UInt8) (l sub : List UInt8) : Lib.contains (b :: l) sub = (sub.isPrefixOf (b :: l) || Lib.contains l sub) := by
  unfold Lib.contains
  have hge := Lib.index_ge l sub
  rw [Lib.index]
  by_cases h : sub.isPrefixOf (b :: l) = true
  · simp [h]
  · rw [Bool.eq_false_iff.2 h]
    by_cases h2 : Lib.index l sub = -1
    · simp [h2]
    · have h3 : (Lib.index l sub == -1) = false := by simpa using h2
      simp only [h3, Bool.false_or]
      rw [decide_eq_decide]
      simp
      omega
theorem contains_skip (x : List UInt8) : ∀ (v l : List UInt8), 32 ∉ v → Lib.contains (v ++ l) (32 :: x) = Lib.contains l (32 :: x)
  | [], l, _ => rfl
  | b :: v, l, h => by
    have hb : b ≠ 32 := fun e => h (by rw [e]; exact List.mem_cons_self)
    rw [List.cons_append, contains_step, contains_skip x v l (fun e => h (List.mem_cons_of_mem _ e))]
    have : (32 :: x).isPrefixOf (b :: (v ++ l)) = false := by
      simp only [List.isPrefixOf, Bool.and_eq_false_iff]
      exact Or.inl (beq_eq_false_iff_ne.2 (fun e => hb e.symm))
    rw [this, Bool.false_or]
theorem prefix_word : ∀ (u v r : List UInt8), 32 ∉ u → 32 ∉ v → (u ++ [32]).isPrefixOf (v ++ 32 :: r) = decide (u = v)
  | [], [], r, _, _ => by simp [List.isPrefixOf]
  | [], b :: v, r, _, hv => by
    have hb : b ≠ 32 := fun e => hv (by rw [e]; exact List.mem_cons_self)
    have : ((32 : UInt8) == b) = false := beq_eq_false_iff_ne.2 (fun e => hb e.symm)
    simp [List.isPrefixOf, this]
  | c :: u, [], r, hu, _ => by
    have hc : c ≠ 32 := fun e => hu (by rw [e]; exact List.mem_cons_self)
    have : (c == (32 : UInt8)) = false := beq_eq_false_iff_ne.2 hc
    simp [List.isPrefixOf, this]
  | c :: u, b :: v, r, hu, hv => by
    rw [List.cons_append, List.cons_append, List.isPrefixOf, prefix_word u v r (fun e => hu (List.mem_cons_of_mem _ e)) (fun e => hv (List.mem_cons_of_mem _ e))]
    by_cases h : c = b
    · subst h; simp
    · have : (c == b) = false := beq_eq_false_iff_ne.2 h
      rw [this]
      simp [h]
theorem contains_words (u : List UInt8) (hu : 32 ∉ u) : ∀ (l : List (List UInt8)), (∀ v ∈ l, 32 ∉ v) → Lib.contains (joinW l) (32 :: (u ++ [32])) = l.any (fun v => decide (u = v))
  | [], _ => by
    show Lib.contains [32] (32 :: (u ++ [32])) = false
    rw [contains_step]
    have h1 : (32 :: (u ++ [32])).isPrefixOf [32] = false := by
      cases u <;> simp [List.isPrefixOf]
    rw [h1]
    unfold Lib.contains
    rw [Lib.index]
    simp
  | v :: l, h => by
    obtain ⟨r, hr⟩ := joinW_head l
    show Lib.contains (32 :: (v ++ joinW l)) (32 :: (u ++ [32])) = _
    rw [contains_step, contains_skip _ v _ (h v List.mem_cons_self), contains_words u hu l (fun x hx => h x (List.mem_cons_of_mem _ hx)), List.any_cons]
    congr 1
    rw [List.isPrefixOf, hr, prefix_word u v r hu (h v List.mem_cons_self)]
    simp
def resWords : List (List UInt8) := [[100, 101, 118, 105, 99, 101], [106, 111, 117, 114, 110, 97, 108], [107, 101, 121], [114, 111, 111, 116], [118, 111, 108, 117, 109, 101], [101, 120, 112, 111, 114, 116], [114, 101, 97, 100, 111, 110, 108, 121], [108, 105, 110, 101, 97, 114], [99, 111, 110, 99, 97, 116], [109, 105, 114, 114, 111, 114], [115, 110, 97, 112, 115, 104, 111, 116], [99, 114, 121, 112, 116], [105, 110, 116, 101, 103, 114, 105, 116, 121], [118, 101, 114, 105, 116, 121]]
def resB (u : List UInt8) : Bool := resWords.any (fun v => decide (u = v))
theorem resWords_ok : ∀ v ∈ resWords, 32 ∉ v ∧ v ≠ [] := by decide
theorem resB_no (u : List UInt8) (h : u = [] ∨ 32 ∈ u) : resB u = false := by
  unfold resB
  rw [List.any_eq_false]
  intro v hv he
  have he := of_decide_eq_true he
  subst he
  have := resWords_ok u hv
  rcases h with h | h
  · exact this.2 h
  · exact this.1 h
theorem contains32 : ∀ (u : List UInt8), Lib.contains u [32] = decide (32 ∈ u)
  | [] => rfl
  | b :: u => by
    rw [contains_step, contains32 u]
    by_cases h : b = 32
    · subst h; simp [List.isPrefixOf]
    · have h2 : ((32 : UInt8) == b) = false := beq_eq_false_iff_ne.2 (fun e => h e.symm)
      have h3 : ¬ (32 : UInt8) = b := fun e => h e.symm
      simp [List.isPrefixOf, h2, h3]
def resText : ByteArray := ⟨#[32, 100, 101, 118, 105, 99, 101, 32, 106, 111, 117, 114, 110, 97, 108, 32, 107, 101, 121, 32, 114, 111, 111, 116, 32, 118, 111, 108, 117, 109, 101, 32, 101, 120, 112, 111, 114, 116, 32, 114, 101, 97, 100, 111, 110, 108, 121, 32, 108, 105, 110, 101, 97, 114, 32, 99, 111, 110, 99, 97, 116, 32, 109, 105, 114, 114, 111, 114, 32, 115, 110, 97, 112, 115, 104, 111, 116, 32, 99, 114, 121, 112, 116, 32, 105, 110, 116, 101, 103, 114, 105, 116, 121, 32, 118, 101, 114, 105, 116, 121, 32]⟩
theorem resText_list : resText.data.toList = joinW resWords := by decide
theorem reserved_run (a : ByteArray) (ha : a.size ≤ 140737488351232) : lex_Reserved.f a = some (resB a.data.toList) := by
  unfold lex_Reserved.f
  rw [ByteArray.toList_eq]
  by_cases h0 : a.data.toList = []
  · rw [if_pos h0, resB_no _ (Or.inl h0)]
  · rw [if_neg h0]
    have h1 : strings_Contains.f a (⟨#[32]⟩ : ByteArray) = some (decide (32 ∈ a.data.toList)) := by
      unfold strings_Contains.f
      rw [if_pos (Or.inl (show (⟨#[32]⟩ : ByteArray).size = 1 from rfl)), ← contains32]
    rw [h1]
    simp only [Option.bind_some]
    by_cases h2 : 32 ∈ a.data.toList
    · rw [if_pos (decide_eq_true h2), resB_no _ (Or.inr h2)]
    · rw [if_neg (by simpa using h2), if_pos (by omega), if_pos (by rw [ByteArray.size_append]; show 1 + a.size + 1 ≤ _; omega)]
      have h3 : strings_Contains.f resText (((⟨#[32]⟩ : ByteArray) ++ a) ++ (⟨#[32]⟩ : ByteArray)) = some (resB a.data.toList) := by
        unfold strings_Contains.f
        rw [if_pos (Or.inr (by decide)), resText_list]
        have h4 : (((⟨#[32]⟩ : ByteArray) ++ a) ++ (⟨#[32]⟩ : ByteArray)).data.toList = 32 :: (a.data.toList ++ [32]) := by
          rw [ByteArray.data_append, ByteArray.data_append, Array.toList_append, Array.toList_append]
          rfl
        rw [h4, contains_words _ h2 resWords (fun v hv => (resWords_ok v hv).1)]
        rfl
      show (strings_Contains.f resText (((⟨#[32]⟩ : ByteArray) ++ a) ++ (⟨#[32]⟩ : ByteArray))).bind _ = _
      rw [h3]
      rfl
end Go.Proofs.YtknbfhhmjbnemaaDoor.Pure
end
section
namespace Go.Proofs.YtknbfhhmjbnemaaDoor.P
open Go.RowKit Go.Proofs.YtknbfhhmjbnemaaDoorW.PrintWords Go.Proofs.YtknbfhhmjbnemaaDoorW.PrintLast Go.Proofs.YtknbfhhmjbnemaaDoorW.PrintMore Go.Proofs.YtknbfhhmjbnemaaDoor.Pure
set_option linter.unusedVariables false
set_option linter.unusedSimpArgs false

/-- The rounds suffice. -/
def Gd (t : S60) : Prop := ∃ b, presv t.f1 = some b
def Tot {α : Type} (m : Nat) (g : G α) : Prop := ∀ T en, T.length < m → (∀ t ∈ T, Gd t) → ∃ r, g T en = some r
section
variable {α β : Type} {g : G α} {h : α → G β} {m : Nat}
theorem Tot.bd (hg : Tot m g) (hm : Mono g) (hh : ∀ a, Tot m (h a)) : Tot m (P.bd g h) := by
  intro T en hl hT
  obtain ⟨r, hr⟩ := hg T en hl hT
  unfold P.bd
  rw [hr]
  rcases r with x | ⟨a, T1⟩
  · exact ⟨_, rfl⟩
  · have hs := (hm T en).1 a T1 hr
    exact hh a T1 en (by have := hs.length_le; omega) (fun t ht => hT t (hs.subset ht))
theorem Tot.ret (a : α) : Tot m (gret a) := fun T en _ _ => ⟨_, rfl⟩
theorem Tot.must (s : ByteArray) : Tot m (gmust s) := fun T en _ _ => ⟨_, rfl⟩
theorem Tot.gite {c : Prop} [Decidable c] {f g : G α} (hf : Tot m f) (hg : Tot m g) : Tot m (P.gite c f g) := by by_cases h : c; rw [gite_pos h]; exact hf; rw [gite_neg h]; exact hg
end
theorem Tot.of {m : Nat} (k : Int) : Tot m (gof k) := by
  intro T en hl hT
  unfold gof pof
  cases T with
  | nil => exact ⟨_, rfl⟩
  | cons t T =>
    obtain ⟨b, hb⟩ := hT t (List.mem_cons_self ..)
    have : ∃ c, pmay k t = some c := by
      unfold pmay
      split
      · split
        · exact ⟨!b, by rw [hb]; rfl⟩
        · exact ⟨_, rfl⟩
      · exact ⟨_, rfl⟩
    obtain ⟨c, hc⟩ := this
    exact ⟨_, by simp only [ptake, hc]; rfl⟩
theorem Tot.stw {m : Nat} : Tot m gstw := by
  intro T en hl hT
  cases T with
  | nil => exact ⟨_, rfl⟩
  | cons t T => exact ⟨_, rfl⟩
theorem tot_all : ∀ k, (∀ m nest, m ≤ k → m ≤ 1000 → 0 ≤ nest → nest ≤ 13 → Tot m (gexpr k nest)) ∧ (∀ m nest acc, m ≤ k → acc.length + m ≤ 2000 → m ≤ 1000 → 0 ≤ nest → nest ≤ 12 → Tot m (gexprs k nest acc))
  | 0 => ⟨fun m nest hm _ _ _ T en hl _ => by omega, fun m nest acc hm _ _ _ _ T en hl _ => by omega⟩
  | k + 1 => by
    obtain ⟨ih, ihs⟩ := tot_all k
    obtain ⟨hm, hms, hc⟩ := mono_all k
    refine ⟨fun m nest hmk hm1 h0 h1 => ?_, fun m nest acc hmk hacc hm1 h0 h1 => ?_⟩
    · intro T en hl hT
      have hn0 : ¬ (nest < 0 ∨ nest > 100) := by omega
      by_cases hn : nest > 12
      · exact ⟨_, by unfold gexpr; rw [pexpr, if_neg hn0, if_pos hn]⟩
      cases T with
      | nil =>
        rw [gexpr_nil k nest hn0 hn]
        exact Tot.bd (m := m) (Tot.of 0) (Mono.of 0) (fun _ => Tot.ret _) [] en hl hT
      | cons t T =>
        rw [gexpr_cons k nest hn0 hn]
        have hT' : ∀ u ∈ T, Gd u := fun u hu => hT u (List.mem_cons_of_mem _ hu)
        have hl' : T.length < m - 1 := by rw [List.length_cons] at hl; omega
        split
        · have m1 : ∀ L : List S25, Tot (m - 1) (bd (gmust RP) fun _ => gret (⟨t.f1, ⟨#[]⟩, 0, t.f3, L⟩ : S25)) := fun L => Tot.bd (Tot.must _) (Mono.must _) fun _ => Tot.ret _
          have m2 : ∀ first : S25, Tot (m - 1) (gbr k t.f1 nest first) := fun first =>
            Tot.gite (Tot.bd (Tot.must _) (Mono.must _) fun _ => Tot.bd (Tot.of 1) (Mono.of 1) fun _ => Tot.bd (Tot.must _) (Mono.must _) fun _ => Tot.bd (Tot.of 1) (Mono.of 1) fun _ => Tot.ret _) (Tot.gite (Tot.bd (Tot.must _) (Mono.must _) fun _ => Tot.bd (ih (m - 1) _ (by omega) (by omega) (by omega) (by omega)) (hm _) fun _ => Tot.bd (Tot.must _) (Mono.must _) fun _ => Tot.bd (Tot.of 1) (Mono.of 1) fun _ => Tot.ret _) (Tot.gite (Tot.bd (Tot.must _) (Mono.must _) fun _ => Tot.bd (Tot.of 0) (Mono.of 0) fun _ => Tot.ret _) (ihs (m - 1) _ _ (by omega) (by simp; omega) (by omega) h0 (by omega))))
          exact Tot.bd (Tot.must _) (Mono.must _) (fun _ => Tot.bd (ih (m - 1) _ (by omega) (by omega) (by omega) (by omega)) (hm _) fun first => Tot.bd (m2 first) (Mono.br k hm hms t.f1 nest first) m1) T en hl' hT'
        · exact Tot.bd (m := m) (Tot.of 0) (Mono.of 0) (fun _ => Tot.ret _) (t :: T) en hl hT
    · intro T en hl hT
      rw [gexprs_eq, if_pos (by omega)]
      split
      · rename_i hp
        obtain ⟨t, T1, rfl⟩ := pis_cons hp
        rw [List.tail_cons]
        exact Tot.bd (m := m - 1) (ih (m - 1) (nest + 1) (by omega) (by omega) (by omega) (by omega)) (hm _) (fun a => ihs (m - 1) nest (acc ++ [a]) (by omega) (by simp; omega) (by omega) h0 h1) T1 en (by rw [List.length_cons] at hl; omega) (fun u hu => hT u (List.mem_cons_of_mem _ hu))
      · exact ⟨_, rfl⟩
theorem Tot.ro {m : Nat} : Tot m gro := by
  intro T en hl hT
  unfold gro
  split <;> exact ⟨_, rfl⟩
theorem Tot.stmt (k m : Nat) (hmk : m ≤ k) (hm1 : m ≤ 1000) : Tot m (gstmt k) := by
  obtain ⟨ih, ihs⟩ := tot_all k
  obtain ⟨hm, hms, hc⟩ := mono_all k
  refine Tot.bd Tot.stw (Mono.take _) fun t => Tot.bd (Tot.of 0) (Mono.of 0) fun nm => Tot.bd ?_ (Mono.val k _) fun nl => Tot.bd (Tot.must _) (Mono.must _) fun _ => Tot.ret _
  exact Tot.gite (Tot.bd (Tot.of _) (Mono.of _) fun _ => Tot.ret _) (Tot.gite (Tot.bd (Tot.of _) (Mono.of _) fun _ => Tot.ret _) (Tot.gite (Tot.bd (Tot.must _) (Mono.must _) fun _ => Tot.bd (ih m 1 hmk hm1 (by omega) (by omega)) (hm _) fun _ => Tot.ret _) (Tot.gite Tot.ro (Tot.ret _))))
theorem tot_stmts : ∀ k m acc, m ≤ k → m ≤ 1000 → acc.length + m ≤ 2000 → Tot m (gstmts k acc)
  | 0, m, acc, hmk, _, _ => fun T en hl _ => by omega
  | k + 1, m, acc, hmk, hm1, hacc => by
    intro T en hl hT
    rw [gstmts_eq, if_pos (by omega)]
    split
    · exact ⟨_, rfl⟩
    rename_i hne
    obtain ⟨t, T, rfl⟩ : ∃ t T', T = t :: T' := by
      cases T with
      | nil => exact absurd rfl hne
      | cons t T => exact ⟨t, T, rfl⟩
    have hT' : ∀ u ∈ T, Gd u := fun u hu => hT u (List.mem_cons_of_mem _ hu)
    have hl' : T.length < m - 1 := by rw [List.length_cons] at hl; omega
    -- the statement's word is taken first
    show ∃ r, bd (gstmt k) (fun x => gstmts k (acc ++ [x])) (t :: T) en = some r
    have hst : ∃ r, gstmt k (t :: T) en = some r := by
      unfold gstmt bd gstw gtake
      simp only [ptake, Option.map_some]
      split
      · obtain ⟨ih, ihs⟩ := tot_all k
        obtain ⟨hm, hms, hc⟩ := mono_all k
        have h1 : Tot (m - 1) (bd (gof 0) fun nm => gtail k t.f1 nm.f1 t.f3) := Tot.bd (Tot.of 0) (Mono.of 0) fun nm => Tot.bd (Tot.gite (Tot.bd (Tot.of _) (Mono.of _) fun _ => Tot.ret _) (Tot.gite (Tot.bd (Tot.of _) (Mono.of _) fun _ => Tot.ret _) (Tot.gite (Tot.bd (Tot.must _) (Mono.must _) fun _ => Tot.bd (ih (m - 1) 1 (by omega) (by omega) (by omega) (by omega)) (hm _) fun _ => Tot.ret _) (Tot.gite Tot.ro (Tot.ret _))))) (Mono.val k _) fun nl => Tot.bd (Tot.must _) (Mono.must _) fun _ => Tot.ret _
        exact h1 T en hl' hT'
      · exact ⟨_, rfl⟩
    obtain ⟨r, hr⟩ := hst
    unfold bd
    rw [hr]
    rcases r with x | ⟨a, T1⟩
    · exact ⟨_, rfl⟩
    · have hc := Cons.stmt k _ _ _ _ hr
      have hs := (Mono.stmt k (t :: T) en).1 a T1 hr
      exact tot_stmts k (m - 1) (acc ++ [a]) (by omega) (by omega) (by simp; omega) T1 en (by rw [List.length_cons] at hc; omega) (fun u hu => hT u (hs.subset hu))
theorem gd_of_good {t : S60} (h : t.f1.size ≤ 140737488351232) : Gd t := ⟨_, reserved_run t.f1 h⟩
/-- What Parse makes of a text, in plain words. -/
def parseX (s : ByteArray) : S25 × Int × Int :=
  match scan (bytesOf s) with
  | .error e => (z25, e.1, e.2)
  | .ok T => match gstmts 1000 [] T s.size with | some r => parseOf r | none => (z25, 0, 0)
theorem good_size {t : S60} (h : GoodTok t) : t.f1.size ≤ 1000 := by
  have e : t.f1.size = (bytesOf t.f1).length := (bytesOf_length _).symm
  rw [e]
  rcases h with ⟨_, h, _⟩ | ⟨_, _, _, h, _⟩ | ⟨_, _, _, h, _⟩ | ⟨_, ⟨c, h, _⟩, _⟩
  · rw [h]; simp
  · omega
  · omega
  · rw [h]; simp
theorem scan_good {s : ByteArray} {T : List S60} (h : scan (bytesOf s) = .ok T) : ∀ t ∈ T, GoodTok t := by
  unfold scan at h
  split at h
  · cases h
  · exact scanF_good _ _ _ _ _ h (fun x hx => bytesOf_range s x ((skipS_suffix _ _).subset hx))
theorem stmts_some {s : ByteArray} {T : List S60} (h : scan (bytesOf s) = .ok T) (k : Nat) (hk : 600 ≤ k) : ∃ r, ∀ k, 600 ≤ k → gstmts k [] T s.size = some r := by
  have h5 := (scan_ok h).2.1
  obtain ⟨r, hr⟩ := tot_stmts 600 600 [] (Nat.le_refl _) (by omega) (by simp) T s.size (by omega) (fun t ht => gd_of_good (Nat.le_trans (good_size (scan_good h t ht)) (by omega)))
  exact ⟨r, fun k hk => by
    have := LeO.rounds (f := fun j => gstmts j [] T s.size) (fun j => pstmts_mono j T s.size []) 600 (k - 600) r hr
    rwa [show 600 + (k - 600) = k by omega] at this⟩
theorem parseP_ok {k : Nat} {s : ByteArray} {T : List S60} {q : Int} (h : lex_Scan.f k s = some (T, 0, q)) : parseP k s = (pstmts k T s.size []).bind fun r => some (parseOf r) := by
  unfold parseP
  rw [h, Option.bind_some]
  exact if_pos rfl
theorem parseP_err {k : Nat} {s : ByteArray} {T : List S60} {e q : Int} (he : e ≠ 0) (h : lex_Scan.f k s = some (T, e, q)) : parseP k s = some (z25, e, q) := by
  unfold parseP
  rw [h, Option.bind_some]
  exact if_neg he
theorem scan_err0 {l : List Int} {e : Int × Int} (h : scan l = .error e) : e.1 ≠ 0 := by
  unfold scan at h
  split at h
  · cases h; decide
  · exact (scanF_err _ _ _ _ _ h (skipS_len _ _)).1
theorem parseX_run (s : ByteArray) (k : Nat) (hk : 5000 ≤ k) : parseP k s = some (parseX s) := by
  have hs := scan_run s k hk
  unfold parseX
  cases h : scan (bytesOf s) with
  | error e =>
    rw [h] at hs
    exact parseP_err (scan_err0 h) hs
  | ok T =>
    rw [h] at hs
    rw [parseP_ok hs]
    obtain ⟨r, hr⟩ := stmts_some h 600 (Nat.le_refl _)
    have h1 := hr k (by omega)
    have h2 := hr 1000 (by omega)
    unfold gstmts at h1
    simp only
    rw [h1, h2]
    rfl
end Go.Proofs.YtknbfhhmjbnemaaDoor.P
end
section
namespace Go.Proofs.YtknbfhhmjbnemaaDoor.P
open Go.RowKit Go.Proofs.YtknbfhhmjbnemaaDoorW.PrintWords Go.Proofs.YtknbfhhmjbnemaaDoorW.PrintLast Go.Proofs.YtknbfhhmjbnemaaDoorW.PrintMore
attribute [local go_sem] max2_int min2_int max_two min_two max_three min_three max_four min_four   -- for this text's walks alone
set_option linter.unusedVariables false
set_option linter.unusedSimpArgs false

/-! ### cofferdamref11_Same: function 10 -/
mutual
def cofferdamref11_Same.j0 : Nat → Bool → Bool → ByteArray → ByteArray → Int → Int → List (S25) → ByteArray → ByteArray → Int → Int → List (S25) → Option (Bool)
  | 0, _, _, _, _, _, _, _, _, _, _, _, _ => none
  | k + 1, x2, x46, x202000, x202001, x202002, x202003, x202004, x203000, x203001, x203002, x203003, x203004 => if x46 = true then (some false) else (cofferdamref11_Same.l0 k x2 0 x202000 x202001 x202002 x202003 x202004 x203000 x203001 x203002 x203003 x203004)
def cofferdamref11_Same.l0 : Nat → Bool → Int → ByteArray → ByteArray → Int → Int → List (S25) → ByteArray → ByteArray → Int → Int → List (S25) → Option (Bool)
  | 0, _, _, _, _, _, _, _, _, _, _, _, _ => none
  | k + 1, x2, x7, x202000, x202001, x202002, x202003, x202004, x203000, x203001, x203002, x203003, x203004 => if x7 < (x202004.length : Int) then (if 0 ≤ x7 then (if x7 < (x203004.length : Int) then ((cofferdamref11_Same.f k ((rd_T25 x202004 x7).f0) ((rd_T25 x202004 x7).f1) ((rd_T25 x202004 x7).f2) ((rd_T25 x202004 x7).f3) ((rd_T25 x202004 x7).f4) ((rd_T25 x203004 x7).f0) ((rd_T25 x203004 x7).f1) ((rd_T25 x203004 x7).f2) ((rd_T25 x203004 x7).f3) ((rd_T25 x203004 x7).f4) x2).bind fun t205 => (if t205 = true then (cofferdamref11_Same.l0 k x2 (wrap64 (x7 + 1)) x202000 x202001 x202002 x202003 x202004 x203000 x203001 x203002 x203003 x203004) else (some false))) else (none)) else (none)) else (some true)
def cofferdamref11_Same.f : Nat → ByteArray → ByteArray → Int → Int → List (S25) → ByteArray → ByteArray → Int → Int → List (S25) → Bool → Option (Bool)
  | 0, _, _, _, _, _, _, _, _, _, _, _ => none
  | k + 1, a0_0, a0_1, a0_2, a0_3, l0_4, a1_0, a1_1, a1_2, a1_3, l1_4, a2 => if a0_0.toList = a1_0.toList then (if a0_1.toList = a1_1.toList then (if a0_2 = a1_2 then (if a2 = true then (if a0_3 = a1_3 then (cofferdamref11_Same.j0 k a2 ((l0_4.length : Int) != (l1_4.length : Int)) a0_0 a0_1 a0_2 a0_3 l0_4 a1_0 a1_1 a1_2 a1_3 l1_4) else (cofferdamref11_Same.j0 k a2 true a0_0 a0_1 a0_2 a0_3 l0_4 a1_0 a1_1 a1_2 a1_3 l1_4)) else (cofferdamref11_Same.j0 k a2 ((l0_4.length : Int) != (l1_4.length : Int)) a0_0 a0_1 a0_2 a0_3 l0_4 a1_0 a1_1 a1_2 a1_3 l1_4)) else (cofferdamref11_Same.j0 k a2 true a0_0 a0_1 a0_2 a0_3 l0_4 a1_0 a1_1 a1_2 a1_3 l1_4)) else (cofferdamref11_Same.j0 k a2 true a0_0 a0_1 a0_2 a0_3 l0_4 a1_0 a1_1 a1_2 a1_3 l1_4)) else (cofferdamref11_Same.j0 k a2 true a0_0 a0_1 a0_2 a0_3 l0_4 a1_0 a1_1 a1_2 a1_3 l1_4)
end
theorem cofferdamref11_Same.mono_l : ∀ k, (∀ y0 y1 y2 y3 y4 y5 y6 y7 y8 y9 y10, LeO (cofferdamref11_Same.f k y0 y1 y2 y3 y4 y5 y6 y7 y8 y9 y10) (cofferdamref11_Same.f (k + 1) y0 y1 y2 y3 y4 y5 y6 y7 y8 y9 y10)) ∧ (∀ y0 y1 y2 y3 y4 y5 y6 y7 y8 y9 y10 y11, LeO (cofferdamref11_Same.j0 k y0 y1 y2 y3 y4 y5 y6 y7 y8 y9 y10 y11) (cofferdamref11_Same.j0 (k + 1) y0 y1 y2 y3 y4 y5 y6 y7 y8 y9 y10 y11)) ∧ (∀ y0 y1 y2 y3 y4 y5 y6 y7 y8 y9 y10 y11, LeO (cofferdamref11_Same.l0 k y0 y1 y2 y3 y4 y5 y6 y7 y8 y9 y10 y11) (cofferdamref11_Same.l0 (k + 1) y0 y1 y2 y3 y4 y5 y6 y7 y8 y9 y10 y11))
  | 0 => ⟨fun _ _ _ _ _ _ _ _ _ _ _ r h => by simp [cofferdamref11_Same.f] at h, fun _ _ _ _ _ _ _ _ _ _ _ _ r h => by simp [cofferdamref11_Same.j0] at h, fun _ _ _ _ _ _ _ _ _ _ _ _ r h => by simp [cofferdamref11_Same.l0] at h⟩
  | k + 1 => by
    obtain ⟨ih0, ih1, ih2⟩ := cofferdamref11_Same.mono_l k
    refine ⟨?_, ?_, ?_⟩
    · intro y0 y1 y2 y3 y4 y5 y6 y7 y8 y9 y10
      unfold cofferdamref11_Same.f
      repeat' first
      | (with_reducible exact ih0 _ _ _ _ _ _ _ _ _ _ _)
      | (with_reducible exact ih1 _ _ _ _ _ _ _ _ _ _ _ _)
      | (with_reducible exact ih2 _ _ _ _ _ _ _ _ _ _ _ _)
      | (with_reducible exact LeO.refl _)
      | (with_reducible exact LeO.none _)
      | (with_reducible refine LeO.ite ?_ ?_)
      | (with_reducible refine LeO.bind ?_ (fun _ => ?_))
      | exact ih0 _ _ _ _ _ _ _ _ _ _ _
      | exact ih1 _ _ _ _ _ _ _ _ _ _ _ _
      | exact ih2 _ _ _ _ _ _ _ _ _ _ _ _
      | exact LeO.none _
      | refine LeO.ite ?_ ?_
      | refine LeO.bind ?_ (fun _ => ?_)
    · intro y0 y1 y2 y3 y4 y5 y6 y7 y8 y9 y10 y11
      unfold cofferdamref11_Same.j0
      repeat' first
      | (with_reducible exact ih0 _ _ _ _ _ _ _ _ _ _ _)
      | (with_reducible exact ih1 _ _ _ _ _ _ _ _ _ _ _ _)
      | (with_reducible exact ih2 _ _ _ _ _ _ _ _ _ _ _ _)
      | (with_reducible exact LeO.refl _)
      | (with_reducible exact LeO.none _)
      | (with_reducible refine LeO.ite ?_ ?_)
      | (with_reducible refine LeO.bind ?_ (fun _ => ?_))
      | exact ih0 _ _ _ _ _ _ _ _ _ _ _
      | exact ih1 _ _ _ _ _ _ _ _ _ _ _ _
      | exact ih2 _ _ _ _ _ _ _ _ _ _ _ _
      | exact LeO.none _
      | refine LeO.ite ?_ ?_
      | refine LeO.bind ?_ (fun _ => ?_)
    · intro y0 y1 y2 y3 y4 y5 y6 y7 y8 y9 y10 y11
      unfold cofferdamref11_Same.l0
      repeat' first
      | (with_reducible exact ih0 _ _ _ _ _ _ _ _ _ _ _)
      | (with_reducible exact ih1 _ _ _ _ _ _ _ _ _ _ _ _)
      | (with_reducible exact ih2 _ _ _ _ _ _ _ _ _ _ _ _)
      | (with_reducible exact LeO.refl _)
      | (with_reducible exact LeO.none _)
      | (with_reducible refine LeO.ite ?_ ?_)
      | (with_reducible refine LeO.bind ?_ (fun _ => ?_))
      | exact ih0 _ _ _ _ _ _ _ _ _ _ _
      | exact ih1 _ _ _ _ _ _ _ _ _ _ _ _
      | exact ih2 _ _ _ _ _ _ _ _ _ _ _ _
      | exact LeO.none _
      | refine LeO.ite ?_ ?_
      | refine LeO.bind ?_ (fun _ => ?_)
theorem cofferdamref11_Same.mono : ∀ a0 a1 a2 a3 a4 a5 a6 a7 a8 a9 a10 k, LeO (cofferdamref11_Same.f k a0 a1 a2 a3 a4 a5 a6 a7 a8 a9 a10) (cofferdamref11_Same.f (k + 1) a0 a1 a2 a3 a4 a5 a6 a7 a8 a9 a10) := by
  intro a0 a1 a2 a3 a4 a5 a6 a7 a8 a9 a10 k
  obtain ⟨ih0, ih1, ih2⟩ := cofferdamref11_Same.mono_l k
  exact ih0 a0 a1 a2 a3 a4 a5 a6 a7 a8 a9 a10
def cofferdamref11_Same.T6 : Bool × List (List Nat × List Nat) := (true, [([], []), ([0], [0]), ([], []), ([1, 2], [1, 2]), ([3], [3]), ([], []), ([5], [5]), ([], []), ([6, 7], [6, 7]), ([8], [8]), ([], []), ([4, 9, 10], [4, 9, 10]), ([11, 11, 0, 1, 2, 3, 4, 5, 6, 7, 8, 9, 10, 11], [11])])
def cofferdamref11_Same.B6 : List Nat := [0, 1, 0, 7, 15, 0, 32, 0, 224, 480, 0, 2047, 4095]
theorem cofferdamref11_Same.tab6 : rtab .any (opsOf Tryd.f10 6) = cofferdamref11_Same.T6 := by kernel_rfl
theorem cofferdamref11_Same.bits6 : waitsOk cofferdamref11_Same.T6.2 cofferdamref11_Same.B6 = true := by kernel_rfl
set_option maxHeartbeats 8000000 in
set_option maxRecDepth 100000 in
theorem cofferdamref11_Same.calls (k : Nat) : ∀ (a0_0 : ByteArray) (a0_1 : ByteArray) (a0_2 : Int) (a0_3 : Int) (A0_4 : Option Addr) (c0_4 : Nat) (l0_4 : List (S25)) (a1_0 : ByteArray) (a1_1 : ByteArray) (a1_2 : Int) (a1_3 : Int) (A1_4 : Option Addr) (c1_4 : Nat) (l1_4 : List (S25)) (a2 : Bool) (r : Bool) (w : World) (hr0_4 : Kd.C k25 w A0_4 l0_4.length l0_4) (hc0_4 : l0_4.length ≤ c0_4) (hr1_4 : Kd.C k25 w A1_4 l1_4.length l1_4) (hc1_4 : l1_4.length ≤ c1_4) (h : cofferdamref11_Same.f k a0_0 a0_1 a0_2 a0_3 l0_4 a1_0 a1_1 a1_2 a1_3 l1_4 a2 = some r),
    Calls Tryd.prog 10 #[.agg #[.string a0_0, .string a0_1, .int .i64 a0_2, .int .i64 a0_3, .slice A0_4 l0_4.length c0_4], .agg #[.string a1_0, .string a1_1, .int .i64 a1_2, .int .i64 a1_3, .slice A1_4 l1_4.length c1_4], .bool a2] w fun e w' => e = .returned (.bool r) ∧ Below w.heap.size w w' := by
  induction k using Nat.strongRecOn with
  | _ k ih =>
  intro a0_0 a0_1 a0_2 a0_3 A0_4 c0_4 l0_4 a1_0 a1_1 a1_2 a1_3 A1_4 c1_4 l1_4 a2 r w hr0_4 hc0_4 hr1_4 hc1_4 h
  cases k with
  | zero => exact absurd h (by simp [cofferdamref11_Same.f])
  | succ k =>
  simp only [cofferdamref11_Same.f] at h
  have hu25 := Tryd.underlying25
  have HR0_4 := Aside0.mk hr0_4
  have HC0_4 := Aside0.mk hc0_4
  clear hr0_4 hc0_4
  have HR1_4 := Aside0.mk hr1_4
  have HC1_4 := Aside0.mk hc1_4
  clear hr1_4 hc1_4
  have HB := Aside0.mk (Below.refl w.heap.size w)
  have H : (if a0_0.toList = a1_0.toList then (if a0_1.toList = a1_1.toList then (if a0_2 = a1_2 then (if a2 = true then (if a0_3 = a1_3 then (cofferdamref11_Same.j0 k a2 ((l0_4.length : Int) != (l1_4.length : Int)) a0_0 a0_1 a0_2 a0_3 l0_4 a1_0 a1_1 a1_2 a1_3 l1_4) else (cofferdamref11_Same.j0 k a2 true a0_0 a0_1 a0_2 a0_3 l0_4 a1_0 a1_1 a1_2 a1_3 l1_4)) else (cofferdamref11_Same.j0 k a2 ((l0_4.length : Int) != (l1_4.length : Int)) a0_0 a0_1 a0_2 a0_3 l0_4 a1_0 a1_1 a1_2 a1_3 l1_4)) else (cofferdamref11_Same.j0 k a2 true a0_0 a0_1 a0_2 a0_3 l0_4 a1_0 a1_1 a1_2 a1_3 l1_4)) else (cofferdamref11_Same.j0 k a2 true a0_0 a0_1 a0_2 a0_3 l0_4 a1_0 a1_1 a1_2 a1_3 l1_4)) else (cofferdamref11_Same.j0 k a2 true a0_0 a0_1 a0_2 a0_3 l0_4 a1_0 a1_1 a1_2 a1_3 l1_4)) = some r := h
  clear h
  have HC4 := Aside0.mk H
  clear H
  go_enter Tryd.func10, Tryd.ntmps10
  go_upto_region 1 with (first | ((with_reducible refine gate_dst (N := 3) rfl ?_); (try (refine gate_guard (by rfl) ?_; dsimp only)); refine box_event ?hg (N := 3) ?hd (cs := #[.string a0_0, .string a0_1, .int .i64 a0_2, .int .i64 a0_3, .slice A0_4 l0_4.length c0_4]) (t := 25) ?hr ?_; (case hd => rfl); (case hg => rfl); (case hr => first | (go_simp; done) | (go_simp; rfl)); intro gb201 hg w5 hbox hb; have n0_ := Aside0.mk (below_step (by repeat (first | (with_reducible first | exact HB.out | apply below_alloc | apply pw_below_drewN | apply below_drew1) | exact HB.out)) hb); have n1_ := Aside0.mk (hbox); have n2_ := Aside0.mk ((by rw [hg]; exact (below_size (by repeat (first | (with_reducible first | exact HB.out | apply below_alloc | apply pw_below_drewN | apply below_drew1) | exact HB.out))) : w.heap.size ≤ gb201)); have n3_ := Aside0.mk ((by rw [hg]; exact (below_size (by repeat (first | (with_reducible first | exact HB.out | apply below_alloc | apply pw_below_drewN | apply below_drew1) | exact HB.out))) : w.heap.size ≤ gb201)); clear HB; have HB := n0_; have BK201 := n1_; have GW201 := n2_; have GE201 := n3_; clear n0_ n1_ n2_ n3_; clear hb hbox hg) | ((with_reducible refine gate_dst (N := 4) rfl ?_); (try (refine gate_guard (by rfl) ?_; dsimp only)); refine box_event ?hg (N := 4) ?hd (cs := #[.string a1_0, .string a1_1, .int .i64 a1_2, .int .i64 a1_3, .slice A1_4 l1_4.length c1_4]) (t := 25) ?hr ?_; (case hd => rfl); (case hg => rfl); (case hr => first | (go_simp; done) | (go_simp; rfl)); intro gb202 hg w6 hbox hb; have n0_ := Aside0.mk (blk_below (g := gb201) (o := .cells #[.string a0_0, .string a0_1, .int .i64 a0_2, .int .i64 a0_3, .slice A0_4 l0_4.length c0_4] 25 (0, 0)) (by (with_reducible repeat (first | refine blk_drewN ?_ _ | refine blk_drew ?_ | refine blk_alloc ?_ _)); exact BK201.out) hb); have n1_ := Aside0.mk (below_step (by repeat (first | (with_reducible first | exact HB.out | apply below_alloc | apply pw_below_drewN | apply below_drew1 | refine below_set ?_ GE201.out) | exact HB.out)) hb); have n2_ := Aside0.mk (hbox); have n3_ := Aside0.mk ((by rw [hg]; exact (below_size (by repeat (first | (with_reducible first | exact HB.out | apply below_alloc | apply pw_below_drewN | apply below_drew1 | refine below_set ?_ GE201.out) | exact HB.out))) : w.heap.size ≤ gb202)); have n4_ := Aside0.mk ((by rw [hg]; exact (below_size (by repeat (first | (with_reducible first | exact HB.out | apply below_alloc | apply pw_below_drewN | apply below_drew1 | refine below_set ?_ GE201.out) | exact HB.out))) : w.heap.size ≤ gb202)); have n5_ := Aside0.mk ((by rw [hg]; exact Nat.ne_of_lt (blk_lt (g := gb201) (o := .cells #[.string a0_0, .string a0_1, .int .i64 a0_2, .int .i64 a0_3, .slice A0_4 l0_4.length c0_4] 25 (0, 0)) (by (with_reducible repeat (first | refine blk_drewN ?_ _ | refine blk_drew ?_ | refine blk_alloc ?_ _)); exact BK201.out)) : gb201 ≠ gb202)); have n6_ := Aside0.mk ((by rw [hg]; exact Nat.ne_of_gt (blk_lt (g := gb201) (o := .cells #[.string a0_0, .string a0_1, .int .i64 a0_2, .int .i64 a0_3, .slice A0_4 l0_4.length c0_4] 25 (0, 0)) (by (with_reducible repeat (first | refine blk_drewN ?_ _ | refine blk_drew ?_ | refine blk_alloc ?_ _)); exact BK201.out)) : gb202 ≠ gb201)); clear BK201; clear HB; have BK201 := n0_; have HB := n1_; have BK202 := n2_; have GW202 := n3_; have GE202 := n4_; have NB201_202 := n5_; have NB202_201 := n6_; clear n0_ n1_ n2_ n3_ n4_ n5_ n6_; clear hb hbox hg))
  (try simp only [Act.put, List.setIfInBounds_toArray, List.set_cons_zero, List.set_cons_succ])
  go_cut [46] (fun v46 wc => ∃ (kq : Nat) (x46_3 : Bool), v46 = .bool x46_3 ∧ Aside0 (cofferdamref11_Same.j0 kq a2 x46_3 a0_0 a0_1 a0_2 a0_3 l0_4 a1_0 a1_1 a1_2 a1_3 l1_4 = some r) ∧ Aside0 (kq ≤ k) ∧ Aside0 (wc.heap[gb201]? = some (.cells #[.string a0_0, .string a0_1, .int .i64 a0_2, .int .i64 a0_3, (.slice A0_4 l0_4.length c0_4)] 25 (0, 0))) ∧ Aside0 (wc.heap[gb202]? = some (.cells #[.string a1_0, .string a1_1, .int .i64 a1_2, .int .i64 a1_3, (.slice A1_4 l1_4.length c1_4)] 25 (0, 0))) ∧ Aside0 (Below w.heap.size w wc))
  case first =>
    have H := HC4.out
    clear HC4
    by_cases c7 : a0_0.toList = a1_0.toList
    · rw [if_pos c7] at H
      have c7b0 : (a0_0.toList == a1_0.toList) = true := beq_iff_eq.mpr c7
      have c7b1 : (a0_0.toList != a1_0.toList) = false := bne_eq_false_iff_eq.mpr c7
      clear c7
      (first | rw [c7b0] | (simp only [i64_w, i32_w]; rw [c7b0]) | skip)
      by_cases c8 : a0_1.toList = a1_1.toList
      · rw [if_pos c8] at H
        have c8b0 : (a0_1.toList == a1_1.toList) = true := beq_iff_eq.mpr c8
        have c8b1 : (a0_1.toList != a1_1.toList) = false := bne_eq_false_iff_eq.mpr c8
        clear c8
        by_cases c9 : a0_2 = a1_2
        · rw [if_pos c9] at H
          have c9b0 : (a0_2 == a1_2) = true := beq_iff_eq.mpr c9
          have c9b1 : (a0_2 != a1_2) = false := bne_eq_false_iff_eq.mpr c9
          clear c9
          by_cases c10 : a2 = true
          · subst c10
            have H1 : (if a0_3 = a1_3 then (cofferdamref11_Same.j0 k true ((l0_4.length : Int) != (l1_4.length : Int)) a0_0 a0_1 a0_2 a0_3 l0_4 a1_0 a1_1 a1_2 a1_3 l1_4) else (cofferdamref11_Same.j0 k true true a0_0 a0_1 a0_2 a0_3 l0_4 a1_0 a1_1 a1_2 a1_3 l1_4)) = some r := by rw [if_pos rfl] at H; exact H
            clear H
            have H := H1
            clear H1
            by_cases c11 : a0_3 = a1_3
            · rw [if_pos c11] at H
              have c11b0 : (a0_3 == a1_3) = true := beq_iff_eq.mpr c11
              have c11b1 : (a0_3 != a1_3) = false := bne_eq_false_iff_eq.mpr c11
              clear c11
              have H' := Aside0.mk H
              clear H
              have hnb12 := NB201_202.out
              have hnc12 := NB202_201.out
              have hcz13_0 : w6.cell? ⟨gb201, 0, none⟩ = some (.string a0_0) := (blk_cell BK201.out 0).trans rfl
              have hcz13_1 : w6.cell? ⟨gb201, 1, none⟩ = some (.string a0_1) := (blk_cell BK201.out 1).trans rfl
              have hcz13_2 : w6.cell? ⟨gb201, 2, none⟩ = some (.int .i64 a0_2) := (blk_cell BK201.out 2).trans rfl
              have hcz13_3 : w6.cell? ⟨gb201, 3, none⟩ = some (.int .i64 a0_3) := (blk_cell BK201.out 3).trans rfl
              have hcz13_4 : w6.cell? ⟨gb201, 4, none⟩ = some (.slice A0_4 l0_4.length c0_4) := (blk_cell BK201.out 4).trans rfl
              have hfz13_0 := blk_frozen BK201.out 0
              have hfz13_1 := blk_frozen BK201.out 1
              have hfz13_2 := blk_frozen BK201.out 2
              have hfz13_3 := blk_frozen BK201.out 3
              have hfz13_4 := blk_frozen BK201.out 4
              have hcz14_0 : w6.cell? ⟨gb202, 0, none⟩ = some (.string a1_0) := (blk_cell BK202.out 0).trans rfl
              have hcz14_1 : w6.cell? ⟨gb202, 1, none⟩ = some (.string a1_1) := (blk_cell BK202.out 1).trans rfl
              have hcz14_2 : w6.cell? ⟨gb202, 2, none⟩ = some (.int .i64 a1_2) := (blk_cell BK202.out 2).trans rfl
              have hcz14_3 : w6.cell? ⟨gb202, 3, none⟩ = some (.int .i64 a1_3) := (blk_cell BK202.out 3).trans rfl
              have hcz14_4 : w6.cell? ⟨gb202, 4, none⟩ = some (.slice A1_4 l1_4.length c1_4) := (blk_cell BK202.out 4).trans rfl
              have hfz14_0 := blk_frozen BK202.out 0
              have hfz14_1 := blk_frozen BK202.out 1
              have hfz14_2 := blk_frozen BK202.out 2
              have hfz14_3 := blk_frozen BK202.out 3
              have hfz14_4 := blk_frozen BK202.out 4
              go_wp2
              go_meet
              case rel => exact ⟨_, (((l0_4.length : Int) != (l1_4.length : Int))), (by first | rfl | (simp; done) | (simp [*]; done)), H', ⟨by first | omega | exact Nat.le_refl _⟩, ⟨by (with_reducible repeat (first | refine blk_drewN ?_ _ | refine blk_drew ?_ | refine blk_alloc ?_ _)); exact BK201.out⟩, ⟨by (with_reducible repeat (first | refine blk_drewN ?_ _ | refine blk_drew ?_ | refine blk_alloc ?_ _)); exact BK202.out⟩, ⟨by repeat (first | (with_reducible first | exact HB.out | apply below_alloc | apply pw_below_drewN | apply below_drew1 | refine below_set ?_ GE201.out | refine below_set ?_ GE202.out) | exact HB.out)⟩⟩
            · rw [if_neg c11] at H
              have c11b0 : (a0_3 == a1_3) = false := beq_eq_false_iff_ne.mpr c11
              have c11b1 : (a0_3 != a1_3) = true := bne_iff_ne.mpr c11
              have H' := Aside0.mk H
              clear H
              have hnb15 := NB201_202.out
              have hnc15 := NB202_201.out
              have hcz16_0 : w6.cell? ⟨gb201, 0, none⟩ = some (.string a0_0) := (blk_cell BK201.out 0).trans rfl
              have hcz16_1 : w6.cell? ⟨gb201, 1, none⟩ = some (.string a0_1) := (blk_cell BK201.out 1).trans rfl
              have hcz16_2 : w6.cell? ⟨gb201, 2, none⟩ = some (.int .i64 a0_2) := (blk_cell BK201.out 2).trans rfl
              have hcz16_3 : w6.cell? ⟨gb201, 3, none⟩ = some (.int .i64 a0_3) := (blk_cell BK201.out 3).trans rfl
              have hcz16_4 : w6.cell? ⟨gb201, 4, none⟩ = some (.slice A0_4 l0_4.length c0_4) := (blk_cell BK201.out 4).trans rfl
              have hfz16_0 := blk_frozen BK201.out 0
              have hfz16_1 := blk_frozen BK201.out 1
              have hfz16_2 := blk_frozen BK201.out 2
              have hfz16_3 := blk_frozen BK201.out 3
              have hfz16_4 := blk_frozen BK201.out 4
              have hcz17_0 : w6.cell? ⟨gb202, 0, none⟩ = some (.string a1_0) := (blk_cell BK202.out 0).trans rfl
              have hcz17_1 : w6.cell? ⟨gb202, 1, none⟩ = some (.string a1_1) := (blk_cell BK202.out 1).trans rfl
              have hcz17_2 : w6.cell? ⟨gb202, 2, none⟩ = some (.int .i64 a1_2) := (blk_cell BK202.out 2).trans rfl
              have hcz17_3 : w6.cell? ⟨gb202, 3, none⟩ = some (.int .i64 a1_3) := (blk_cell BK202.out 3).trans rfl
              have hcz17_4 : w6.cell? ⟨gb202, 4, none⟩ = some (.slice A1_4 l1_4.length c1_4) := (blk_cell BK202.out 4).trans rfl
              have hfz17_0 := blk_frozen BK202.out 0
              have hfz17_1 := blk_frozen BK202.out 1
              have hfz17_2 := blk_frozen BK202.out 2
              have hfz17_3 := blk_frozen BK202.out 3
              have hfz17_4 := blk_frozen BK202.out 4
              go_wp2
              go_meet
              case rel => exact ⟨_, (true), (by first | rfl | (simp; done) | (simp [*]; done)), H', ⟨by first | omega | exact Nat.le_refl _⟩, ⟨by (with_reducible repeat (first | refine blk_drewN ?_ _ | refine blk_drew ?_ | refine blk_alloc ?_ _)); exact BK201.out⟩, ⟨by (with_reducible repeat (first | refine blk_drewN ?_ _ | refine blk_drew ?_ | refine blk_alloc ?_ _)); exact BK202.out⟩, ⟨by repeat (first | (with_reducible first | exact HB.out | apply below_alloc | apply pw_below_drewN | apply below_drew1 | refine below_set ?_ GE201.out | refine below_set ?_ GE202.out) | exact HB.out)⟩⟩
          · replace c10 := Bool.eq_false_iff.mpr c10
            subst c10
            have H1 : (cofferdamref11_Same.j0 k false ((l0_4.length : Int) != (l1_4.length : Int)) a0_0 a0_1 a0_2 a0_3 l0_4 a1_0 a1_1 a1_2 a1_3 l1_4) = some r := by rw [if_neg (show ¬ (false = true) by decide)] at H; exact H
            clear H
            have H := H1
            clear H1
            have H' := Aside0.mk H
            clear H
            have hnb18 := NB201_202.out
            have hnc18 := NB202_201.out
            have hcz19_0 : w6.cell? ⟨gb201, 0, none⟩ = some (.string a0_0) := (blk_cell BK201.out 0).trans rfl
            have hcz19_1 : w6.cell? ⟨gb201, 1, none⟩ = some (.string a0_1) := (blk_cell BK201.out 1).trans rfl
            have hcz19_2 : w6.cell? ⟨gb201, 2, none⟩ = some (.int .i64 a0_2) := (blk_cell BK201.out 2).trans rfl
            have hcz19_3 : w6.cell? ⟨gb201, 3, none⟩ = some (.int .i64 a0_3) := (blk_cell BK201.out 3).trans rfl
            have hcz19_4 : w6.cell? ⟨gb201, 4, none⟩ = some (.slice A0_4 l0_4.length c0_4) := (blk_cell BK201.out 4).trans rfl
            have hfz19_0 := blk_frozen BK201.out 0
            have hfz19_1 := blk_frozen BK201.out 1
            have hfz19_2 := blk_frozen BK201.out 2
            have hfz19_3 := blk_frozen BK201.out 3
            have hfz19_4 := blk_frozen BK201.out 4
            have hcz20_0 : w6.cell? ⟨gb202, 0, none⟩ = some (.string a1_0) := (blk_cell BK202.out 0).trans rfl
            have hcz20_1 : w6.cell? ⟨gb202, 1, none⟩ = some (.string a1_1) := (blk_cell BK202.out 1).trans rfl
            have hcz20_2 : w6.cell? ⟨gb202, 2, none⟩ = some (.int .i64 a1_2) := (blk_cell BK202.out 2).trans rfl
            have hcz20_3 : w6.cell? ⟨gb202, 3, none⟩ = some (.int .i64 a1_3) := (blk_cell BK202.out 3).trans rfl
            have hcz20_4 : w6.cell? ⟨gb202, 4, none⟩ = some (.slice A1_4 l1_4.length c1_4) := (blk_cell BK202.out 4).trans rfl
            have hfz20_0 := blk_frozen BK202.out 0
            have hfz20_1 := blk_frozen BK202.out 1
            have hfz20_2 := blk_frozen BK202.out 2
            have hfz20_3 := blk_frozen BK202.out 3
            have hfz20_4 := blk_frozen BK202.out 4
            go_wp2
            go_meet
            case rel => exact ⟨_, (((l0_4.length : Int) != (l1_4.length : Int))), (by first | rfl | (simp; done) | (simp [*]; done)), H', ⟨by first | omega | exact Nat.le_refl _⟩, ⟨by (with_reducible repeat (first | refine blk_drewN ?_ _ | refine blk_drew ?_ | refine blk_alloc ?_ _)); exact BK201.out⟩, ⟨by (with_reducible repeat (first | refine blk_drewN ?_ _ | refine blk_drew ?_ | refine blk_alloc ?_ _)); exact BK202.out⟩, ⟨by repeat (first | (with_reducible first | exact HB.out | apply below_alloc | apply pw_below_drewN | apply below_drew1 | refine below_set ?_ GE201.out | refine below_set ?_ GE202.out) | exact HB.out)⟩⟩
        · rw [if_neg c9] at H
          have c9b0 : (a0_2 == a1_2) = false := beq_eq_false_iff_ne.mpr c9
          have c9b1 : (a0_2 != a1_2) = true := bne_iff_ne.mpr c9
          have H' := Aside0.mk H
          clear H
          have hnb21 := NB201_202.out
          have hnc21 := NB202_201.out
          have hcz22_0 : w6.cell? ⟨gb201, 0, none⟩ = some (.string a0_0) := (blk_cell BK201.out 0).trans rfl
          have hcz22_1 : w6.cell? ⟨gb201, 1, none⟩ = some (.string a0_1) := (blk_cell BK201.out 1).trans rfl
          have hcz22_2 : w6.cell? ⟨gb201, 2, none⟩ = some (.int .i64 a0_2) := (blk_cell BK201.out 2).trans rfl
          have hcz22_3 : w6.cell? ⟨gb201, 3, none⟩ = some (.int .i64 a0_3) := (blk_cell BK201.out 3).trans rfl
          have hcz22_4 : w6.cell? ⟨gb201, 4, none⟩ = some (.slice A0_4 l0_4.length c0_4) := (blk_cell BK201.out 4).trans rfl
          have hfz22_0 := blk_frozen BK201.out 0
          have hfz22_1 := blk_frozen BK201.out 1
          have hfz22_2 := blk_frozen BK201.out 2
          have hfz22_3 := blk_frozen BK201.out 3
          have hfz22_4 := blk_frozen BK201.out 4
          have hcz23_0 : w6.cell? ⟨gb202, 0, none⟩ = some (.string a1_0) := (blk_cell BK202.out 0).trans rfl
          have hcz23_1 : w6.cell? ⟨gb202, 1, none⟩ = some (.string a1_1) := (blk_cell BK202.out 1).trans rfl
          have hcz23_2 : w6.cell? ⟨gb202, 2, none⟩ = some (.int .i64 a1_2) := (blk_cell BK202.out 2).trans rfl
          have hcz23_3 : w6.cell? ⟨gb202, 3, none⟩ = some (.int .i64 a1_3) := (blk_cell BK202.out 3).trans rfl
          have hcz23_4 : w6.cell? ⟨gb202, 4, none⟩ = some (.slice A1_4 l1_4.length c1_4) := (blk_cell BK202.out 4).trans rfl
          have hfz23_0 := blk_frozen BK202.out 0
          have hfz23_1 := blk_frozen BK202.out 1
          have hfz23_2 := blk_frozen BK202.out 2
          have hfz23_3 := blk_frozen BK202.out 3
          have hfz23_4 := blk_frozen BK202.out 4
          go_wp2
          go_meet
          case rel => exact ⟨_, (true), (by first | rfl | (simp; done) | (simp [*]; done)), H', ⟨by first | omega | exact Nat.le_refl _⟩, ⟨by (with_reducible repeat (first | refine blk_drewN ?_ _ | refine blk_drew ?_ | refine blk_alloc ?_ _)); exact BK201.out⟩, ⟨by (with_reducible repeat (first | refine blk_drewN ?_ _ | refine blk_drew ?_ | refine blk_alloc ?_ _)); exact BK202.out⟩, ⟨by repeat (first | (with_reducible first | exact HB.out | apply below_alloc | apply pw_below_drewN | apply below_drew1 | refine below_set ?_ GE201.out | refine below_set ?_ GE202.out) | exact HB.out)⟩⟩
      · rw [if_neg c8] at H
        have c8b0 : (a0_1.toList == a1_1.toList) = false := beq_eq_false_iff_ne.mpr c8
        have c8b1 : (a0_1.toList != a1_1.toList) = true := bne_iff_ne.mpr c8
        have H' := Aside0.mk H
        clear H
        have hnb24 := NB201_202.out
        have hnc24 := NB202_201.out
        have hcz25_0 : w6.cell? ⟨gb201, 0, none⟩ = some (.string a0_0) := (blk_cell BK201.out 0).trans rfl
        have hcz25_1 : w6.cell? ⟨gb201, 1, none⟩ = some (.string a0_1) := (blk_cell BK201.out 1).trans rfl
        have hcz25_2 : w6.cell? ⟨gb201, 2, none⟩ = some (.int .i64 a0_2) := (blk_cell BK201.out 2).trans rfl
        have hcz25_3 : w6.cell? ⟨gb201, 3, none⟩ = some (.int .i64 a0_3) := (blk_cell BK201.out 3).trans rfl
        have hcz25_4 : w6.cell? ⟨gb201, 4, none⟩ = some (.slice A0_4 l0_4.length c0_4) := (blk_cell BK201.out 4).trans rfl
        have hfz25_0 := blk_frozen BK201.out 0
        have hfz25_1 := blk_frozen BK201.out 1
        have hfz25_2 := blk_frozen BK201.out 2
        have hfz25_3 := blk_frozen BK201.out 3
        have hfz25_4 := blk_frozen BK201.out 4
        have hcz26_0 : w6.cell? ⟨gb202, 0, none⟩ = some (.string a1_0) := (blk_cell BK202.out 0).trans rfl
        have hcz26_1 : w6.cell? ⟨gb202, 1, none⟩ = some (.string a1_1) := (blk_cell BK202.out 1).trans rfl
        have hcz26_2 : w6.cell? ⟨gb202, 2, none⟩ = some (.int .i64 a1_2) := (blk_cell BK202.out 2).trans rfl
        have hcz26_3 : w6.cell? ⟨gb202, 3, none⟩ = some (.int .i64 a1_3) := (blk_cell BK202.out 3).trans rfl
        have hcz26_4 : w6.cell? ⟨gb202, 4, none⟩ = some (.slice A1_4 l1_4.length c1_4) := (blk_cell BK202.out 4).trans rfl
        have hfz26_0 := blk_frozen BK202.out 0
        have hfz26_1 := blk_frozen BK202.out 1
        have hfz26_2 := blk_frozen BK202.out 2
        have hfz26_3 := blk_frozen BK202.out 3
        have hfz26_4 := blk_frozen BK202.out 4
        go_wp2
        go_meet
        case rel => exact ⟨_, (true), (by first | rfl | (simp; done) | (simp [*]; done)), H', ⟨by first | omega | exact Nat.le_refl _⟩, ⟨by (with_reducible repeat (first | refine blk_drewN ?_ _ | refine blk_drew ?_ | refine blk_alloc ?_ _)); exact BK201.out⟩, ⟨by (with_reducible repeat (first | refine blk_drewN ?_ _ | refine blk_drew ?_ | refine blk_alloc ?_ _)); exact BK202.out⟩, ⟨by repeat (first | (with_reducible first | exact HB.out | apply below_alloc | apply pw_below_drewN | apply below_drew1 | refine below_set ?_ GE201.out | refine below_set ?_ GE202.out) | exact HB.out)⟩⟩
    · rw [if_neg c7] at H
      have c7b0 : (a0_0.toList == a1_0.toList) = false := beq_eq_false_iff_ne.mpr c7
      have c7b1 : (a0_0.toList != a1_0.toList) = true := bne_iff_ne.mpr c7
      (first | rw [c7b0] | (simp only [i64_w, i32_w]; rw [c7b0]) | skip)
      have H' := Aside0.mk H
      clear H
      have hnb27 := NB201_202.out
      have hnc27 := NB202_201.out
      have hcz28_0 : w6.cell? ⟨gb201, 0, none⟩ = some (.string a0_0) := (blk_cell BK201.out 0).trans rfl
      have hcz28_1 : w6.cell? ⟨gb201, 1, none⟩ = some (.string a0_1) := (blk_cell BK201.out 1).trans rfl
      have hcz28_2 : w6.cell? ⟨gb201, 2, none⟩ = some (.int .i64 a0_2) := (blk_cell BK201.out 2).trans rfl
      have hcz28_3 : w6.cell? ⟨gb201, 3, none⟩ = some (.int .i64 a0_3) := (blk_cell BK201.out 3).trans rfl
      have hcz28_4 : w6.cell? ⟨gb201, 4, none⟩ = some (.slice A0_4 l0_4.length c0_4) := (blk_cell BK201.out 4).trans rfl
      have hfz28_0 := blk_frozen BK201.out 0
      have hfz28_1 := blk_frozen BK201.out 1
      have hfz28_2 := blk_frozen BK201.out 2
      have hfz28_3 := blk_frozen BK201.out 3
      have hfz28_4 := blk_frozen BK201.out 4
      have hcz29_0 : w6.cell? ⟨gb202, 0, none⟩ = some (.string a1_0) := (blk_cell BK202.out 0).trans rfl
      have hcz29_1 : w6.cell? ⟨gb202, 1, none⟩ = some (.string a1_1) := (blk_cell BK202.out 1).trans rfl
      have hcz29_2 : w6.cell? ⟨gb202, 2, none⟩ = some (.int .i64 a1_2) := (blk_cell BK202.out 2).trans rfl
      have hcz29_3 : w6.cell? ⟨gb202, 3, none⟩ = some (.int .i64 a1_3) := (blk_cell BK202.out 3).trans rfl
      have hcz29_4 : w6.cell? ⟨gb202, 4, none⟩ = some (.slice A1_4 l1_4.length c1_4) := (blk_cell BK202.out 4).trans rfl
      have hfz29_0 := blk_frozen BK202.out 0
      have hfz29_1 := blk_frozen BK202.out 1
      have hfz29_2 := blk_frozen BK202.out 2
      have hfz29_3 := blk_frozen BK202.out 3
      have hfz29_4 := blk_frozen BK202.out 4
      go_wp2
      go_meet
      case rel => exact ⟨_, (true), (by first | rfl | (simp; done) | (simp [*]; done)), H', ⟨by first | omega | exact Nat.le_refl _⟩, ⟨by (with_reducible repeat (first | refine blk_drewN ?_ _ | refine blk_drew ?_ | refine blk_alloc ?_ _)); exact BK201.out⟩, ⟨by (with_reducible repeat (first | refine blk_drewN ?_ _ | refine blk_drew ?_ | refine blk_alloc ?_ _)); exact BK202.out⟩, ⟨by repeat (first | (with_reducible first | exact HB.out | apply below_alloc | apply pw_below_drewN | apply below_drew1 | refine below_set ?_ GE201.out | refine below_set ?_ GE202.out) | exact HB.out)⟩⟩
  case rest =>
    clear HC4
    try clear c1
    try clear c2
    try clear p2
    try clear c7
    try clear c7b0
    try clear c7b1
    try clear c8
    try clear c8b0
    try clear c8b1
    try clear c9
    try clear c9b0
    try clear c9b1
    try clear c10
    try clear c11
    try clear c11b0
    try clear c11b1
    try clear c12
    try clear c15
    try clear c18
    try clear c21
    try clear c24
    try clear c27
    try clear hcz13_0
    try clear hcz13_1
    try clear hcz13_2
    try clear hcz13_3
    try clear hcz13_4
    try clear hcz14_0
    try clear hcz14_1
    try clear hcz14_2
    try clear hcz14_3
    try clear hcz14_4
    try clear hcz16_0
    try clear hcz16_1
    try clear hcz16_2
    try clear hcz16_3
    try clear hcz16_4
    try clear hcz17_0
    try clear hcz17_1
    try clear hcz17_2
    try clear hcz17_3
    try clear hcz17_4
    try clear hcz19_0
    try clear hcz19_1
    try clear hcz19_2
    try clear hcz19_3
    try clear hcz19_4
    try clear hcz20_0
    try clear hcz20_1
    try clear hcz20_2
    try clear hcz20_3
    try clear hcz20_4
    try clear hcz22_0
    try clear hcz22_1
    try clear hcz22_2
    try clear hcz22_3
    try clear hcz22_4
    try clear hcz23_0
    try clear hcz23_1
    try clear hcz23_2
    try clear hcz23_3
    try clear hcz23_4
    try clear hcz25_0
    try clear hcz25_1
    try clear hcz25_2
    try clear hcz25_3
    try clear hcz25_4
    try clear hcz26_0
    try clear hcz26_1
    try clear hcz26_2
    try clear hcz26_3
    try clear hcz26_4
    try clear hcz28_0
    try clear hcz28_1
    try clear hcz28_2
    try clear hcz28_3
    try clear hcz28_4
    try clear hcz29_0
    try clear hcz29_1
    try clear hcz29_2
    try clear hcz29_3
    try clear hcz29_4
    try clear hfz13_0
    try clear hfz13_1
    try clear hfz13_2
    try clear hfz13_3
    try clear hfz13_4
    try clear hfz14_0
    try clear hfz14_1
    try clear hfz14_2
    try clear hfz14_3
    try clear hfz14_4
    try clear hfz16_0
    try clear hfz16_1
    try clear hfz16_2
    try clear hfz16_3
    try clear hfz16_4
    try clear hfz17_0
    try clear hfz17_1
    try clear hfz17_2
    try clear hfz17_3
    try clear hfz17_4
    try clear hfz19_0
    try clear hfz19_1
    try clear hfz19_2
    try clear hfz19_3
    try clear hfz19_4
    try clear hfz20_0
    try clear hfz20_1
    try clear hfz20_2
    try clear hfz20_3
    try clear hfz20_4
    try clear hfz22_0
    try clear hfz22_1
    try clear hfz22_2
    try clear hfz22_3
    try clear hfz22_4
    try clear hfz23_0
    try clear hfz23_1
    try clear hfz23_2
    try clear hfz23_3
    try clear hfz23_4
    try clear hfz25_0
    try clear hfz25_1
    try clear hfz25_2
    try clear hfz25_3
    try clear hfz25_4
    try clear hfz26_0
    try clear hfz26_1
    try clear hfz26_2
    try clear hfz26_3
    try clear hfz26_4
    try clear hfz28_0
    try clear hfz28_1
    try clear hfz28_2
    try clear hfz28_3
    try clear hfz28_4
    try clear hfz29_0
    try clear hfz29_1
    try clear hfz29_2
    try clear hfz29_3
    try clear hfz29_4
    obtain ⟨kq, x46_3, rfl, HA, HJ3, BK201, BK202, HB⟩ := hcut
    cases kq with
    | zero => exact absurd HA.out (by simp [cofferdamref11_Same.j0])
    | succ kj3 =>
      have H := HA.out
      clear HA
      simp only [cofferdamref11_Same.j0] at H
      by_cases c30 : x46_3 = true
      · subst c30
        have H1 : (some false) = some r := by rw [if_pos rfl] at H; exact H
        clear H
        have H := H1
        clear H1
        obtain rfl := Option.some.inj H
        go_wp2
        go_ret
        exact ⟨by first | rfl | (simp [errW_none, errW_some] <;> rfl) | (simp [*, errW_none, errW_some] <;> rfl), by repeat (first | (with_reducible first | exact HB.out | apply below_alloc | apply pw_below_drewN | apply below_drew1 | refine below_set ?_ GE201.out | refine below_set ?_ GE202.out) | exact HB.out)⟩
      · replace c30 := Bool.eq_false_iff.mpr c30
        subst c30
        have H1 : (cofferdamref11_Same.l0 kj3 a2 0 a0_0 a0_1 a0_2 a0_3 l0_4 a1_0 a1_1 a1_2 a1_3 l1_4) = some r := by rw [if_neg (show ¬ (false = true) by decide)] at H; exact H
        clear H
        have H := H1
        clear H1
        have H' := Aside0.mk H
        clear H
        go_wp2
        go_loopg [7] kj3 (fun kq v7 w' => ∃ (x7_2 : Int), v7 = .int .i64 x7_2 ∧ Aside0 (cofferdamref11_Same.l0 kq a2 x7_2 a0_0 a0_1 a0_2 a0_3 l0_4 a1_0 a1_1 a1_2 a1_3 l1_4 = some r) ∧ Aside0 (kq ≤ kj3) ∧ Aside0 (w'.heap[gb201]? = some (.cells #[.string a0_0, .string a0_1, .int .i64 a0_2, .int .i64 a0_3, (.slice A0_4 l0_4.length c0_4)] 25 (0, 0))) ∧ Aside0 (w'.heap[gb202]? = some (.cells #[.string a1_0, .string a1_1, .int .i64 a1_2, .int .i64 a1_3, (.slice A1_4 l1_4.length c1_4)] 25 (0, 0))) ∧ Aside0 (Below w.heap.size w w'))
        case atStart => exact ⟨(0), (by first | rfl | (simp; done) | (simp [*]; done)), H', ⟨Nat.le_refl _⟩, ⟨by (with_reducible repeat (first | refine blk_drewN ?_ _ | refine blk_drew ?_ | refine blk_alloc ?_ _)); exact BK201.out⟩, ⟨by (with_reducible repeat (first | refine blk_drewN ?_ _ | refine blk_drew ?_ | refine blk_alloc ?_ _)); exact BK202.out⟩, ⟨by repeat (first | (with_reducible first | exact HB.out | apply below_alloc | apply pw_below_drewN | apply below_drew1 | refine below_set ?_ GE201.out | refine below_set ?_ GE202.out) | exact HB.out)⟩⟩
        case round =>
          clear H'
          try clear c1
          try clear c2
          try clear p2
          try clear c3
          try clear c7
          try clear c7b0
          try clear c7b1
          try clear c8
          try clear c8b0
          try clear c8b1
          try clear c9
          try clear c9b0
          try clear c9b1
          try clear c10
          try clear c11
          try clear c11b0
          try clear c11b1
          try clear c12
          try clear c15
          try clear c18
          try clear c21
          try clear c24
          try clear c27
          try clear c30
          try clear hcz13_0
          try clear hcz13_1
          try clear hcz13_2
          try clear hcz13_3
          try clear hcz13_4
          try clear hcz14_0
          try clear hcz14_1
          try clear hcz14_2
          try clear hcz14_3
          try clear hcz14_4
          try clear hcz16_0
          try clear hcz16_1
          try clear hcz16_2
          try clear hcz16_3
          try clear hcz16_4
          try clear hcz17_0
          try clear hcz17_1
          try clear hcz17_2
          try clear hcz17_3
          try clear hcz17_4
          try clear hcz19_0
          try clear hcz19_1
          try clear hcz19_2
          try clear hcz19_3
          try clear hcz19_4
          try clear hcz20_0
          try clear hcz20_1
          try clear hcz20_2
          try clear hcz20_3
          try clear hcz20_4
          try clear hcz22_0
          try clear hcz22_1
          try clear hcz22_2
          try clear hcz22_3
          try clear hcz22_4
          try clear hcz23_0
          try clear hcz23_1
          try clear hcz23_2
          try clear hcz23_3
          try clear hcz23_4
          try clear hcz25_0
          try clear hcz25_1
          try clear hcz25_2
          try clear hcz25_3
          try clear hcz25_4
          try clear hcz26_0
          try clear hcz26_1
          try clear hcz26_2
          try clear hcz26_3
          try clear hcz26_4
          try clear hcz28_0
          try clear hcz28_1
          try clear hcz28_2
          try clear hcz28_3
          try clear hcz28_4
          try clear hcz29_0
          try clear hcz29_1
          try clear hcz29_2
          try clear hcz29_3
          try clear hcz29_4
          try clear hfz13_0
          try clear hfz13_1
          try clear hfz13_2
          try clear hfz13_3
          try clear hfz13_4
          try clear hfz14_0
          try clear hfz14_1
          try clear hfz14_2
          try clear hfz14_3
          try clear hfz14_4
          try clear hfz16_0
          try clear hfz16_1
          try clear hfz16_2
          try clear hfz16_3
          try clear hfz16_4
          try clear hfz17_0
          try clear hfz17_1
          try clear hfz17_2
          try clear hfz17_3
          try clear hfz17_4
          try clear hfz19_0
          try clear hfz19_1
          try clear hfz19_2
          try clear hfz19_3
          try clear hfz19_4
          try clear hfz20_0
          try clear hfz20_1
          try clear hfz20_2
          try clear hfz20_3
          try clear hfz20_4
          try clear hfz22_0
          try clear hfz22_1
          try clear hfz22_2
          try clear hfz22_3
          try clear hfz22_4
          try clear hfz23_0
          try clear hfz23_1
          try clear hfz23_2
          try clear hfz23_3
          try clear hfz23_4
          try clear hfz25_0
          try clear hfz25_1
          try clear hfz25_2
          try clear hfz25_3
          try clear hfz25_4
          try clear hfz26_0
          try clear hfz26_1
          try clear hfz26_2
          try clear hfz26_3
          try clear hfz26_4
          try clear hfz28_0
          try clear hfz28_1
          try clear hfz28_2
          try clear hfz28_3
          try clear hfz28_4
          try clear hfz29_0
          try clear hfz29_1
          try clear hfz29_2
          try clear hfz29_3
          try clear hfz29_4
          try clear p2
          obtain ⟨x7_2, rfl, HA, HK2, BK201, BK202, HB⟩ := hrel
          cases gk with
          | zero => exact absurd HA.out (by simp [cofferdamref11_Same.l0])
          | succ k2 =>
            have H := HA.out
            clear HA
            simp only [cofferdamref11_Same.l0] at H
            by_cases c31 : x7_2 < (l0_4.length : Int)
            · rw [if_pos c31] at H
              have c31b0 : decide (x7_2 < (l0_4.length : Int)) = true := decide_eq_true c31
              clear c31
              by_cases c32 : 0 ≤ x7_2
              · rw [if_pos c32] at H
                have c32b0 : decide (0 ≤ x7_2) = true := decide_eq_true c32
                clear c32
                by_cases c33 : x7_2 < (l1_4.length : Int)
                · rw [if_pos c33] at H
                  have c33b0 : decide (x7_2 < (l1_4.length : Int)) = true := decide_eq_true c33
                  clear c33
                  replace H := Option.bind_eq_some_iff.mp H
                  obtain ⟨t205, A340, H⟩ := H
                  replace H : (if t205 = true then (cofferdamref11_Same.l0 k2 a2 (wrap64 (x7_2 + 1)) a0_0 a0_1 a0_2 a0_3 l0_4 a1_0 a1_1 a1_2 a1_3 l1_4) else (some false)) = some r := H
                  have A34 := Aside0.mk A340
                  clear A340
                  by_cases c35 : t205 = true
                  · subst c35
                    have H1 : (cofferdamref11_Same.l0 k2 a2 (wrap64 (x7_2 + 1)) a0_0 a0_1 a0_2 a0_3 l0_4 a1_0 a1_1 a1_2 a1_3 l1_4) = some r := by rw [if_pos rfl] at H; exact H
                    clear H
                    have H := H1
                    clear H1
                    have H' := Aside0.mk H
                    clear H
                    have hnb36 := NB201_202.out
                    have hnc36 := NB202_201.out
                    have hcz37_0 : wr.cell? ⟨gb201, 0, none⟩ = some (.string a0_0) := (blk_cell BK201.out 0).trans rfl
                    have hcz37_1 : wr.cell? ⟨gb201, 1, none⟩ = some (.string a0_1) := (blk_cell BK201.out 1).trans rfl
                    have hcz37_2 : wr.cell? ⟨gb201, 2, none⟩ = some (.int .i64 a0_2) := (blk_cell BK201.out 2).trans rfl
                    have hcz37_3 : wr.cell? ⟨gb201, 3, none⟩ = some (.int .i64 a0_3) := (blk_cell BK201.out 3).trans rfl
                    have hcz37_4 : wr.cell? ⟨gb201, 4, none⟩ = some (.slice A0_4 l0_4.length c0_4) := (blk_cell BK201.out 4).trans rfl
                    have hfz37_0 := blk_frozen BK201.out 0
                    have hfz37_1 := blk_frozen BK201.out 1
                    have hfz37_2 := blk_frozen BK201.out 2
                    have hfz37_3 := blk_frozen BK201.out 3
                    have hfz37_4 := blk_frozen BK201.out 4
                    try go_wp2
                    have n0_ := Aside0.mk (blk_drew BK201.out)
                    have n1_ := Aside0.mk (blk_drew BK202.out)
                    have n2_ := Aside0.mk (below_drew1 HB.out)
                    clear BK201
                    clear BK202
                    clear HB
                    have BK201 := n0_
                    have BK202 := n1_
                    have HB := n2_
                    clear n0_ n1_ n2_
                    have p203 : 0 ≤ (x7_2 : Int) := of_decide_eq_true (by first | (with_reducible assumption) | assumption)
                    have q203 : x7_2 < (l0_4.length : Int) := of_decide_eq_true (by first | (with_reducible assumption) | assumption)
                    obtain ⟨ad203, A203_4, c203_4, e203, hx203_0, hx203_1, hx203_2, hx203_3, hx203_4, hl203_4, hi203_4⟩ := at_T25 HR0_4.out x7_2 p203 q203
                    have hw203_4 := hx203_4
                    have hw203_3 := hx203_3
                    have hw203_2 := hx203_2
                    have hw203_1 := hx203_1
                    have hw203_0 := hx203_0
                    cases e203
                    replace hx203_0 := (HB.out.cell (World.block_lt_of_cell? w _ hx203_0)).trans hx203_0
                    replace hx203_1 := (HB.out.cell (World.block_lt_of_cell? w _ hx203_1)).trans hx203_1
                    replace hx203_2 := (HB.out.cell (World.block_lt_of_cell? w _ hx203_2)).trans hx203_2
                    replace hx203_3 := (HB.out.cell (World.block_lt_of_cell? w _ hx203_3)).trans hx203_3
                    replace hx203_4 := (HB.out.cell (World.block_lt_of_cell? w _ hx203_4)).trans hx203_4
                    have HR203_4 := Aside0.mk hi203_4
                    have HC203_4 := Aside0.mk hl203_4
                    clear hi203_4 hl203_4
                    replace p203 := eq_true p203
                    replace q203 := eq_true q203
                    have p204 : 0 ≤ (x7_2 : Int) := of_decide_eq_true (by first | (with_reducible assumption) | assumption)
                    have q204 : x7_2 < (l1_4.length : Int) := of_decide_eq_true (by first | (with_reducible assumption) | assumption)
                    obtain ⟨ad204, A204_4, c204_4, e204, hx204_0, hx204_1, hx204_2, hx204_3, hx204_4, hl204_4, hi204_4⟩ := at_T25 HR1_4.out x7_2 p204 q204
                    have hw204_4 := hx204_4
                    have hw204_3 := hx204_3
                    have hw204_2 := hx204_2
                    have hw204_1 := hx204_1
                    have hw204_0 := hx204_0
                    cases e204
                    replace hx204_0 := (HB.out.cell (World.block_lt_of_cell? w _ hx204_0)).trans hx204_0
                    replace hx204_1 := (HB.out.cell (World.block_lt_of_cell? w _ hx204_1)).trans hx204_1
                    replace hx204_2 := (HB.out.cell (World.block_lt_of_cell? w _ hx204_2)).trans hx204_2
                    replace hx204_3 := (HB.out.cell (World.block_lt_of_cell? w _ hx204_3)).trans hx204_3
                    replace hx204_4 := (HB.out.cell (World.block_lt_of_cell? w _ hx204_4)).trans hx204_4
                    have HR204_4 := Aside0.mk hi204_4
                    have HC204_4 := Aside0.mk hl204_4
                    clear hi204_4 hl204_4
                    replace p204 := eq_true p204
                    replace q204 := eq_true q204
                    refine start_ (n := 13) (S := fun w' => w'.cell? ⟨gb201, 0, none⟩ = some (.string a0_0) ∧ w'.cell? ⟨gb201, 1, none⟩ = some (.string a0_1) ∧ w'.cell? ⟨gb201, 2, none⟩ = some (.int .i64 a0_2) ∧ w'.cell? ⟨gb201, 3, none⟩ = some (.int .i64 a0_3) ∧ w'.cell? ⟨gb201, 4, none⟩ = some (.slice (some ad203) l0_4.length c0_4) ∧ w'.cell? ⟨gb202, 0, none⟩ = some (.string a1_0) ∧ w'.cell? ⟨gb202, 1, none⟩ = some (.string a1_1) ∧ w'.cell? ⟨gb202, 2, none⟩ = some (.int .i64 a1_2) ∧ w'.cell? ⟨gb202, 3, none⟩ = some (.int .i64 a1_3) ∧ w'.cell? ⟨gb202, 4, none⟩ = some (.slice (some ad204) l1_4.length c1_4) ∧ w'.cell? (ad203.add ((x7_2).toNat * 5)) = some (.string ((rd_T25 l0_4 x7_2).f0)) ∧ w'.cell? ⟨(ad203.add ((x7_2).toNat * 5)).block, (ad203.add ((x7_2).toNat * 5)).off + 1, none⟩ = some (.string ((rd_T25 l0_4 x7_2).f1)) ∧ w'.cell? ⟨(ad203.add ((x7_2).toNat * 5)).block, (ad203.add ((x7_2).toNat * 5)).off + 2, none⟩ = some (.int .i64 ((rd_T25 l0_4 x7_2).f2)) ∧ w'.cell? ⟨(ad203.add ((x7_2).toNat * 5)).block, (ad203.add ((x7_2).toNat * 5)).off + 3, none⟩ = some (.int .i64 ((rd_T25 l0_4 x7_2).f3)) ∧ w'.cell? ⟨(ad203.add ((x7_2).toNat * 5)).block, (ad203.add ((x7_2).toNat * 5)).off + 4, none⟩ = some (.slice A203_4 ((rd_T25 l0_4 x7_2).f4).length c203_4) ∧ w'.cell? (ad204.add ((x7_2).toNat * 5)) = some (.string ((rd_T25 l1_4 x7_2).f0)) ∧ w'.cell? ⟨(ad204.add ((x7_2).toNat * 5)).block, (ad204.add ((x7_2).toNat * 5)).off + 1, none⟩ = some (.string ((rd_T25 l1_4 x7_2).f1)) ∧ w'.cell? ⟨(ad204.add ((x7_2).toNat * 5)).block, (ad204.add ((x7_2).toNat * 5)).off + 2, none⟩ = some (.int .i64 ((rd_T25 l1_4 x7_2).f2)) ∧ w'.cell? ⟨(ad204.add ((x7_2).toNat * 5)).block, (ad204.add ((x7_2).toNat * 5)).off + 3, none⟩ = some (.int .i64 ((rd_T25 l1_4 x7_2).f3)) ∧ w'.cell? ⟨(ad204.add ((x7_2).toNat * 5)).block, (ad204.add ((x7_2).toNat * 5)).off + 4, none⟩ = some (.slice A204_4 ((rd_T25 l1_4 x7_2).f4).length c204_4)) (ds := []) #[false, false, false, false, false, false, false, false, false, false, false, false, false] (by kernel_rfl) rfl rfl ⟨(blk_cell BK201.out 0).trans rfl, (blk_cell BK201.out 1).trans rfl, (blk_cell BK201.out 2).trans rfl, (blk_cell BK201.out 3).trans rfl, (blk_cell BK201.out 4).trans rfl, (blk_cell BK202.out 0).trans rfl, (blk_cell BK202.out 1).trans rfl, (blk_cell BK202.out 2).trans rfl, (blk_cell BK202.out 3).trans rfl, (blk_cell BK202.out 4).trans rfl, ((HB.out.cell (World.block_lt_of_cell? w _ hw203_0)).trans hw203_0), ((HB.out.cell (World.block_lt_of_cell? w _ hw203_1)).trans hw203_1), ((HB.out.cell (World.block_lt_of_cell? w _ hw203_2)).trans hw203_2), ((HB.out.cell (World.block_lt_of_cell? w _ hw203_3)).trans hw203_3), ((HB.out.cell (World.block_lt_of_cell? w _ hw203_4)).trans hw203_4), ((HB.out.cell (World.block_lt_of_cell? w _ hw204_0)).trans hw204_0), ((HB.out.cell (World.block_lt_of_cell? w _ hw204_1)).trans hw204_1), ((HB.out.cell (World.block_lt_of_cell? w _ hw204_2)).trans hw204_2), ((HB.out.cell (World.block_lt_of_cell? w _ hw204_3)).trans hw204_3), ((HB.out.cell (World.block_lt_of_cell? w _ hw204_4)).trans hw204_4)⟩ (fun hHeld => ?_); refine with_tabW cofferdamref11_Same.tab6 cofferdamref11_Same.bits6 (fun HT_ HW_ => ?_)
                    generalize wr.drew = w38 at BK201 BK202 HB HR203_4 HR204_4 hx203_0 hx203_1 hx203_2 hx203_3 hx203_4 hx204_0 hx204_1 hx204_2 hx204_3 hx204_4 hHeld ⊢
                    refine pure_ (i := 0) (N := some 54) (v := ?_) (a' := ?_) #[true, false, false, false, false, false, false, false, false, false, false, false, false] rfl rfl (any_of HT_.out (by kernel_rfl)) (fun _ _ _ h => h) (Or.inl ⟨by rfl, ?_⟩) ?_ ?_
                    rotate_left
                    · intro w'
                      go_simp
                      with_reducible rfl
                    rotate_left
                    · simp only [Act.put, List.setIfInBounds_toArray, List.set_cons_zero, List.set_cons_succ, i64_w, i32_w]
                      rfl
                    refine pure_ (i := 2) (N := some 56) (v := ?_) (a' := ?_) #[true, false, true, false, false, false, false, false, false, false, false, false, false] rfl rfl (any_of HT_.out (by kernel_rfl)) (fun _ _ _ h => h) (Or.inl ⟨by rfl, ?_⟩) ?_ ?_
                    rotate_left
                    · intro w'
                      go_simp
                      with_reducible rfl
                    rotate_left
                    · simp only [Act.put, List.setIfInBounds_toArray, List.set_cons_zero, List.set_cons_succ, i64_w, i32_w]
                      rfl
                    refine pure_ (i := 5) (N := some 59) (v := ?_) (a' := ?_) #[true, false, true, false, false, true, false, false, false, false, false, false, false] rfl rfl (any_of HT_.out (by kernel_rfl)) (fun _ _ _ h => h) (Or.inl ⟨by rfl, ?_⟩) ?_ ?_
                    rotate_left
                    · intro w'
                      go_simp
                      with_reducible rfl
                    rotate_left
                    · simp only [Act.put, List.setIfInBounds_toArray, List.set_cons_zero, List.set_cons_succ, i64_w, i32_w]
                      rfl
                    refine pure_ (i := 7) (N := some 61) (v := ?_) (a' := ?_) #[true, false, true, false, false, true, false, true, false, false, false, false, false] rfl rfl (any_of HT_.out (by kernel_rfl)) (fun _ _ _ h => h) (Or.inl ⟨by rfl, ?_⟩) ?_ ?_
                    rotate_left
                    · intro w'
                      go_simp
                      with_reducible rfl
                    rotate_left
                    · simp only [Act.put, List.setIfInBounds_toArray, List.set_cons_zero, List.set_cons_succ, i64_w, i32_w]
                      rfl
                    refine pure_ (i := 10) (N := some 64) (v := ?_) (a' := ?_) #[true, false, true, false, false, true, false, true, false, false, true, false, false] rfl rfl (any_of HT_.out (by kernel_rfl)) (fun _ _ _ h => h) (Or.inl ⟨by rfl, ?_⟩) ?_ ?_
                    rotate_left
                    · intro w'
                      go_simp
                      with_reducible rfl
                    rotate_left
                    · simp only [Act.put, List.setIfInBounds_toArray, List.set_cons_zero, List.set_cons_succ, i64_w, i32_w]
                      rfl
                    refine take_ (i := 1) (N := some 55) (v := ?_) (a' := ?_) #[true, true, true, false, false, true, false, true, false, false, true, false, false] rfl rfl (take_ofW HT_.out HW_.out (by kernel_rfl)) (fun _ _ _ h => h) (Or.inl ⟨by rfl, ?_⟩) hHeld ?_ ?_
                    rotate_left
                    · rintro w' ⟨s0, s1, s2, s3, s4, s5, s6, s7, s8, s9, s10, s11, s12, s13, s14, s15, s16, s17, s18, s19⟩
                      go_simp
                      with_reducible rfl
                    rotate_left
                    · simp only [Act.put, List.setIfInBounds_toArray, List.set_cons_zero, List.set_cons_succ, i64_w, i32_w]
                      rfl
                    refine pure_ (i := 3) (N := some 57) (v := ?_) (a' := ?_) #[true, true, true, true, false, true, false, true, false, false, true, false, false] rfl rfl (any_of HT_.out (by kernel_rfl)) (fun _ _ _ h => h) (Or.inl ⟨by rfl, ?_⟩) ?_ ?_
                    rotate_left
                    · intro w'
                      go_simp
                      with_reducible rfl
                    rotate_left
                    · simp only [Act.put, List.setIfInBounds_toArray, List.set_cons_zero, List.set_cons_succ, i64_w, i32_w]
                      rfl
                    refine take_ (i := 4) (N := some 58) (v := ?_) (a' := ?_) #[true, true, true, true, true, true, false, true, false, false, true, false, false] rfl rfl (take_ofW HT_.out HW_.out (by kernel_rfl)) (fun _ _ _ h => h) (Or.inl ⟨by rfl, ?_⟩) hHeld ?_ ?_
                    rotate_left
                    · rintro w' ⟨s0, s1, s2, s3, s4, s5, s6, s7, s8, s9, s10, s11, s12, s13, s14, s15, s16, s17, s18, s19⟩
                      go_simp
                      with_reducible rfl
                    rotate_left
                    · simp only [Act.put, List.setIfInBounds_toArray, List.set_cons_zero, List.set_cons_succ, i64_w, i32_w]
                      rfl
                    refine take_ (i := 6) (N := some 60) (v := ?_) (a' := ?_) #[true, true, true, true, true, true, true, true, false, false, true, false, false] rfl rfl (take_ofW HT_.out HW_.out (by kernel_rfl)) (fun _ _ _ h => h) (Or.inl ⟨by rfl, ?_⟩) hHeld ?_ ?_
                    rotate_left
                    · rintro w' ⟨s0, s1, s2, s3, s4, s5, s6, s7, s8, s9, s10, s11, s12, s13, s14, s15, s16, s17, s18, s19⟩
                      go_simp
                      with_reducible rfl
                    rotate_left
                    · simp only [Act.put, List.setIfInBounds_toArray, List.set_cons_zero, List.set_cons_succ, i64_w, i32_w]
                      rfl
                    refine pure_ (i := 8) (N := some 62) (v := ?_) (a' := ?_) #[true, true, true, true, true, true, true, true, true, false, true, false, false] rfl rfl (any_of HT_.out (by kernel_rfl)) (fun _ _ _ h => h) (Or.inl ⟨by rfl, ?_⟩) ?_ ?_
                    rotate_left
                    · intro w'
                      go_simp
                      with_reducible rfl
                    rotate_left
                    · simp only [Act.put, List.setIfInBounds_toArray, List.set_cons_zero, List.set_cons_succ, i64_w, i32_w]
                      rfl
                    refine take_ (i := 9) (N := some 63) (v := ?_) (a' := ?_) #[true, true, true, true, true, true, true, true, true, true, true, false, false] rfl rfl (take_ofW HT_.out HW_.out (by kernel_rfl)) (fun _ _ _ h => h) (Or.inl ⟨by rfl, ?_⟩) hHeld ?_ ?_
                    rotate_left
                    · rintro w' ⟨s0, s1, s2, s3, s4, s5, s6, s7, s8, s9, s10, s11, s12, s13, s14, s15, s16, s17, s18, s19⟩
                      go_simp
                      with_reducible rfl
                    rotate_left
                    · simp only [Act.put, List.setIfInBounds_toArray, List.set_cons_zero, List.set_cons_succ, i64_w, i32_w]
                      rfl
                    refine one_ (i := 11) (N := some 65) #[true, true, true, true, true, true, true, true, true, true, true, true, false] rfl rfl (one_of HT_.out (by kernel_rfl)) (by decide) (fun K hK => ?_)
                    refine goes_ Tryd.func10 (by kernel_rfl) rfl #[.agg #[.string ((rd_T25 l0_4 x7_2).f0), .string ((rd_T25 l0_4 x7_2).f1), .int .i64 ((rd_T25 l0_4 x7_2).f2), .int .i64 ((rd_T25 l0_4 x7_2).f3), .slice A203_4 ((rd_T25 l0_4 x7_2).f4).length c203_4], .agg #[.string ((rd_T25 l1_4 x7_2).f0), .string ((rd_T25 l1_4 x7_2).f1), .int .i64 ((rd_T25 l1_4 x7_2).f2), .int .i64 ((rd_T25 l1_4 x7_2).f3), .slice A204_4 ((rd_T25 l1_4 x7_2).f4).length c204_4], .bool a2] (by rfl) rfl rfl (by (try simp only [List.map_toArray, List.map_cons, List.map_nil]); first | done | rfl | (simp only [List.length_drop, List.length_take]; rfl)) ?_
                    with_reducible refine (ih k2 (by have := HJ3.out; have := HK2.out; omega) ((rd_T25 l0_4 x7_2).f0) ((rd_T25 l0_4 x7_2).f1) ((rd_T25 l0_4 x7_2).f2) ((rd_T25 l0_4 x7_2).f3) _ _ ((rd_T25 l0_4 x7_2).f4) ((rd_T25 l1_4 x7_2).f0) ((rd_T25 l1_4 x7_2).f1) ((rd_T25 l1_4 x7_2).f2) ((rd_T25 l1_4 x7_2).f3) _ _ ((rd_T25 l1_4 x7_2).f4) a2 true _ ?side1 ?side2 ?side3 ?side4 A34.out).mono ?_
                    (case side1 => repeat (first | exact (Kd.C_below HR203_4.out HB.out) | (with_reducible refine Kd.C_alloc ?_ _) | (with_reducible refine Kd.C_drewN ?_ _) | (with_reducible refine Kd.C_drew ?_)))
                    (case side2 => exact HC203_4.out)
                    (case side3 => repeat (first | exact (Kd.C_below HR204_4.out HB.out) | (with_reducible refine Kd.C_alloc ?_ _) | (with_reducible refine Kd.C_drewN ?_ _) | (with_reducible refine Kd.C_drew ?_)))
                    (case side4 => exact HC204_4.out)
                    rintro e w39 ⟨rfl, hb⟩
                    refine ⟨_, rfl, ?_⟩
                    have n0_ := Aside0.mk (blk_below (g := gb201) (o := .cells #[.string a0_0, .string a0_1, .int .i64 a0_2, .int .i64 a0_3, .slice (some ad203) l0_4.length c0_4] 25 (0, 0)) (by (with_reducible repeat (first | refine blk_drewN ?_ _ | refine blk_drew ?_ | refine blk_alloc ?_ _)); exact BK201.out) hb)
                    have n1_ := Aside0.mk (blk_below (g := gb202) (o := .cells #[.string a1_0, .string a1_1, .int .i64 a1_2, .int .i64 a1_3, .slice (some ad204) l1_4.length c1_4] 25 (0, 0)) (by (with_reducible repeat (first | refine blk_drewN ?_ _ | refine blk_drew ?_ | refine blk_alloc ?_ _)); exact BK202.out) hb)
                    have n2_ := Aside0.mk (below_step (by repeat (first | (with_reducible first | exact HB.out | apply below_alloc | apply pw_below_drewN | apply below_drew1 | refine below_set ?_ GE201.out | refine below_set ?_ GE202.out) | exact HB.out)) hb)
                    clear BK201
                    clear BK202
                    clear HB
                    have BK201 := n0_
                    have BK202 := n1_
                    have HB := n2_
                    clear n0_ n1_ n2_
                    (try clear hb)
                    (try clear hb2)
                    (try clear hk)
                    (try clear hi)
                    refine hK.out _ _ ⟨(blk_cell BK201.out 0).trans rfl, (blk_cell BK201.out 1).trans rfl, (blk_cell BK201.out 2).trans rfl, (blk_cell BK201.out 3).trans rfl, (blk_cell BK201.out 4).trans rfl, (blk_cell BK202.out 0).trans rfl, (blk_cell BK202.out 1).trans rfl, (blk_cell BK202.out 2).trans rfl, (blk_cell BK202.out 3).trans rfl, (blk_cell BK202.out 4).trans rfl, ((HB.out.cell (World.block_lt_of_cell? w _ hw203_0)).trans hw203_0), ((HB.out.cell (World.block_lt_of_cell? w _ hw203_1)).trans hw203_1), ((HB.out.cell (World.block_lt_of_cell? w _ hw203_2)).trans hw203_2), ((HB.out.cell (World.block_lt_of_cell? w _ hw203_3)).trans hw203_3), ((HB.out.cell (World.block_lt_of_cell? w _ hw203_4)).trans hw203_4), ((HB.out.cell (World.block_lt_of_cell? w _ hw204_0)).trans hw204_0), ((HB.out.cell (World.block_lt_of_cell? w _ hw204_1)).trans hw204_1), ((HB.out.cell (World.block_lt_of_cell? w _ hw204_2)).trans hw204_2), ((HB.out.cell (World.block_lt_of_cell? w _ hw204_3)).trans hw204_3), ((HB.out.cell (World.block_lt_of_cell? w _ hw204_4)).trans hw204_4)⟩ (fun hHeld => ?_)
                    clear hK K
                    refine norm_ (a' := ?_) ?_ ?_
                    rotate_left
                    · show Act.put _ (some 65) _ = _
                      simp only [Act.put, List.setIfInBounds_toArray, List.set_cons_zero, List.set_cons_succ, i64_w, i32_w]
                      rfl
                    refine pure_ (i := 12) (N := some 8) (v := ?_) (a' := ?_) #[true, true, true, true, true, true, true, true, true, true, true, true, true] rfl rfl (any_of HT_.out (by kernel_rfl)) (fun _ _ _ h => h) (Or.inl ⟨by rfl, ?_⟩) ?_ ?_
                    rotate_left
                    · intro w'
                      go_simp
                      with_reducible rfl
                    rotate_left
                    · simp only [Act.put, List.setIfInBounds_toArray, List.set_cons_zero, List.set_cons_succ, i64_w, i32_w]
                      rfl
                    refine done_ (done_of HT_.out (by kernel_rfl)) ?_
                    try go_wp2
                    go_roundg k2
                    case measure => have := HJ3.out; have := HK2.out; omega
                    case rel => exact ⟨(wrap64 (x7_2 + 1)), (by first | rfl | (simp; done) | (simp [*]; done)), H', ⟨by have := HJ3.out; have := HK2.out; omega⟩, ⟨by (with_reducible repeat (first | refine blk_drewN ?_ _ | refine blk_drew ?_ | refine blk_alloc ?_ _)); exact BK201.out⟩, ⟨by (with_reducible repeat (first | refine blk_drewN ?_ _ | refine blk_drew ?_ | refine blk_alloc ?_ _)); exact BK202.out⟩, ⟨by repeat (first | (with_reducible first | exact HB.out | apply below_alloc | apply pw_below_drewN | apply below_drew1 | refine below_set ?_ GE201.out | refine below_set ?_ GE202.out) | exact HB.out)⟩⟩
                  · replace c35 := Bool.eq_false_iff.mpr c35
                    subst c35
                    have H1 : (some false) = some r := by rw [if_neg (show ¬ (false = true) by decide)] at H; exact H
                    clear H
                    have H := H1
                    clear H1
                    obtain rfl := Option.some.inj H
                    have hnb40 := NB201_202.out
                    have hnc40 := NB202_201.out
                    have hcz41_0 : wr.cell? ⟨gb201, 0, none⟩ = some (.string a0_0) := (blk_cell BK201.out 0).trans rfl
                    have hcz41_1 : wr.cell? ⟨gb201, 1, none⟩ = some (.string a0_1) := (blk_cell BK201.out 1).trans rfl
                    have hcz41_2 : wr.cell? ⟨gb201, 2, none⟩ = some (.int .i64 a0_2) := (blk_cell BK201.out 2).trans rfl
                    have hcz41_3 : wr.cell? ⟨gb201, 3, none⟩ = some (.int .i64 a0_3) := (blk_cell BK201.out 3).trans rfl
                    have hcz41_4 : wr.cell? ⟨gb201, 4, none⟩ = some (.slice A0_4 l0_4.length c0_4) := (blk_cell BK201.out 4).trans rfl
                    have hfz41_0 := blk_frozen BK201.out 0
                    have hfz41_1 := blk_frozen BK201.out 1
                    have hfz41_2 := blk_frozen BK201.out 2
                    have hfz41_3 := blk_frozen BK201.out 3
                    have hfz41_4 := blk_frozen BK201.out 4
                    try go_wp2
                    have n0_ := Aside0.mk (blk_drew BK201.out)
                    have n1_ := Aside0.mk (blk_drew BK202.out)
                    have n2_ := Aside0.mk (below_drew1 HB.out)
                    clear BK201
                    clear BK202
                    clear HB
                    have BK201 := n0_
                    have BK202 := n1_
                    have HB := n2_
                    clear n0_ n1_ n2_
                    have p203 : 0 ≤ (x7_2 : Int) := of_decide_eq_true (by first | (with_reducible assumption) | assumption)
                    have q203 : x7_2 < (l0_4.length : Int) := of_decide_eq_true (by first | (with_reducible assumption) | assumption)
                    obtain ⟨ad203, A203_4, c203_4, e203, hx203_0, hx203_1, hx203_2, hx203_3, hx203_4, hl203_4, hi203_4⟩ := at_T25 HR0_4.out x7_2 p203 q203
                    have hw203_4 := hx203_4
                    have hw203_3 := hx203_3
                    have hw203_2 := hx203_2
                    have hw203_1 := hx203_1
                    have hw203_0 := hx203_0
                    cases e203
                    replace hx203_0 := (HB.out.cell (World.block_lt_of_cell? w _ hx203_0)).trans hx203_0
                    replace hx203_1 := (HB.out.cell (World.block_lt_of_cell? w _ hx203_1)).trans hx203_1
                    replace hx203_2 := (HB.out.cell (World.block_lt_of_cell? w _ hx203_2)).trans hx203_2
                    replace hx203_3 := (HB.out.cell (World.block_lt_of_cell? w _ hx203_3)).trans hx203_3
                    replace hx203_4 := (HB.out.cell (World.block_lt_of_cell? w _ hx203_4)).trans hx203_4
                    have HR203_4 := Aside0.mk hi203_4
                    have HC203_4 := Aside0.mk hl203_4
                    clear hi203_4 hl203_4
                    replace p203 := eq_true p203
                    replace q203 := eq_true q203
                    have p204 : 0 ≤ (x7_2 : Int) := of_decide_eq_true (by first | (with_reducible assumption) | assumption)
                    have q204 : x7_2 < (l1_4.length : Int) := of_decide_eq_true (by first | (with_reducible assumption) | assumption)
                    obtain ⟨ad204, A204_4, c204_4, e204, hx204_0, hx204_1, hx204_2, hx204_3, hx204_4, hl204_4, hi204_4⟩ := at_T25 HR1_4.out x7_2 p204 q204
                    have hw204_4 := hx204_4
                    have hw204_3 := hx204_3
                    have hw204_2 := hx204_2
                    have hw204_1 := hx204_1
                    have hw204_0 := hx204_0
                    cases e204
                    replace hx204_0 := (HB.out.cell (World.block_lt_of_cell? w _ hx204_0)).trans hx204_0
                    replace hx204_1 := (HB.out.cell (World.block_lt_of_cell? w _ hx204_1)).trans hx204_1
                    replace hx204_2 := (HB.out.cell (World.block_lt_of_cell? w _ hx204_2)).trans hx204_2
                    replace hx204_3 := (HB.out.cell (World.block_lt_of_cell? w _ hx204_3)).trans hx204_3
                    replace hx204_4 := (HB.out.cell (World.block_lt_of_cell? w _ hx204_4)).trans hx204_4
                    have HR204_4 := Aside0.mk hi204_4
                    have HC204_4 := Aside0.mk hl204_4
                    clear hi204_4 hl204_4
                    replace p204 := eq_true p204
                    replace q204 := eq_true q204
                    refine start_ (n := 13) (S := fun w' => w'.cell? ⟨gb201, 0, none⟩ = some (.string a0_0) ∧ w'.cell? ⟨gb201, 1, none⟩ = some (.string a0_1) ∧ w'.cell? ⟨gb201, 2, none⟩ = some (.int .i64 a0_2) ∧ w'.cell? ⟨gb201, 3, none⟩ = some (.int .i64 a0_3) ∧ w'.cell? ⟨gb201, 4, none⟩ = some (.slice (some ad203) l0_4.length c0_4) ∧ w'.cell? ⟨gb202, 0, none⟩ = some (.string a1_0) ∧ w'.cell? ⟨gb202, 1, none⟩ = some (.string a1_1) ∧ w'.cell? ⟨gb202, 2, none⟩ = some (.int .i64 a1_2) ∧ w'.cell? ⟨gb202, 3, none⟩ = some (.int .i64 a1_3) ∧ w'.cell? ⟨gb202, 4, none⟩ = some (.slice (some ad204) l1_4.length c1_4) ∧ w'.cell? (ad203.add ((x7_2).toNat * 5)) = some (.string ((rd_T25 l0_4 x7_2).f0)) ∧ w'.cell? ⟨(ad203.add ((x7_2).toNat * 5)).block, (ad203.add ((x7_2).toNat * 5)).off + 1, none⟩ = some (.string ((rd_T25 l0_4 x7_2).f1)) ∧ w'.cell? ⟨(ad203.add ((x7_2).toNat * 5)).block, (ad203.add ((x7_2).toNat * 5)).off + 2, none⟩ = some (.int .i64 ((rd_T25 l0_4 x7_2).f2)) ∧ w'.cell? ⟨(ad203.add ((x7_2).toNat * 5)).block, (ad203.add ((x7_2).toNat * 5)).off + 3, none⟩ = some (.int .i64 ((rd_T25 l0_4 x7_2).f3)) ∧ w'.cell? ⟨(ad203.add ((x7_2).toNat * 5)).block, (ad203.add ((x7_2).toNat * 5)).off + 4, none⟩ = some (.slice A203_4 ((rd_T25 l0_4 x7_2).f4).length c203_4) ∧ w'.cell? (ad204.add ((x7_2).toNat * 5)) = some (.string ((rd_T25 l1_4 x7_2).f0)) ∧ w'.cell? ⟨(ad204.add ((x7_2).toNat * 5)).block, (ad204.add ((x7_2).toNat * 5)).off + 1, none⟩ = some (.string ((rd_T25 l1_4 x7_2).f1)) ∧ w'.cell? ⟨(ad204.add ((x7_2).toNat * 5)).block, (ad204.add ((x7_2).toNat * 5)).off + 2, none⟩ = some (.int .i64 ((rd_T25 l1_4 x7_2).f2)) ∧ w'.cell? ⟨(ad204.add ((x7_2).toNat * 5)).block, (ad204.add ((x7_2).toNat * 5)).off + 3, none⟩ = some (.int .i64 ((rd_T25 l1_4 x7_2).f3)) ∧ w'.cell? ⟨(ad204.add ((x7_2).toNat * 5)).block, (ad204.add ((x7_2).toNat * 5)).off + 4, none⟩ = some (.slice A204_4 ((rd_T25 l1_4 x7_2).f4).length c204_4)) (ds := []) #[false, false, false, false, false, false, false, false, false, false, false, false, false] (by kernel_rfl) rfl rfl ⟨(blk_cell BK201.out 0).trans rfl, (blk_cell BK201.out 1).trans rfl, (blk_cell BK201.out 2).trans rfl, (blk_cell BK201.out 3).trans rfl, (blk_cell BK201.out 4).trans rfl, (blk_cell BK202.out 0).trans rfl, (blk_cell BK202.out 1).trans rfl, (blk_cell BK202.out 2).trans rfl, (blk_cell BK202.out 3).trans rfl, (blk_cell BK202.out 4).trans rfl, ((HB.out.cell (World.block_lt_of_cell? w _ hw203_0)).trans hw203_0), ((HB.out.cell (World.block_lt_of_cell? w _ hw203_1)).trans hw203_1), ((HB.out.cell (World.block_lt_of_cell? w _ hw203_2)).trans hw203_2), ((HB.out.cell (World.block_lt_of_cell? w _ hw203_3)).trans hw203_3), ((HB.out.cell (World.block_lt_of_cell? w _ hw203_4)).trans hw203_4), ((HB.out.cell (World.block_lt_of_cell? w _ hw204_0)).trans hw204_0), ((HB.out.cell (World.block_lt_of_cell? w _ hw204_1)).trans hw204_1), ((HB.out.cell (World.block_lt_of_cell? w _ hw204_2)).trans hw204_2), ((HB.out.cell (World.block_lt_of_cell? w _ hw204_3)).trans hw204_3), ((HB.out.cell (World.block_lt_of_cell? w _ hw204_4)).trans hw204_4)⟩ (fun hHeld => ?_); refine with_tabW cofferdamref11_Same.tab6 cofferdamref11_Same.bits6 (fun HT_ HW_ => ?_)
                    generalize wr.drew = w42 at BK201 BK202 HB HR203_4 HR204_4 hx203_0 hx203_1 hx203_2 hx203_3 hx203_4 hx204_0 hx204_1 hx204_2 hx204_3 hx204_4 hHeld ⊢
                    refine pure_ (i := 0) (N := some 54) (v := ?_) (a' := ?_) #[true, false, false, false, false, false, false, false, false, false, false, false, false] rfl rfl (any_of HT_.out (by kernel_rfl)) (fun _ _ _ h => h) (Or.inl ⟨by rfl, ?_⟩) ?_ ?_
                    rotate_left
                    · intro w'
                      go_simp
                      with_reducible rfl
                    rotate_left
                    · simp only [Act.put, List.setIfInBounds_toArray, List.set_cons_zero, List.set_cons_succ, i64_w, i32_w]
                      rfl
                    refine pure_ (i := 2) (N := some 56) (v := ?_) (a' := ?_) #[true, false, true, false, false, false, false, false, false, false, false, false, false] rfl rfl (any_of HT_.out (by kernel_rfl)) (fun _ _ _ h => h) (Or.inl ⟨by rfl, ?_⟩) ?_ ?_
                    rotate_left
                    · intro w'
                      go_simp
                      with_reducible rfl
                    rotate_left
                    · simp only [Act.put, List.setIfInBounds_toArray, List.set_cons_zero, List.set_cons_succ, i64_w, i32_w]
                      rfl
                    refine pure_ (i := 5) (N := some 59) (v := ?_) (a' := ?_) #[true, false, true, false, false, true, false, false, false, false, false, false, false] rfl rfl (any_of HT_.out (by kernel_rfl)) (fun _ _ _ h => h) (Or.inl ⟨by rfl, ?_⟩) ?_ ?_
                    rotate_left
                    · intro w'
                      go_simp
                      with_reducible rfl
                    rotate_left
                    · simp only [Act.put, List.setIfInBounds_toArray, List.set_cons_zero, List.set_cons_succ, i64_w, i32_w]
                      rfl
                    refine pure_ (i := 7) (N := some 61) (v := ?_) (a' := ?_) #[true, false, true, false, false, true, false, true, false, false, false, false, false] rfl rfl (any_of HT_.out (by kernel_rfl)) (fun _ _ _ h => h) (Or.inl ⟨by rfl, ?_⟩) ?_ ?_
                    rotate_left
                    · intro w'
                      go_simp
                      with_reducible rfl
                    rotate_left
                    · simp only [Act.put, List.setIfInBounds_toArray, List.set_cons_zero, List.set_cons_succ, i64_w, i32_w]
                      rfl
                    refine pure_ (i := 10) (N := some 64) (v := ?_) (a' := ?_) #[true, false, true, false, false, true, false, true, false, false, true, false, false] rfl rfl (any_of HT_.out (by kernel_rfl)) (fun _ _ _ h => h) (Or.inl ⟨by rfl, ?_⟩) ?_ ?_
                    rotate_left
                    · intro w'
                      go_simp
                      with_reducible rfl
                    rotate_left
                    · simp only [Act.put, List.setIfInBounds_toArray, List.set_cons_zero, List.set_cons_succ, i64_w, i32_w]
                      rfl
                    refine take_ (i := 1) (N := some 55) (v := ?_) (a' := ?_) #[true, true, true, false, false, true, false, true, false, false, true, false, false] rfl rfl (take_ofW HT_.out HW_.out (by kernel_rfl)) (fun _ _ _ h => h) (Or.inl ⟨by rfl, ?_⟩) hHeld ?_ ?_
                    rotate_left
                    · rintro w' ⟨s0, s1, s2, s3, s4, s5, s6, s7, s8, s9, s10, s11, s12, s13, s14, s15, s16, s17, s18, s19⟩
                      go_simp
                      with_reducible rfl
                    rotate_left
                    · simp only [Act.put, List.setIfInBounds_toArray, List.set_cons_zero, List.set_cons_succ, i64_w, i32_w]
                      rfl
                    refine pure_ (i := 3) (N := some 57) (v := ?_) (a' := ?_) #[true, true, true, true, false, true, false, true, false, false, true, false, false] rfl rfl (any_of HT_.out (by kernel_rfl)) (fun _ _ _ h => h) (Or.inl ⟨by rfl, ?_⟩) ?_ ?_
                    rotate_left
                    · intro w'
                      go_simp
                      with_reducible rfl
                    rotate_left
                    · simp only [Act.put, List.setIfInBounds_toArray, List.set_cons_zero, List.set_cons_succ, i64_w, i32_w]
                      rfl
                    refine take_ (i := 4) (N := some 58) (v := ?_) (a' := ?_) #[true, true, true, true, true, true, false, true, false, false, true, false, false] rfl rfl (take_ofW HT_.out HW_.out (by kernel_rfl)) (fun _ _ _ h => h) (Or.inl ⟨by rfl, ?_⟩) hHeld ?_ ?_
                    rotate_left
                    · rintro w' ⟨s0, s1, s2, s3, s4, s5, s6, s7, s8, s9, s10, s11, s12, s13, s14, s15, s16, s17, s18, s19⟩
                      go_simp
                      with_reducible rfl
                    rotate_left
                    · simp only [Act.put, List.setIfInBounds_toArray, List.set_cons_zero, List.set_cons_succ, i64_w, i32_w]
                      rfl
                    refine take_ (i := 6) (N := some 60) (v := ?_) (a' := ?_) #[true, true, true, true, true, true, true, true, false, false, true, false, false] rfl rfl (take_ofW HT_.out HW_.out (by kernel_rfl)) (fun _ _ _ h => h) (Or.inl ⟨by rfl, ?_⟩) hHeld ?_ ?_
                    rotate_left
                    · rintro w' ⟨s0, s1, s2, s3, s4, s5, s6, s7, s8, s9, s10, s11, s12, s13, s14, s15, s16, s17, s18, s19⟩
                      go_simp
                      with_reducible rfl
                    rotate_left
                    · simp only [Act.put, List.setIfInBounds_toArray, List.set_cons_zero, List.set_cons_succ, i64_w, i32_w]
                      rfl
                    refine pure_ (i := 8) (N := some 62) (v := ?_) (a' := ?_) #[true, true, true, true, true, true, true, true, true, false, true, false, false] rfl rfl (any_of HT_.out (by kernel_rfl)) (fun _ _ _ h => h) (Or.inl ⟨by rfl, ?_⟩) ?_ ?_
                    rotate_left
                    · intro w'
                      go_simp
                      with_reducible rfl
                    rotate_left
                    · simp only [Act.put, List.setIfInBounds_toArray, List.set_cons_zero, List.set_cons_succ, i64_w, i32_w]
                      rfl
                    refine take_ (i := 9) (N := some 63) (v := ?_) (a' := ?_) #[true, true, true, true, true, true, true, true, true, true, true, false, false] rfl rfl (take_ofW HT_.out HW_.out (by kernel_rfl)) (fun _ _ _ h => h) (Or.inl ⟨by rfl, ?_⟩) hHeld ?_ ?_
                    rotate_left
                    · rintro w' ⟨s0, s1, s2, s3, s4, s5, s6, s7, s8, s9, s10, s11, s12, s13, s14, s15, s16, s17, s18, s19⟩
                      go_simp
                      with_reducible rfl
                    rotate_left
                    · simp only [Act.put, List.setIfInBounds_toArray, List.set_cons_zero, List.set_cons_succ, i64_w, i32_w]
                      rfl
                    refine one_ (i := 11) (N := some 65) #[true, true, true, true, true, true, true, true, true, true, true, true, false] rfl rfl (one_of HT_.out (by kernel_rfl)) (by decide) (fun K hK => ?_)
                    refine goes_ Tryd.func10 (by kernel_rfl) rfl #[.agg #[.string ((rd_T25 l0_4 x7_2).f0), .string ((rd_T25 l0_4 x7_2).f1), .int .i64 ((rd_T25 l0_4 x7_2).f2), .int .i64 ((rd_T25 l0_4 x7_2).f3), .slice A203_4 ((rd_T25 l0_4 x7_2).f4).length c203_4], .agg #[.string ((rd_T25 l1_4 x7_2).f0), .string ((rd_T25 l1_4 x7_2).f1), .int .i64 ((rd_T25 l1_4 x7_2).f2), .int .i64 ((rd_T25 l1_4 x7_2).f3), .slice A204_4 ((rd_T25 l1_4 x7_2).f4).length c204_4], .bool a2] (by rfl) rfl rfl (by (try simp only [List.map_toArray, List.map_cons, List.map_nil]); first | done | rfl | (simp only [List.length_drop, List.length_take]; rfl)) ?_
                    with_reducible refine (ih k2 (by have := HJ3.out; have := HK2.out; omega) ((rd_T25 l0_4 x7_2).f0) ((rd_T25 l0_4 x7_2).f1) ((rd_T25 l0_4 x7_2).f2) ((rd_T25 l0_4 x7_2).f3) _ _ ((rd_T25 l0_4 x7_2).f4) ((rd_T25 l1_4 x7_2).f0) ((rd_T25 l1_4 x7_2).f1) ((rd_T25 l1_4 x7_2).f2) ((rd_T25 l1_4 x7_2).f3) _ _ ((rd_T25 l1_4 x7_2).f4) a2 false _ ?side1 ?side2 ?side3 ?side4 A34.out).mono ?_
                    (case side1 => repeat (first | exact (Kd.C_below HR203_4.out HB.out) | (with_reducible refine Kd.C_alloc ?_ _) | (with_reducible refine Kd.C_drewN ?_ _) | (with_reducible refine Kd.C_drew ?_)))
                    (case side2 => exact HC203_4.out)
                    (case side3 => repeat (first | exact (Kd.C_below HR204_4.out HB.out) | (with_reducible refine Kd.C_alloc ?_ _) | (with_reducible refine Kd.C_drewN ?_ _) | (with_reducible refine Kd.C_drew ?_)))
                    (case side4 => exact HC204_4.out)
                    rintro e w43 ⟨rfl, hb⟩
                    refine ⟨_, rfl, ?_⟩
                    have n0_ := Aside0.mk (blk_below (g := gb201) (o := .cells #[.string a0_0, .string a0_1, .int .i64 a0_2, .int .i64 a0_3, .slice (some ad203) l0_4.length c0_4] 25 (0, 0)) (by (with_reducible repeat (first | refine blk_drewN ?_ _ | refine blk_drew ?_ | refine blk_alloc ?_ _)); exact BK201.out) hb)
                    have n1_ := Aside0.mk (blk_below (g := gb202) (o := .cells #[.string a1_0, .string a1_1, .int .i64 a1_2, .int .i64 a1_3, .slice (some ad204) l1_4.length c1_4] 25 (0, 0)) (by (with_reducible repeat (first | refine blk_drewN ?_ _ | refine blk_drew ?_ | refine blk_alloc ?_ _)); exact BK202.out) hb)
                    have n2_ := Aside0.mk (below_step (by repeat (first | (with_reducible first | exact HB.out | apply below_alloc | apply pw_below_drewN | apply below_drew1 | refine below_set ?_ GE201.out | refine below_set ?_ GE202.out) | exact HB.out)) hb)
                    clear BK201
                    clear BK202
                    clear HB
                    have BK201 := n0_
                    have BK202 := n1_
                    have HB := n2_
                    clear n0_ n1_ n2_
                    (try clear hb)
                    (try clear hb2)
                    (try clear hk)
                    (try clear hi)
                    refine hK.out _ _ ⟨(blk_cell BK201.out 0).trans rfl, (blk_cell BK201.out 1).trans rfl, (blk_cell BK201.out 2).trans rfl, (blk_cell BK201.out 3).trans rfl, (blk_cell BK201.out 4).trans rfl, (blk_cell BK202.out 0).trans rfl, (blk_cell BK202.out 1).trans rfl, (blk_cell BK202.out 2).trans rfl, (blk_cell BK202.out 3).trans rfl, (blk_cell BK202.out 4).trans rfl, ((HB.out.cell (World.block_lt_of_cell? w _ hw203_0)).trans hw203_0), ((HB.out.cell (World.block_lt_of_cell? w _ hw203_1)).trans hw203_1), ((HB.out.cell (World.block_lt_of_cell? w _ hw203_2)).trans hw203_2), ((HB.out.cell (World.block_lt_of_cell? w _ hw203_3)).trans hw203_3), ((HB.out.cell (World.block_lt_of_cell? w _ hw203_4)).trans hw203_4), ((HB.out.cell (World.block_lt_of_cell? w _ hw204_0)).trans hw204_0), ((HB.out.cell (World.block_lt_of_cell? w _ hw204_1)).trans hw204_1), ((HB.out.cell (World.block_lt_of_cell? w _ hw204_2)).trans hw204_2), ((HB.out.cell (World.block_lt_of_cell? w _ hw204_3)).trans hw204_3), ((HB.out.cell (World.block_lt_of_cell? w _ hw204_4)).trans hw204_4)⟩ (fun hHeld => ?_)
                    clear hK K
                    refine norm_ (a' := ?_) ?_ ?_
                    rotate_left
                    · show Act.put _ (some 65) _ = _
                      simp only [Act.put, List.setIfInBounds_toArray, List.set_cons_zero, List.set_cons_succ, i64_w, i32_w]
                      rfl
                    refine pure_ (i := 12) (N := some 8) (v := ?_) (a' := ?_) #[true, true, true, true, true, true, true, true, true, true, true, true, true] rfl rfl (any_of HT_.out (by kernel_rfl)) (fun _ _ _ h => h) (Or.inl ⟨by rfl, ?_⟩) ?_ ?_
                    rotate_left
                    · intro w'
                      go_simp
                      with_reducible rfl
                    rotate_left
                    · simp only [Act.put, List.setIfInBounds_toArray, List.set_cons_zero, List.set_cons_succ, i64_w, i32_w]
                      rfl
                    refine done_ (done_of HT_.out (by kernel_rfl)) ?_
                    try go_wp2
                    go_ret
                    exact ⟨by first | rfl | (simp [errW_none, errW_some] <;> rfl) | (simp [*, errW_none, errW_some] <;> rfl), by repeat (first | (with_reducible first | exact HB.out | apply below_alloc | apply pw_below_drewN | apply below_drew1 | refine below_set ?_ GE201.out | refine below_set ?_ GE202.out) | exact HB.out)⟩
                · rw [if_neg c33] at H
                  exact absurd H (by simp)
              · rw [if_neg c32] at H
                exact absurd H (by simp)
            · rw [if_neg c31] at H
              have c31b0 : decide (x7_2 < (l0_4.length : Int)) = false := decide_eq_false c31
              clear c31
              obtain rfl := Option.some.inj H
              have hnb44 := NB201_202.out
              have hnc44 := NB202_201.out
              have hcz45_0 : wr.cell? ⟨gb201, 0, none⟩ = some (.string a0_0) := (blk_cell BK201.out 0).trans rfl
              have hcz45_1 : wr.cell? ⟨gb201, 1, none⟩ = some (.string a0_1) := (blk_cell BK201.out 1).trans rfl
              have hcz45_2 : wr.cell? ⟨gb201, 2, none⟩ = some (.int .i64 a0_2) := (blk_cell BK201.out 2).trans rfl
              have hcz45_3 : wr.cell? ⟨gb201, 3, none⟩ = some (.int .i64 a0_3) := (blk_cell BK201.out 3).trans rfl
              have hcz45_4 : wr.cell? ⟨gb201, 4, none⟩ = some (.slice A0_4 l0_4.length c0_4) := (blk_cell BK201.out 4).trans rfl
              have hfz45_0 := blk_frozen BK201.out 0
              have hfz45_1 := blk_frozen BK201.out 1
              have hfz45_2 := blk_frozen BK201.out 2
              have hfz45_3 := blk_frozen BK201.out 3
              have hfz45_4 := blk_frozen BK201.out 4
              go_wp2
              go_ret
              exact ⟨by first | rfl | (simp [errW_none, errW_some] <;> rfl) | (simp [*, errW_none, errW_some] <;> rfl), by repeat (first | (with_reducible first | exact HB.out | apply below_alloc | apply pw_below_drewN | apply below_drew1 | refine below_set ?_ GE201.out | refine below_set ?_ GE202.out) | exact HB.out)⟩

end Go.Proofs.YtknbfhhmjbnemaaDoor.P
end
