/- Proved here, for the claim of parsePrints_holds: what it is made of: the texts of this work, one behind the other, laid by a program of this session. Conditions: none beside the statement's own. -/
import Derived.Test.YtknbfhhmjbnemaaDoorMP1
import Derived.Test.YtknbfhhmjbnemaaDoorMP4
import Derived.Test.YtknbfhhmjbnemaaDoorMPPrintsA
import Derived.Deep.Slices
import Derived.OpenShut
import Derived.ChangeArms
import Derived.Deep.Strs
import Derived.SizedLaws
set_option linter.unusedVariables false
set_option linter.unusedSimpArgs false
section
namespace Go.Proofs.YtknbfhhmjbnemaaDoor.P
open Go.RowKit Go.Proofs.YtknbfhhmjbnemaaDoorW.PrintWords Go.Proofs.YtknbfhhmjbnemaaDoorW.PrintLast Go.Proofs.YtknbfhhmjbnemaaDoorW.PrintMore
attribute [local go_sem] xB9 xBe

/-! ### xA9: function 27 -/
mutual
def xA9.j0 : Nat → ByteArray → Bool → ByteArray → ByteArray → Int → Int → List (S25) → Option (Bool)
 | 0, _, _, _, _, _, _, _ => none
 | k + 1, x10, x11, x564000, x564001, x564002, x564003, x564004 => if x11 = true then (if (x564004.length : Int) = 0 then (if x564002 ≥ 0 then (some (decide (x564002 ≤ 999999999))) else (some false)) else (some false)) else (if x10.toList = ([107, 101, 121] : List UInt8) then (xA9.j1 k x10 (x10.toList == ([107, 101, 121] : List UInt8)) x564000 x564001 x564002 x564003 x564004) else (xA9.j1 k x10 (x10.toList == ([114, 111, 111, 116] : List UInt8)) x564000 x564001 x564002 x564003 x564004))
def xA9.j1 : Nat → ByteArray → Bool → ByteArray → ByteArray → Int → Int → List (S25) → Option (Bool)
 | 0, _, _, _, _, _, _, _ => none
 | k + 1, x10, x28, x564000, x564001, x564002, x564003, x564004 => if x28 = true then (if x564002 = 0 then (if (x564004.length : Int) = 1 then (if 0 < (x564004.length : Int) then ((xAf.f k ((xA2 x564004 0).f0) ((xA2 x564004 0).f1) ((xA2 x564004 0).f2) ((xA2 x564004 0).f3) ((xA2 x564004 0).f4) (⟨#[104, 101, 120]⟩ : ByteArray)).bind fun t566 => (some t566)) else (none)) else (some false)) else (some false)) else (if x10.toList = ([118, 111, 108, 117, 109, 101] : List UInt8) then (if x564002 = 0 then (if (x564004.length : Int) = 1 then (if 0 < (x564004.length : Int) then ((xA3.f k ((xA2 x564004 0).f0) ((xA2 x564004 0).f1) ((xA2 x564004 0).f2) ((xA2 x564004 0).f3) ((xA2 x564004 0).f4) 1).bind fun t568 => (some t568)) else (none)) else (some false)) else (some false)) else (if x10.toList = ([101, 120, 112, 111, 114, 116] : List UInt8) then (if (x564004.length : Int) = 0 then (if x564002 = 0 then (some true) else (some (x564002 == 1))) else (some false)) else (some false)))
end
def xA9.f (k : Nat) (a0_0 : ByteArray) (a0_1 : ByteArray) (a0_2 : Int) (a0_3 : Int) (l0_4 : List (S25)) : Option (Bool) := (xB5.f k a0_1).bind fun t564 => (if t564 = true then (if a0_0.toList = ([100, 101, 118, 105, 99, 101] : List UInt8) then (xA9.j0 k a0_0 (a0_0.toList == ([100, 101, 118, 105, 99, 101] : List UInt8)) a0_0 a0_1 a0_2 a0_3 l0_4) else (xA9.j0 k a0_0 (a0_0.toList == ([106, 111, 117, 114, 110, 97, 108] : List UInt8)) a0_0 a0_1 a0_2 a0_3 l0_4)) else (some false))
set_option maxHeartbeats 8000000 in
set_option maxRecDepth 100000 in
theorem xA9.calls (k : Nat) (a0_0 : ByteArray) (a0_1 : ByteArray) (a0_2 : Int) (a0_3 : Int) (A0_4 : Option Addr) (c0_4 : Nat) (l0_4 : List (S25)) (r : Bool) (w : World) (hr0_4 : Kd.C k25 w A0_4 l0_4.length l0_4) (hc0_4 : l0_4.length ≤ c0_4) (h : xA9.f k a0_0 a0_1 a0_2 a0_3 l0_4 = some r) :
  Calls Tryd.prog 27 #[.agg #[.string a0_0, .string a0_1, .int .i64 a0_2, .int .i64 a0_3, .slice A0_4 l0_4.length c0_4]] w fun e w' => e = .returned (.bool r) ∧ Below w.heap.size w w' := by
 have hu25 := Tryd.underlying25
 have HR0_4 := Aside0.mk hr0_4
 have HC0_4 := Aside0.mk hc0_4
 clear hr0_4 hc0_4
 have HB := Aside0.mk (Below.refl w.heap.size w)
 have H : ((xB5.f k a0_1).bind fun t564 => (if t564 = true then (if a0_0.toList = ([100, 101, 118, 105, 99, 101] : List UInt8) then (xA9.j0 k a0_0 (a0_0.toList == ([100, 101, 118, 105, 99, 101] : List UInt8)) a0_0 a0_1 a0_2 a0_3 l0_4) else (xA9.j0 k a0_0 (a0_0.toList == ([106, 111, 117, 114, 110, 97, 108] : List UInt8)) a0_0 a0_1 a0_2 a0_3 l0_4)) else (some false))) = some r := h
 clear h
 replace H := Option.bind_eq_some_iff.mp H
 obtain ⟨t564, A20, H⟩ := H
 replace H : (if t564 = true then (if a0_0.toList = ([100, 101, 118, 105, 99, 101] : List UInt8) then (xA9.j0 k a0_0 (a0_0.toList == ([100, 101, 118, 105, 99, 101] : List UInt8)) a0_0 a0_1 a0_2 a0_3 l0_4) else (xA9.j0 k a0_0 (a0_0.toList == ([106, 111, 117, 114, 110, 97, 108] : List UInt8)) a0_0 a0_1 a0_2 a0_3 l0_4)) else (some false)) = some r := H
 have A2 := Aside0.mk A20
 clear A20
 by_cases c3 : t564 = true
 ·subst c3
  have H1 : (if a0_0.toList = ([100, 101, 118, 105, 99, 101] : List UInt8) then (xA9.j0 k a0_0 (a0_0.toList == ([100, 101, 118, 105, 99, 101] : List UInt8)) a0_0 a0_1 a0_2 a0_3 l0_4) else (xA9.j0 k a0_0 (a0_0.toList == ([106, 111, 117, 114, 110, 97, 108] : List UInt8)) a0_0 a0_1 a0_2 a0_3 l0_4)) = some r := by rw [if_pos rfl] at H; exact H
  clear H
  have H := H1
  clear H1
  have HC4 := Aside0.mk H
  clear H
  go_enter Tryd.func27, Tryd.ntmps27
  go_upto_if 11 with (first | ((with_reducible refine xBq (N := 1) rfl ?_); (try (refine xCj (by rfl) ?_; dsimp only)); refine xBm ?hg (N := 1) ?hd (cs := #[.string a0_0, .string a0_1, .int .i64 a0_2, .int .i64 a0_3, .slice A0_4 l0_4.length c0_4]) (t := 25) ?hr ?_; (case hd => rfl); (case hg => rfl); (case hr => first | (go_simp; done) | (go_simp; rfl)); intro gb563 hg w5 hbox hb; have n0_ := Aside0.mk (xAi (by repeat (first | (with_reducible first | exact HB.out | apply xA1 | apply xA0 | apply below_drew1) | exact HB.out)) hb); have n1_ := Aside0.mk (hbox); have n2_ := Aside0.mk ((by rw [hg]; exact (xAs (by repeat (first | (with_reducible first | exact HB.out | apply xA1 | apply xA0 | apply below_drew1) | exact HB.out))) : w.heap.size ≤ gb563)); have n3_ := Aside0.mk ((by rw [hg]; exact (xAs (by repeat (first | (with_reducible first | exact HB.out | apply xA1 | apply xA0 | apply below_drew1) | exact HB.out))) : w.heap.size ≤ gb563)); clear HB; have HB := n0_; have BK563 := n1_; have GW563 := n2_; have GE563 := n3_; clear n0_ n1_ n2_ n3_; clear hb hbox hg; obtain ⟨hcz6_0, hcz6_1, hcz6_2, hcz6_3, hcz6_4, hfz6_0, hfz6_1, hfz6_2, hfz6_3, hfz6_4⟩ := ex5 BK563.out) | ((with_reducible refine xAj (f := 55) rfl ?_); refine xB6 (some 6) rfl rfl Tryd.func55 (by kernel_rfl) rfl #[.string a0_1] rfl (by (try simp only [List.map_toArray, List.map_cons, List.map_nil]); first | done | rfl | (simp only [List.length_drop, List.length_take]; rfl)) ?_; (with_reducible refine (xB5.calls k a0_1 true _ A2.out).mono ?_); rintro e w7 ⟨rfl, hb⟩; refine ⟨_, rfl, ?_⟩; have n0_ := Aside0.mk (xAt (g := gb563) (o := .cells #[.string a0_0, .string a0_1, .int .i64 a0_2, .int .i64 a0_3, .slice A0_4 l0_4.length c0_4] 25 (0, 0)) (by (with_reducible repeat (first | refine xA5 ?_ _ | refine xA8 ?_ | refine xA4 ?_ _)); exact BK563.out) hb); have n1_ := Aside0.mk (xAi (by repeat (first | (with_reducible first | exact HB.out | apply xA1 | apply xA0 | apply below_drew1 | refine xA6 ?_ GE563.out) | exact HB.out)) hb); clear BK563; clear HB; have BK563 := n0_; have HB := n1_; clear n0_ n1_; (try clear hb); (try clear hb2); (try clear hk); (try clear hi); obtain ⟨hcz8_0, hcz8_1, hcz8_2, hcz8_3, hcz8_4, hfz8_0, hfz8_1, hfz8_2, hfz8_3, hfz8_4⟩ := ex5 BK563.out))
  (try simp only [Act.put, List.setIfInBounds_toArray, List.set_cons_zero, List.set_cons_succ])
  go_cut [11] (fun v11 wc => ∃ (kq : Nat) (x11_3 : Bool), v11 = .bool x11_3 ∧ Aside0 (xA9.j0 kq a0_0 x11_3 a0_0 a0_1 a0_2 a0_3 l0_4 = some r) ∧ Aside0 (kq ≤ k) ∧ Aside0 (wc.heap[gb563]? = some (.cells #[.string a0_0, .string a0_1, .int .i64 a0_2, .int .i64 a0_3, (.slice A0_4 l0_4.length c0_4)] 25 (0, 0))) ∧ Aside0 (Below w.heap.size w wc))
  case first =>
   have H := HC4.out
   clear HC4
   by_cases c9 : a0_0.toList = ([100, 101, 118, 105, 99, 101] : List UInt8)
   ·rw [if_pos c9] at H
    have c9b0 : (a0_0.toList == ([100, 101, 118, 105, 99, 101] : List UInt8)) = true := beq_iff_eq.mpr c9
    have c9b1 : (a0_0.toList != ([100, 101, 118, 105, 99, 101] : List UInt8)) = false := bne_eq_false_iff_eq.mpr c9
    clear c9
    (first | rw [c9b0] | (simp only [xB0, xB1]; rw [c9b0]) | skip)
    have H' := Aside0.mk H
    clear H
    go_wp2
    go_meet
    case rel => exact ⟨_, ((a0_0.toList == ([100, 101, 118, 105, 99, 101] : List UInt8))), (by first | rfl | (simp; done) | (simp [*]; done)), H', ⟨by first | omega | exact Nat.le_refl _⟩, ⟨by (with_reducible repeat (first | refine xA5 ?_ _ | refine xA8 ?_ | refine xA4 ?_ _)); exact BK563.out⟩, ⟨by repeat (first | (with_reducible first | exact HB.out | apply xA1 | apply xA0 | apply below_drew1 | refine xA6 ?_ GE563.out) | exact HB.out)⟩⟩
   ·rw [if_neg c9] at H
    have c9b0 : (a0_0.toList == ([100, 101, 118, 105, 99, 101] : List UInt8)) = false := beq_eq_false_iff_ne.mpr c9
    have c9b1 : (a0_0.toList != ([100, 101, 118, 105, 99, 101] : List UInt8)) = true := bne_iff_ne.mpr c9
    (first | rw [c9b0] | (simp only [xB0, xB1]; rw [c9b0]) | skip)
    have H' := Aside0.mk H
    clear H
    go_wp2
    go_meet
    case rel => exact ⟨_, ((a0_0.toList == ([106, 111, 117, 114, 110, 97, 108] : List UInt8))), (by first | rfl | (simp; done) | (simp [*]; done)), H', ⟨by first | omega | exact Nat.le_refl _⟩, ⟨by (with_reducible repeat (first | refine xA5 ?_ _ | refine xA8 ?_ | refine xA4 ?_ _)); exact BK563.out⟩, ⟨by repeat (first | (with_reducible first | exact HB.out | apply xA1 | apply xA0 | apply below_drew1 | refine xA6 ?_ GE563.out) | exact HB.out)⟩⟩
  case rest =>
   clear HC4
   try clear c2
   try clear p2
   try clear c3
   try clear c5
   try clear c9
   try clear c9b0
   try clear c9b1
   try clear hcz6_0 hcz6_1 hcz6_2 hcz6_3 hcz6_4
   try clear hcz8_0 hcz8_1 hcz8_2 hcz8_3 hcz8_4
   try clear hfz6_0 hfz6_1 hfz6_2 hfz6_3 hfz6_4
   try clear hfz8_0 hfz8_1 hfz8_2 hfz8_3 hfz8_4
   obtain ⟨kq, x11_3, rfl, HA, HJ3, BK563, HB⟩ := hcut
   cases kq with
   | zero => exact absurd HA.out (by simp [xA9.j0])
   | succ kj3 =>
    have H := HA.out
    clear HA
    simp only [xA9.j0] at H
    by_cases c10 : x11_3 = true
    ·subst c10
     have H1 : (if (l0_4.length : Int) = 0 then (if a0_2 ≥ 0 then (some (decide (a0_2 ≤ 999999999))) else (some false)) else (some false)) = some r := by rw [if_pos rfl] at H; exact H
     clear H
     have H := H1
     clear H1
     by_cases c11 : (l0_4.length : Int) = 0
     ·rw [if_pos c11] at H
      have c11b0 : ((l0_4.length : Int) == 0) = true := beq_iff_eq.mpr c11
      have c11b1 : ((l0_4.length : Int) != 0) = false := bne_eq_false_iff_eq.mpr c11
      clear c11
      by_cases c12 : a0_2 ≥ 0
      ·rw [if_pos c12] at H
       have c12b0 : decide (0 ≤ a0_2) = true := decide_eq_true c12
       clear c12
       obtain rfl := Option.some.inj H
       obtain ⟨hcz13_0, hcz13_1, hcz13_2, hcz13_3, hcz13_4, hfz13_0, hfz13_1, hfz13_2, hfz13_3, hfz13_4⟩ := ex5 BK563.out
       go_wp2
       go_ret
       exact ⟨by first | rfl | (simp <;> rfl) | (simp [*] <;> rfl), by repeat (first | (with_reducible first | exact HB.out | apply xA1 | apply xA0 | apply below_drew1 | refine xA6 ?_ GE563.out) | exact HB.out)⟩
      ·rw [if_neg c12] at H
       have c12b0 : decide (0 ≤ a0_2) = false := decide_eq_false c12
       clear c12
       obtain rfl := Option.some.inj H
       obtain ⟨hcz14_0, hcz14_1, hcz14_2, hcz14_3, hcz14_4, hfz14_0, hfz14_1, hfz14_2, hfz14_3, hfz14_4⟩ := ex5 BK563.out
       go_wp2
       go_ret
       exact ⟨by first | rfl | (simp <;> rfl) | (simp [*] <;> rfl), by repeat (first | (with_reducible first | exact HB.out | apply xA1 | apply xA0 | apply below_drew1 | refine xA6 ?_ GE563.out) | exact HB.out)⟩
     ·rw [if_neg c11] at H
      have c11b0 : ((l0_4.length : Int) == 0) = false := beq_eq_false_iff_ne.mpr c11
      have c11b1 : ((l0_4.length : Int) != 0) = true := bne_iff_ne.mpr c11
      have c11b2 : ¬ (l0_4 = []) := fun h_ => c11 (by rw [h_]; rfl)
      obtain rfl := Option.some.inj H
      obtain ⟨hcz15_0, hcz15_1, hcz15_2, hcz15_3, hcz15_4, hfz15_0, hfz15_1, hfz15_2, hfz15_3, hfz15_4⟩ := ex5 BK563.out
      go_wp2
      go_ret
      exact ⟨by first | rfl | (simp <;> rfl) | (simp [*] <;> rfl), by repeat (first | (with_reducible first | exact HB.out | apply xA1 | apply xA0 | apply below_drew1 | refine xA6 ?_ GE563.out) | exact HB.out)⟩
    ·replace c10 := Bool.eq_false_iff.mpr c10
     subst c10
     have H1 : (if a0_0.toList = ([107, 101, 121] : List UInt8) then (xA9.j1 kj3 a0_0 (a0_0.toList == ([107, 101, 121] : List UInt8)) a0_0 a0_1 a0_2 a0_3 l0_4) else (xA9.j1 kj3 a0_0 (a0_0.toList == ([114, 111, 111, 116] : List UInt8)) a0_0 a0_1 a0_2 a0_3 l0_4)) = some r := by rw [if_neg (show ¬ (false = true) by decide)] at H; exact H
     clear H
     have H := H1
     clear H1
     have HC16 := Aside0.mk H
     clear H
     go_upto_if 28 with (fail)
     go_cut [28] (fun v28 wc => ∃ (kq : Nat) (x28_15 : Bool), v28 = .bool x28_15 ∧ Aside0 (xA9.j1 kq a0_0 x28_15 a0_0 a0_1 a0_2 a0_3 l0_4 = some r) ∧ Aside0 (kq ≤ kj3) ∧ Aside0 (wc.heap[gb563]? = some (.cells #[.string a0_0, .string a0_1, .int .i64 a0_2, .int .i64 a0_3, (.slice A0_4 l0_4.length c0_4)] 25 (0, 0))) ∧ Aside0 (Below w.heap.size w wc))
     case first =>
      have H := HC16.out
      clear HC16
      by_cases c17 : a0_0.toList = ([107, 101, 121] : List UInt8)
      ·rw [if_pos c17] at H
       have c17b0 : (a0_0.toList == ([107, 101, 121] : List UInt8)) = true := beq_iff_eq.mpr c17
       have c17b1 : (a0_0.toList != ([107, 101, 121] : List UInt8)) = false := bne_eq_false_iff_eq.mpr c17
       clear c17
       (first | rw [c17b0] | (simp only [xB0, xB1]; rw [c17b0]) | skip)
       have H' := Aside0.mk H
       clear H
       go_wp2
       go_meet
       case rel => exact ⟨_, ((a0_0.toList == ([107, 101, 121] : List UInt8))), (by first | rfl | (simp; done) | (simp [*]; done)), H', ⟨by have := HJ3.out; first | omega | exact Nat.le_refl _⟩, ⟨by (with_reducible repeat (first | refine xA5 ?_ _ | refine xA8 ?_ | refine xA4 ?_ _)); exact BK563.out⟩, ⟨by repeat (first | (with_reducible first | exact HB.out | apply xA1 | apply xA0 | apply below_drew1 | refine xA6 ?_ GE563.out) | exact HB.out)⟩⟩
      ·rw [if_neg c17] at H
       have c17b0 : (a0_0.toList == ([107, 101, 121] : List UInt8)) = false := beq_eq_false_iff_ne.mpr c17
       have c17b1 : (a0_0.toList != ([107, 101, 121] : List UInt8)) = true := bne_iff_ne.mpr c17
       (first | rw [c17b0] | (simp only [xB0, xB1]; rw [c17b0]) | skip)
       have H' := Aside0.mk H
       clear H
       go_wp2
       go_meet
       case rel => exact ⟨_, ((a0_0.toList == ([114, 111, 111, 116] : List UInt8))), (by first | rfl | (simp; done) | (simp [*]; done)), H', ⟨by have := HJ3.out; first | omega | exact Nat.le_refl _⟩, ⟨by (with_reducible repeat (first | refine xA5 ?_ _ | refine xA8 ?_ | refine xA4 ?_ _)); exact BK563.out⟩, ⟨by repeat (first | (with_reducible first | exact HB.out | apply xA1 | apply xA0 | apply below_drew1 | refine xA6 ?_ GE563.out) | exact HB.out)⟩⟩
     case rest =>
      clear HC16
      try clear c1
      try clear c2
      try clear p2
      try clear c3
      try clear c5
      try clear c9
      try clear c9b0
      try clear c9b1
      try clear c10
      try clear c11
      try clear c11b0
      try clear c11b1
      try clear c11b2
      try clear c12
      try clear c12b0
      try clear c17
      try clear c17b0
      try clear c17b1
      try clear hcz13_0 hcz13_1 hcz13_2 hcz13_3 hcz13_4
      try clear hcz14_0 hcz14_1 hcz14_2 hcz14_3 hcz14_4
      try clear hcz15_0 hcz15_1 hcz15_2 hcz15_3 hcz15_4
      try clear hcz6_0 hcz6_1 hcz6_2 hcz6_3 hcz6_4
      try clear hcz8_0 hcz8_1 hcz8_2 hcz8_3 hcz8_4
      try clear hfz13_0 hfz13_1 hfz13_2 hfz13_3 hfz13_4
      try clear hfz14_0 hfz14_1 hfz14_2 hfz14_3 hfz14_4
      try clear hfz15_0 hfz15_1 hfz15_2 hfz15_3 hfz15_4
      try clear hfz6_0 hfz6_1 hfz6_2 hfz6_3 hfz6_4
      try clear hfz8_0 hfz8_1 hfz8_2 hfz8_3 hfz8_4
      try clear p2
      obtain ⟨kq, x28_15, rfl, HA, HJ15, BK563, HB⟩ := hcut
      cases kq with
      | zero => exact absurd HA.out (by simp [xA9.j1])
      | succ kj15 =>
       have H := HA.out
       clear HA
       simp only [xA9.j1] at H
       by_cases c18 : x28_15 = true
       ·subst c18
        have H1 : (if a0_2 = 0 then (if (l0_4.length : Int) = 1 then (if 0 < (l0_4.length : Int) then ((xAf.f kj15 ((xA2 l0_4 0).f0) ((xA2 l0_4 0).f1) ((xA2 l0_4 0).f2) ((xA2 l0_4 0).f3) ((xA2 l0_4 0).f4) (⟨#[104, 101, 120]⟩ : ByteArray)).bind fun t566 => (some t566)) else (none)) else (some false)) else (some false)) = some r := by rw [if_pos rfl] at H; exact H
        clear H
        have H := H1
        clear H1
        by_cases c19 : a0_2 = 0
        ·rw [if_pos c19] at H
         have c19b0 : (a0_2 == 0) = true := beq_iff_eq.mpr c19
         have c19b1 : (a0_2 != 0) = false := bne_eq_false_iff_eq.mpr c19
         clear c19
         by_cases c20 : (l0_4.length : Int) = 1
         ·rw [if_pos c20] at H
          have c20b0 : ((l0_4.length : Int) == 1) = true := beq_iff_eq.mpr c20
          have c20b1 : ((l0_4.length : Int) != 1) = false := bne_eq_false_iff_eq.mpr c20
          clear c20
          by_cases c21 : 0 < (l0_4.length : Int)
          ·rw [if_pos c21] at H
           have c21b0 : decide (0 < (l0_4.length : Int)) = true := decide_eq_true c21
           have c21b1 : decide (0 < l0_4.length) = true := decide_eq_true (by omega)
           clear c21
           replace H := Option.bind_eq_some_iff.mp H
           obtain ⟨t566, A220, H⟩ := H
           replace H : (some t566) = some r := H
           have A22 := Aside0.mk A220
           clear A220
           obtain rfl := Option.some.inj H
           obtain ⟨hcz23_0, hcz23_1, hcz23_2, hcz23_3, hcz23_4, hfz23_0, hfz23_1, hfz23_2, hfz23_3, hfz23_4⟩ := ex5 BK563.out
           have p565 : 0 ≤ (0 : Int) := (by omega)
           have q565 : 0 < (l0_4.length : Int) := of_decide_eq_true (by first | (with_reducible assumption) | assumption)
           obtain ⟨ad565, A565_4, c565_4, e565, hx565_0, hx565_1, hx565_2, hx565_3, hx565_4, hl565_4, hi565_4⟩ := xC3 HR0_4.out 0 p565 q565
           cases e565
           have qi565 : (0 < l0_4.length) = True := eq_true (by omega)
           (try rw [show ((0 : Int)).toNat = 0 from rfl] at hx565_0)
           (try rw [show 0 * 5 = 0 from rfl] at hx565_0)
           (try rw [Addr.add_zero'] at hx565_0)
           (try rw [show ((0 : Int)).toNat = 0 from rfl] at hx565_1)
           (try rw [show 0 * 5 = 0 from rfl] at hx565_1)
           (try rw [Addr.add_zero'] at hx565_1)
           (try rw [show ((0 : Int)).toNat = 0 from rfl] at hx565_2)
           (try rw [show 0 * 5 = 0 from rfl] at hx565_2)
           (try rw [Addr.add_zero'] at hx565_2)
           (try rw [show ((0 : Int)).toNat = 0 from rfl] at hx565_3)
           (try rw [show 0 * 5 = 0 from rfl] at hx565_3)
           (try rw [Addr.add_zero'] at hx565_3)
           (try rw [show ((0 : Int)).toNat = 0 from rfl] at hx565_4)
           (try rw [show 0 * 5 = 0 from rfl] at hx565_4)
           (try rw [Addr.add_zero'] at hx565_4)
           replace hx565_0 := (HB.out.cell (World.block_lt_of_cell? w _ hx565_0)).trans hx565_0
           replace hx565_1 := (HB.out.cell (World.block_lt_of_cell? w _ hx565_1)).trans hx565_1
           replace hx565_2 := (HB.out.cell (World.block_lt_of_cell? w _ hx565_2)).trans hx565_2
           replace hx565_3 := (HB.out.cell (World.block_lt_of_cell? w _ hx565_3)).trans hx565_3
           replace hx565_4 := (HB.out.cell (World.block_lt_of_cell? w _ hx565_4)).trans hx565_4
           have HR565_4 := Aside0.mk hi565_4
           have HC565_4 := Aside0.mk hl565_4
           clear hi565_4 hl565_4
           replace p565 := eq_true p565
           replace q565 := eq_true q565
           go_wp2_with (first | (go_at_call 56; (with_reducible refine (xAf.calls kj15 ((xA2 l0_4 0).f0) ((xA2 l0_4 0).f1) ((xA2 l0_4 0).f2) ((xA2 l0_4 0).f3) _ _ ((xA2 l0_4 0).f4) (⟨#[104, 101, 120]⟩ : ByteArray) t566 _ ?side1 ?side2 A22.out).mono ?_); (case side1 => repeat (first | exact (Kd.C_below HR565_4.out HB.out) | (with_reducible refine Kd.C_alloc ?_ _) | (with_reducible refine Kd.C_drewN ?_ _) | (with_reducible refine Kd.C_drew ?_))); (case side2 => exact HC565_4.out); rintro e w24 ⟨rfl, hb⟩; have n0_ := Aside0.mk (xAt (g := gb563) (o := .cells #[.string a0_0, .string a0_1, .int .i64 a0_2, .int .i64 a0_3, .slice (some ad565) l0_4.length c0_4] 25 (0, 0)) (by (with_reducible repeat (first | refine xA5 ?_ _ | refine xA8 ?_ | refine xA4 ?_ _)); exact BK563.out) hb); have n1_ := Aside0.mk (xAi (by repeat (first | (with_reducible first | exact HB.out | apply xA1 | apply xA0 | apply below_drew1 | refine xA6 ?_ GE563.out) | exact HB.out)) hb); clear BK563; clear HB; have BK563 := n0_; have HB := n1_; clear n0_ n1_; (try clear hb); (try clear hb2); (try clear hk); (try clear hi)))
           go_ret
           exact ⟨by first | rfl | (simp <;> rfl) | (simp [*] <;> rfl), by repeat (first | (with_reducible first | exact HB.out | apply xA1 | apply xA0 | apply below_drew1 | refine xA6 ?_ GE563.out) | exact HB.out)⟩
          ·rw [if_neg c21] at H
           exact absurd H (by simp)
         ·rw [if_neg c20] at H
          have c20b0 : ((l0_4.length : Int) == 1) = false := beq_eq_false_iff_ne.mpr c20
          have c20b1 : ((l0_4.length : Int) != 1) = true := bne_iff_ne.mpr c20
          obtain rfl := Option.some.inj H
          obtain ⟨hcz25_0, hcz25_1, hcz25_2, hcz25_3, hcz25_4, hfz25_0, hfz25_1, hfz25_2, hfz25_3, hfz25_4⟩ := ex5 BK563.out
          go_wp2
          go_ret
          exact ⟨by first | rfl | (simp <;> rfl) | (simp [*] <;> rfl), by repeat (first | (with_reducible first | exact HB.out | apply xA1 | apply xA0 | apply below_drew1 | refine xA6 ?_ GE563.out) | exact HB.out)⟩
        ·rw [if_neg c19] at H
         have c19b0 : (a0_2 == 0) = false := beq_eq_false_iff_ne.mpr c19
         have c19b1 : (a0_2 != 0) = true := bne_iff_ne.mpr c19
         obtain rfl := Option.some.inj H
         obtain ⟨hcz26_0, hcz26_1, hcz26_2, hcz26_3, hcz26_4, hfz26_0, hfz26_1, hfz26_2, hfz26_3, hfz26_4⟩ := ex5 BK563.out
         go_wp2
         go_ret
         exact ⟨by first | rfl | (simp <;> rfl) | (simp [*] <;> rfl), by repeat (first | (with_reducible first | exact HB.out | apply xA1 | apply xA0 | apply below_drew1 | refine xA6 ?_ GE563.out) | exact HB.out)⟩
       ·replace c18 := Bool.eq_false_iff.mpr c18
        subst c18
        have H1 : (if a0_0.toList = ([118, 111, 108, 117, 109, 101] : List UInt8) then (if a0_2 = 0 then (if (l0_4.length : Int) = 1 then (if 0 < (l0_4.length : Int) then ((xA3.f kj15 ((xA2 l0_4 0).f0) ((xA2 l0_4 0).f1) ((xA2 l0_4 0).f2) ((xA2 l0_4 0).f3) ((xA2 l0_4 0).f4) 1).bind fun t568 => (some t568)) else (none)) else (some false)) else (some false)) else (if a0_0.toList = ([101, 120, 112, 111, 114, 116] : List UInt8) then (if (l0_4.length : Int) = 0 then (if a0_2 = 0 then (some true) else (some (a0_2 == 1))) else (some false)) else (some false))) = some r := by rw [if_neg (show ¬ (false = true) by decide)] at H; exact H
        clear H
        have H := H1
        clear H1
        by_cases c27 : a0_0.toList = ([118, 111, 108, 117, 109, 101] : List UInt8)
        ·rw [if_pos c27] at H
         have c27b0 : (a0_0.toList == ([118, 111, 108, 117, 109, 101] : List UInt8)) = true := beq_iff_eq.mpr c27
         have c27b1 : (a0_0.toList != ([118, 111, 108, 117, 109, 101] : List UInt8)) = false := bne_eq_false_iff_eq.mpr c27
         clear c27
         by_cases c28 : a0_2 = 0
         ·rw [if_pos c28] at H
          have c28b0 : (a0_2 == 0) = true := beq_iff_eq.mpr c28
          have c28b1 : (a0_2 != 0) = false := bne_eq_false_iff_eq.mpr c28
          clear c28
          by_cases c29 : (l0_4.length : Int) = 1
          ·rw [if_pos c29] at H
           have c29b0 : ((l0_4.length : Int) == 1) = true := beq_iff_eq.mpr c29
           have c29b1 : ((l0_4.length : Int) != 1) = false := bne_eq_false_iff_eq.mpr c29
           clear c29
           by_cases c30 : 0 < (l0_4.length : Int)
           ·rw [if_pos c30] at H
            have c30b0 : decide (0 < (l0_4.length : Int)) = true := decide_eq_true c30
            have c30b1 : decide (0 < l0_4.length) = true := decide_eq_true (by omega)
            clear c30
            replace H := Option.bind_eq_some_iff.mp H
            obtain ⟨t568, A310, H⟩ := H
            replace H : (some t568) = some r := H
            have A31 := Aside0.mk A310
            clear A310
            obtain rfl := Option.some.inj H
            obtain ⟨hcz32_0, hcz32_1, hcz32_2, hcz32_3, hcz32_4, hfz32_0, hfz32_1, hfz32_2, hfz32_3, hfz32_4⟩ := ex5 BK563.out
            have p567 : 0 ≤ (0 : Int) := (by omega)
            have q567 : 0 < (l0_4.length : Int) := of_decide_eq_true (by first | (with_reducible assumption) | assumption)
            obtain ⟨ad567, A567_4, c567_4, e567, hx567_0, hx567_1, hx567_2, hx567_3, hx567_4, hl567_4, hi567_4⟩ := xC3 HR0_4.out 0 p567 q567
            cases e567
            have qi567 : (0 < l0_4.length) = True := eq_true (by omega)
            (try rw [show ((0 : Int)).toNat = 0 from rfl] at hx567_0)
            (try rw [show 0 * 5 = 0 from rfl] at hx567_0)
            (try rw [Addr.add_zero'] at hx567_0)
            (try rw [show ((0 : Int)).toNat = 0 from rfl] at hx567_1)
            (try rw [show 0 * 5 = 0 from rfl] at hx567_1)
            (try rw [Addr.add_zero'] at hx567_1)
            (try rw [show ((0 : Int)).toNat = 0 from rfl] at hx567_2)
            (try rw [show 0 * 5 = 0 from rfl] at hx567_2)
            (try rw [Addr.add_zero'] at hx567_2)
            (try rw [show ((0 : Int)).toNat = 0 from rfl] at hx567_3)
            (try rw [show 0 * 5 = 0 from rfl] at hx567_3)
            (try rw [Addr.add_zero'] at hx567_3)
            (try rw [show ((0 : Int)).toNat = 0 from rfl] at hx567_4)
            (try rw [show 0 * 5 = 0 from rfl] at hx567_4)
            (try rw [Addr.add_zero'] at hx567_4)
            replace hx567_0 := (HB.out.cell (World.block_lt_of_cell? w _ hx567_0)).trans hx567_0
            replace hx567_1 := (HB.out.cell (World.block_lt_of_cell? w _ hx567_1)).trans hx567_1
            replace hx567_2 := (HB.out.cell (World.block_lt_of_cell? w _ hx567_2)).trans hx567_2
            replace hx567_3 := (HB.out.cell (World.block_lt_of_cell? w _ hx567_3)).trans hx567_3
            replace hx567_4 := (HB.out.cell (World.block_lt_of_cell? w _ hx567_4)).trans hx567_4
            have HR567_4 := Aside0.mk hi567_4
            have HC567_4 := Aside0.mk hl567_4
            clear hi567_4 hl567_4
            replace p567 := eq_true p567
            replace q567 := eq_true q567
            go_wp2_with (first | (go_at_call 57; (with_reducible refine (xA3.calls kj15 ((xA2 l0_4 0).f0) ((xA2 l0_4 0).f1) ((xA2 l0_4 0).f2) ((xA2 l0_4 0).f3) _ _ ((xA2 l0_4 0).f4) 1 t568 _ ?side1 ?side2 A31.out).mono ?_); (case side1 => repeat (first | exact (Kd.C_below HR567_4.out HB.out) | (with_reducible refine Kd.C_alloc ?_ _) | (with_reducible refine Kd.C_drewN ?_ _) | (with_reducible refine Kd.C_drew ?_))); (case side2 => exact HC567_4.out); rintro e w33 ⟨rfl, hb⟩; have n0_ := Aside0.mk (xAt (g := gb563) (o := .cells #[.string a0_0, .string a0_1, .int .i64 a0_2, .int .i64 a0_3, .slice (some ad567) l0_4.length c0_4] 25 (0, 0)) (by (with_reducible repeat (first | refine xA5 ?_ _ | refine xA8 ?_ | refine xA4 ?_ _)); exact BK563.out) hb); have n1_ := Aside0.mk (xAi (by repeat (first | (with_reducible first | exact HB.out | apply xA1 | apply xA0 | apply below_drew1 | refine xA6 ?_ GE563.out) | exact HB.out)) hb); clear BK563; clear HB; have BK563 := n0_; have HB := n1_; clear n0_ n1_; (try clear hb); (try clear hb2); (try clear hk); (try clear hi)))
            go_ret
            exact ⟨by first | rfl | (simp <;> rfl) | (simp [*] <;> rfl), by repeat (first | (with_reducible first | exact HB.out | apply xA1 | apply xA0 | apply below_drew1 | refine xA6 ?_ GE563.out) | exact HB.out)⟩
           ·rw [if_neg c30] at H
            exact absurd H (by simp)
          ·rw [if_neg c29] at H
           have c29b0 : ((l0_4.length : Int) == 1) = false := beq_eq_false_iff_ne.mpr c29
           have c29b1 : ((l0_4.length : Int) != 1) = true := bne_iff_ne.mpr c29
           obtain rfl := Option.some.inj H
           obtain ⟨hcz34_0, hcz34_1, hcz34_2, hcz34_3, hcz34_4, hfz34_0, hfz34_1, hfz34_2, hfz34_3, hfz34_4⟩ := ex5 BK563.out
           go_wp2
           go_ret
           exact ⟨by first | rfl | (simp <;> rfl) | (simp [*] <;> rfl), by repeat (first | (with_reducible first | exact HB.out | apply xA1 | apply xA0 | apply below_drew1 | refine xA6 ?_ GE563.out) | exact HB.out)⟩
         ·rw [if_neg c28] at H
          have c28b0 : (a0_2 == 0) = false := beq_eq_false_iff_ne.mpr c28
          have c28b1 : (a0_2 != 0) = true := bne_iff_ne.mpr c28
          obtain rfl := Option.some.inj H
          obtain ⟨hcz35_0, hcz35_1, hcz35_2, hcz35_3, hcz35_4, hfz35_0, hfz35_1, hfz35_2, hfz35_3, hfz35_4⟩ := ex5 BK563.out
          go_wp2
          go_ret
          exact ⟨by first | rfl | (simp <;> rfl) | (simp [*] <;> rfl), by repeat (first | (with_reducible first | exact HB.out | apply xA1 | apply xA0 | apply below_drew1 | refine xA6 ?_ GE563.out) | exact HB.out)⟩
        ·rw [if_neg c27] at H
         have c27b0 : (a0_0.toList == ([118, 111, 108, 117, 109, 101] : List UInt8)) = false := beq_eq_false_iff_ne.mpr c27
         have c27b1 : (a0_0.toList != ([118, 111, 108, 117, 109, 101] : List UInt8)) = true := bne_iff_ne.mpr c27
         by_cases c36 : a0_0.toList = ([101, 120, 112, 111, 114, 116] : List UInt8)
         ·rw [if_pos c36] at H
          have c36b0 : (a0_0.toList == ([101, 120, 112, 111, 114, 116] : List UInt8)) = true := beq_iff_eq.mpr c36
          have c36b1 : (a0_0.toList != ([101, 120, 112, 111, 114, 116] : List UInt8)) = false := bne_eq_false_iff_eq.mpr c36
          clear c36
          by_cases c37 : (l0_4.length : Int) = 0
          ·rw [if_pos c37] at H
           have c37b0 : ((l0_4.length : Int) == 0) = true := beq_iff_eq.mpr c37
           have c37b1 : ((l0_4.length : Int) != 0) = false := bne_eq_false_iff_eq.mpr c37
           clear c37
           by_cases c38 : a0_2 = 0
           ·rw [if_pos c38] at H
            have c38b0 : (a0_2 == 0) = true := beq_iff_eq.mpr c38
            have c38b1 : (a0_2 != 0) = false := bne_eq_false_iff_eq.mpr c38
            clear c38
            obtain rfl := Option.some.inj H
            obtain ⟨hcz39_0, hcz39_1, hcz39_2, hcz39_3, hcz39_4, hfz39_0, hfz39_1, hfz39_2, hfz39_3, hfz39_4⟩ := ex5 BK563.out
            go_wp2
            go_ret
            exact ⟨by first | rfl | (simp <;> rfl) | (simp [*] <;> rfl), by repeat (first | (with_reducible first | exact HB.out | apply xA1 | apply xA0 | apply below_drew1 | refine xA6 ?_ GE563.out) | exact HB.out)⟩
           ·rw [if_neg c38] at H
            have c38b0 : (a0_2 == 0) = false := beq_eq_false_iff_ne.mpr c38
            have c38b1 : (a0_2 != 0) = true := bne_iff_ne.mpr c38
            obtain rfl := Option.some.inj H
            obtain ⟨hcz40_0, hcz40_1, hcz40_2, hcz40_3, hcz40_4, hfz40_0, hfz40_1, hfz40_2, hfz40_3, hfz40_4⟩ := ex5 BK563.out
            go_wp2
            go_ret
            exact ⟨by first | rfl | (simp <;> rfl) | (simp [*] <;> rfl), by repeat (first | (with_reducible first | exact HB.out | apply xA1 | apply xA0 | apply below_drew1 | refine xA6 ?_ GE563.out) | exact HB.out)⟩
          ·rw [if_neg c37] at H
           have c37b0 : ((l0_4.length : Int) == 0) = false := beq_eq_false_iff_ne.mpr c37
           have c37b1 : ((l0_4.length : Int) != 0) = true := bne_iff_ne.mpr c37
           have c37b2 : ¬ (l0_4 = []) := fun h_ => c37 (by rw [h_]; rfl)
           obtain rfl := Option.some.inj H
           obtain ⟨hcz41_0, hcz41_1, hcz41_2, hcz41_3, hcz41_4, hfz41_0, hfz41_1, hfz41_2, hfz41_3, hfz41_4⟩ := ex5 BK563.out
           go_wp2
           go_ret
           exact ⟨by first | rfl | (simp <;> rfl) | (simp [*] <;> rfl), by repeat (first | (with_reducible first | exact HB.out | apply xA1 | apply xA0 | apply below_drew1 | refine xA6 ?_ GE563.out) | exact HB.out)⟩
         ·rw [if_neg c36] at H
          have c36b0 : (a0_0.toList == ([101, 120, 112, 111, 114, 116] : List UInt8)) = false := beq_eq_false_iff_ne.mpr c36
          have c36b1 : (a0_0.toList != ([101, 120, 112, 111, 114, 116] : List UInt8)) = true := bne_iff_ne.mpr c36
          obtain rfl := Option.some.inj H
          go_wp2
          go_ret
          exact ⟨by first | rfl | (simp <;> rfl) | (simp [*] <;> rfl), by repeat (first | (with_reducible first | exact HB.out | apply xA1 | apply xA0 | apply below_drew1 | refine xA6 ?_ GE563.out) | exact HB.out)⟩
 ·replace c3 := Bool.eq_false_iff.mpr c3
  subst c3
  have H1 : (some false) = some r := by rw [if_neg (show ¬ (false = true) by decide)] at H; exact H
  clear H
  have H := H1
  clear H1
  obtain rfl := Option.some.inj H
  go_enter Tryd.func27, Tryd.ntmps27
  go_wp2_with (first | ((with_reducible refine xBq (N := 1) rfl ?_); (try (refine xCj (by rfl) ?_; dsimp only)); refine xBm ?hg (N := 1) ?hd (cs := #[.string a0_0, .string a0_1, .int .i64 a0_2, .int .i64 a0_3, .slice A0_4 l0_4.length c0_4]) (t := 25) ?hr ?_; (case hd => rfl); (case hg => rfl); (case hr => first | (go_simp; done) | (go_simp; rfl)); intro gb563 hg w42 hbox hb; have n0_ := Aside0.mk (xAi (by repeat (first | (with_reducible first | exact HB.out | apply xA1 | apply xA0 | apply below_drew1) | exact HB.out)) hb); have n1_ := Aside0.mk (hbox); have n2_ := Aside0.mk ((by rw [hg]; exact (xAs (by repeat (first | (with_reducible first | exact HB.out | apply xA1 | apply xA0 | apply below_drew1) | exact HB.out))) : w.heap.size ≤ gb563)); have n3_ := Aside0.mk ((by rw [hg]; exact (xAs (by repeat (first | (with_reducible first | exact HB.out | apply xA1 | apply xA0 | apply below_drew1) | exact HB.out))) : w.heap.size ≤ gb563)); clear HB; have HB := n0_; have BK563 := n1_; have GW563 := n2_; have GE563 := n3_; clear n0_ n1_ n2_ n3_; clear hb hbox hg; obtain ⟨hcz43_0, hcz43_1, hcz43_2, hcz43_3, hcz43_4, hfz43_0, hfz43_1, hfz43_2, hfz43_3, hfz43_4⟩ := ex5 BK563.out) | ((with_reducible refine xAj (f := 55) rfl ?_); refine xB6 (some 6) rfl rfl Tryd.func55 (by kernel_rfl) rfl #[.string a0_1] rfl (by (try simp only [List.map_toArray, List.map_cons, List.map_nil]); first | done | rfl | (simp only [List.length_drop, List.length_take]; rfl)) ?_; (with_reducible refine (xB5.calls k a0_1 false _ A2.out).mono ?_); rintro e w44 ⟨rfl, hb⟩; refine ⟨_, rfl, ?_⟩; have n0_ := Aside0.mk (xAt (g := gb563) (o := .cells #[.string a0_0, .string a0_1, .int .i64 a0_2, .int .i64 a0_3, .slice A0_4 l0_4.length c0_4] 25 (0, 0)) (by (with_reducible repeat (first | refine xA5 ?_ _ | refine xA8 ?_ | refine xA4 ?_ _)); exact BK563.out) hb); have n1_ := Aside0.mk (xAi (by repeat (first | (with_reducible first | exact HB.out | apply xA1 | apply xA0 | apply below_drew1 | refine xA6 ?_ GE563.out) | exact HB.out)) hb); clear BK563; clear HB; have BK563 := n0_; have HB := n1_; clear n0_ n1_; (try clear hb); (try clear hb2); (try clear hk); (try clear hi)))
  go_ret
  exact ⟨by first | rfl | (simp <;> rfl) | (simp [*] <;> rfl), by repeat (first | (with_reducible first | exact HB.out | apply xA1 | apply xA0 | apply below_drew1 | refine xA6 ?_ GE563.out) | exact HB.out)⟩

end Go.Proofs.YtknbfhhmjbnemaaDoor.P
end
section
namespace Go.Proofs.YtknbfhhmjbnemaaDoor.P
open Go.RowKit Go.Proofs.YtknbfhhmjbnemaaDoorW.PrintWords Go.Proofs.YtknbfhhmjbnemaaDoorW.PrintLast Go.Proofs.YtknbfhhmjbnemaaDoorW.PrintMore
attribute [local go_sem] xB9 xBe

/-! ### xAm: function 16 -/
mutual
def xAm.j0 : Nat → Bool → ByteArray → ByteArray → Int → Int → List (S25) → Option (Bool)
 | 0, _, _, _, _, _, _ => none
 | k + 1, x17, x570000, x570001, x570002, x570003, x570004 => if x17 = true then (some false) else (xAm.l0 k 0 x570000 x570001 x570002 x570003 x570004)
def xAm.l0 : Nat → Int → ByteArray → ByteArray → Int → Int → List (S25) → Option (Bool)
 | 0, _, _, _, _, _, _ => none
 | k + 1, x3, x570000, x570001, x570002, x570003, x570004 => if x3 < (x570004.length : Int) then (if 0 ≤ x3 then ((xA9.f k ((xA2 x570004 x3).f0) ((xA2 x570004 x3).f1) ((xA2 x570004 x3).f2) ((xA2 x570004 x3).f3) ((xA2 x570004 x3).f4)).bind fun t571 => (if t571 = true then (xAm.l0 k (wrap64 (x3 + 1)) x570000 x570001 x570002 x570003 x570004) else (some false))) else (none)) else (some true)
end
def xAm.f (k : Nat) (a0_0 : ByteArray) (a0_1 : ByteArray) (a0_2 : Int) (a0_3 : Int) (l0_4 : List (S25)) : Option (Bool) := if a0_0.toList = ([102, 105, 108, 101] : List UInt8) then (if a0_1.toList = ([] : List UInt8) then (xAm.j0 k (a0_2 != 0) a0_0 a0_1 a0_2 a0_3 l0_4) else (xAm.j0 k true a0_0 a0_1 a0_2 a0_3 l0_4)) else (xAm.j0 k true a0_0 a0_1 a0_2 a0_3 l0_4)
set_option maxHeartbeats 8000000 in
set_option maxRecDepth 100000 in
theorem xAm.calls (k : Nat) (a0_0 : ByteArray) (a0_1 : ByteArray) (a0_2 : Int) (a0_3 : Int) (A0_4 : Option Addr) (c0_4 : Nat) (l0_4 : List (S25)) (r : Bool) (w : World) (hr0_4 : Kd.C k25 w A0_4 l0_4.length l0_4) (hc0_4 : l0_4.length ≤ c0_4) (h : xAm.f k a0_0 a0_1 a0_2 a0_3 l0_4 = some r) :
  Calls Tryd.prog 16 #[.agg #[.string a0_0, .string a0_1, .int .i64 a0_2, .int .i64 a0_3, .slice A0_4 l0_4.length c0_4]] w fun e w' => e = .returned (.bool r) ∧ Below w.heap.size w w' := by
 have hu25 := Tryd.underlying25
 have HR0_4 := Aside0.mk hr0_4
 have HC0_4 := Aside0.mk hc0_4
 clear hr0_4 hc0_4
 have HB := Aside0.mk (Below.refl w.heap.size w)
 have H : (if a0_0.toList = ([102, 105, 108, 101] : List UInt8) then (if a0_1.toList = ([] : List UInt8) then (xAm.j0 k (a0_2 != 0) a0_0 a0_1 a0_2 a0_3 l0_4) else (xAm.j0 k true a0_0 a0_1 a0_2 a0_3 l0_4)) else (xAm.j0 k true a0_0 a0_1 a0_2 a0_3 l0_4)) = some r := h
 clear h
 have HC2 := Aside0.mk H
 clear H
 go_enter Tryd.func16, Tryd.ntmps16
 go_upto_region 1 with (first | ((with_reducible refine xBq (N := 1) rfl ?_); refine xBm ?hg (N := 1) ?hd (cs := #[.string a0_0, .string a0_1, .int .i64 a0_2, .int .i64 a0_3, .slice A0_4 l0_4.length c0_4]) (t := 25) ?hr ?_; (case hd => rfl); (case hg => rfl); (case hr => first | (go_simp; done) | (go_simp; rfl)); intro gb569 hg w3 hbox hb; have n0_ := Aside0.mk (xAi (by repeat (first | (with_reducible first | exact HB.out | apply xA1 | apply xA0 | apply below_drew1) | exact HB.out)) hb); have n1_ := Aside0.mk (hbox); have n2_ := Aside0.mk ((by rw [hg]; exact (xAs (by repeat (first | (with_reducible first | exact HB.out | apply xA1 | apply xA0 | apply below_drew1) | exact HB.out))) : w.heap.size ≤ gb569)); have n3_ := Aside0.mk ((by rw [hg]; exact (xAs (by repeat (first | (with_reducible first | exact HB.out | apply xA1 | apply xA0 | apply below_drew1) | exact HB.out))) : w.heap.size ≤ gb569)); clear HB; have HB := n0_; have BK569 := n1_; have GW569 := n2_; have GE569 := n3_; clear n0_ n1_ n2_ n3_; clear hb hbox hg))
 (try simp only [Act.put, List.setIfInBounds_toArray, List.set_cons_zero, List.set_cons_succ])
 go_cut [17] (fun v17 wc => ∃ (kq : Nat) (x17_1 : Bool), v17 = .bool x17_1 ∧ Aside0 (xAm.j0 kq x17_1 a0_0 a0_1 a0_2 a0_3 l0_4 = some r) ∧ Aside0 (kq ≤ k) ∧ Aside0 (wc.heap[gb569]? = some (.cells #[.string a0_0, .string a0_1, .int .i64 a0_2, .int .i64 a0_3, (.slice A0_4 l0_4.length c0_4)] 25 (0, 0))) ∧ Aside0 (Below w.heap.size w wc))
 case first =>
  have H := HC2.out
  clear HC2
  by_cases c4 : a0_0.toList = ([102, 105, 108, 101] : List UInt8)
  ·rw [if_pos c4] at H
   have c4b0 : (a0_0.toList == ([102, 105, 108, 101] : List UInt8)) = true := beq_iff_eq.mpr c4
   have c4b1 : (a0_0.toList != ([102, 105, 108, 101] : List UInt8)) = false := bne_eq_false_iff_eq.mpr c4
   clear c4
   (first | rw [c4b0] | (simp only [xB0, xB1]; rw [c4b0]) | skip)
   by_cases c5 : a0_1.toList = ([] : List UInt8)
   ·rw [if_pos c5] at H
    have c5b0 : (a0_1.toList == ([] : List UInt8)) = true := beq_iff_eq.mpr c5
    have c5b1 : (a0_1.toList != ([] : List UInt8)) = false := bne_eq_false_iff_eq.mpr c5
    clear c5
    have H' := Aside0.mk H
    clear H
    obtain ⟨hcz6_0, hcz6_1, hcz6_2, hcz6_3, hcz6_4, hfz6_0, hfz6_1, hfz6_2, hfz6_3, hfz6_4⟩ := ex5 BK569.out
    go_wp2
    go_meet
    case rel => exact ⟨_, ((a0_2 != 0)), (by first | rfl | (simp; done) | (simp [*]; done)), H', ⟨by first | omega | exact Nat.le_refl _⟩, ⟨by (with_reducible repeat (first | refine xA5 ?_ _ | refine xA8 ?_ | refine xA4 ?_ _)); exact BK569.out⟩, ⟨by repeat (first | (with_reducible first | exact HB.out | apply xA1 | apply xA0 | apply below_drew1 | refine xA6 ?_ GE569.out) | exact HB.out)⟩⟩
   ·rw [if_neg c5] at H
    have c5b0 : (a0_1.toList == ([] : List UInt8)) = false := beq_eq_false_iff_ne.mpr c5
    have c5b1 : (a0_1.toList != ([] : List UInt8)) = true := bne_iff_ne.mpr c5
    have H' := Aside0.mk H
    clear H
    obtain ⟨hcz7_0, hcz7_1, hcz7_2, hcz7_3, hcz7_4, hfz7_0, hfz7_1, hfz7_2, hfz7_3, hfz7_4⟩ := ex5 BK569.out
    go_wp2
    go_meet
    case rel => exact ⟨_, (true), (by first | rfl | (simp; done) | (simp [*]; done)), H', ⟨by first | omega | exact Nat.le_refl _⟩, ⟨by (with_reducible repeat (first | refine xA5 ?_ _ | refine xA8 ?_ | refine xA4 ?_ _)); exact BK569.out⟩, ⟨by repeat (first | (with_reducible first | exact HB.out | apply xA1 | apply xA0 | apply below_drew1 | refine xA6 ?_ GE569.out) | exact HB.out)⟩⟩
  ·rw [if_neg c4] at H
   have c4b0 : (a0_0.toList == ([102, 105, 108, 101] : List UInt8)) = false := beq_eq_false_iff_ne.mpr c4
   have c4b1 : (a0_0.toList != ([102, 105, 108, 101] : List UInt8)) = true := bne_iff_ne.mpr c4
   (first | rw [c4b0] | (simp only [xB0, xB1]; rw [c4b0]) | skip)
   have H' := Aside0.mk H
   clear H
   obtain ⟨hcz8_0, hcz8_1, hcz8_2, hcz8_3, hcz8_4, hfz8_0, hfz8_1, hfz8_2, hfz8_3, hfz8_4⟩ := ex5 BK569.out
   go_wp2
   go_meet
   case rel => exact ⟨_, (true), (by first | rfl | (simp; done) | (simp [*]; done)), H', ⟨by first | omega | exact Nat.le_refl _⟩, ⟨by (with_reducible repeat (first | refine xA5 ?_ _ | refine xA8 ?_ | refine xA4 ?_ _)); exact BK569.out⟩, ⟨by repeat (first | (with_reducible first | exact HB.out | apply xA1 | apply xA0 | apply below_drew1 | refine xA6 ?_ GE569.out) | exact HB.out)⟩⟩
 case rest =>
  clear HC2
  try clear c1
  try clear p2
  try clear c4
  try clear c4b0
  try clear c4b1
  try clear c5
  try clear c5b0
  try clear c5b1
  try clear hcz6_0 hcz6_1 hcz6_2 hcz6_3 hcz6_4
  try clear hcz7_0 hcz7_1 hcz7_2 hcz7_3 hcz7_4
  try clear hcz8_0 hcz8_1 hcz8_2 hcz8_3 hcz8_4
  try clear hfz6_0 hfz6_1 hfz6_2 hfz6_3 hfz6_4
  try clear hfz7_0 hfz7_1 hfz7_2 hfz7_3 hfz7_4
  try clear hfz8_0 hfz8_1 hfz8_2 hfz8_3 hfz8_4
  obtain ⟨kq, x17_1, rfl, HA, HJ1, BK569, HB⟩ := hcut
  cases kq with
  | zero => exact absurd HA.out (by simp [xAm.j0])
  | succ kj1 =>
   have H := HA.out
   clear HA
   simp only [xAm.j0] at H
   by_cases c9 : x17_1 = true
   ·subst c9
    have H1 : (some false) = some r := by rw [if_pos rfl] at H; exact H
    clear H
    have H := H1
    clear H1
    obtain rfl := Option.some.inj H
    go_wp2
    go_ret
    exact ⟨by first | rfl | (simp <;> rfl) | (simp [*] <;> rfl), by repeat (first | (with_reducible first | exact HB.out | apply xA1 | apply xA0 | apply below_drew1 | refine xA6 ?_ GE569.out) | exact HB.out)⟩
   ·replace c9 := Bool.eq_false_iff.mpr c9
    subst c9
    have H1 : (xAm.l0 kj1 0 a0_0 a0_1 a0_2 a0_3 l0_4) = some r := by rw [if_neg (show ¬ (false = true) by decide)] at H; exact H
    clear H
    have H := H1
    clear H1
    have H' := Aside0.mk H
    clear H
    go_wp2
    go_loopg [3] kj1 (fun kq v3 w' => ∃ (x3_2 : Int), v3 = .int .i64 x3_2 ∧ Aside0 (xAm.l0 kq x3_2 a0_0 a0_1 a0_2 a0_3 l0_4 = some r) ∧ Aside0 (kq ≤ kj1) ∧ Aside0 (w'.heap[gb569]? = some (.cells #[.string a0_0, .string a0_1, .int .i64 a0_2, .int .i64 a0_3, (.slice A0_4 l0_4.length c0_4)] 25 (0, 0))) ∧ Aside0 (Below w.heap.size w w'))
    case atStart => exact ⟨(0), (by first | rfl | (simp; done) | (simp [*]; done)), H', ⟨Nat.le_refl _⟩, ⟨by (with_reducible repeat (first | refine xA5 ?_ _ | refine xA8 ?_ | refine xA4 ?_ _)); exact BK569.out⟩, ⟨by repeat (first | (with_reducible first | exact HB.out | apply xA1 | apply xA0 | apply below_drew1 | refine xA6 ?_ GE569.out) | exact HB.out)⟩⟩
    case round =>
     clear H'
     try clear c1
     try clear p2
     try clear c4
     try clear c4b0
     try clear c4b1
     try clear c5
     try clear c5b0
     try clear c5b1
     try clear c9
     try clear hcz6_0 hcz6_1 hcz6_2 hcz6_3 hcz6_4
     try clear hcz7_0 hcz7_1 hcz7_2 hcz7_3 hcz7_4
     try clear hcz8_0 hcz8_1 hcz8_2 hcz8_3 hcz8_4
     try clear hfz6_0 hfz6_1 hfz6_2 hfz6_3 hfz6_4
     try clear hfz7_0 hfz7_1 hfz7_2 hfz7_3 hfz7_4
     try clear hfz8_0 hfz8_1 hfz8_2 hfz8_3 hfz8_4
     try clear p2
     obtain ⟨x3_2, rfl, HA, HK2, BK569, HB⟩ := hrel
     cases gk with
     | zero => exact absurd HA.out (by simp [xAm.l0])
     | succ k2 =>
      have H := HA.out
      clear HA
      simp only [xAm.l0] at H
      by_cases c10 : x3_2 < (l0_4.length : Int)
      ·rw [if_pos c10] at H
       have c10b0 : decide (x3_2 < (l0_4.length : Int)) = true := decide_eq_true c10
       clear c10
       by_cases c11 : 0 ≤ x3_2
       ·rw [if_pos c11] at H
        have c11b0 : decide (0 ≤ x3_2) = true := decide_eq_true c11
        clear c11
        replace H := Option.bind_eq_some_iff.mp H
        obtain ⟨t571, A120, H⟩ := H
        replace H : (if t571 = true then (xAm.l0 k2 (wrap64 (x3_2 + 1)) a0_0 a0_1 a0_2 a0_3 l0_4) else (some false)) = some r := H
        have A12 := Aside0.mk A120
        clear A120
        by_cases c13 : t571 = true
        ·subst c13
         have H1 : (xAm.l0 k2 (wrap64 (x3_2 + 1)) a0_0 a0_1 a0_2 a0_3 l0_4) = some r := by rw [if_pos rfl] at H; exact H
         clear H
         have H := H1
         clear H1
         have H' := Aside0.mk H
         clear H
         obtain ⟨hcz14_0, hcz14_1, hcz14_2, hcz14_3, hcz14_4, hfz14_0, hfz14_1, hfz14_2, hfz14_3, hfz14_4⟩ := ex5 BK569.out
         have p570 : 0 ≤ (x3_2 : Int) := of_decide_eq_true (by first | (with_reducible assumption) | assumption)
         have q570 : x3_2 < (l0_4.length : Int) := of_decide_eq_true (by first | (with_reducible assumption) | assumption)
         obtain ⟨ad570, A570_4, c570_4, e570, hx570_0, hx570_1, hx570_2, hx570_3, hx570_4, hl570_4, hi570_4⟩ := xC3 HR0_4.out x3_2 p570 q570
         cases e570
         replace hx570_0 := (HB.out.cell (World.block_lt_of_cell? w _ hx570_0)).trans hx570_0
         replace hx570_1 := (HB.out.cell (World.block_lt_of_cell? w _ hx570_1)).trans hx570_1
         replace hx570_2 := (HB.out.cell (World.block_lt_of_cell? w _ hx570_2)).trans hx570_2
         replace hx570_3 := (HB.out.cell (World.block_lt_of_cell? w _ hx570_3)).trans hx570_3
         replace hx570_4 := (HB.out.cell (World.block_lt_of_cell? w _ hx570_4)).trans hx570_4
         have HR570_4 := Aside0.mk hi570_4
         have HC570_4 := Aside0.mk hl570_4
         clear hi570_4 hl570_4
         replace p570 := eq_true p570
         replace q570 := eq_true q570
         go_wp2_with (first | ((with_reducible refine xAj (f := 27) rfl ?_); refine xB6 (some 30) rfl rfl Tryd.func27 (by kernel_rfl) rfl #[.agg #[.string ((xA2 l0_4 x3_2).f0), .string ((xA2 l0_4 x3_2).f1), .int .i64 ((xA2 l0_4 x3_2).f2), .int .i64 ((xA2 l0_4 x3_2).f3), .slice A570_4 ((xA2 l0_4 x3_2).f4).length c570_4]] rfl (by (try simp only [List.map_toArray, List.map_cons, List.map_nil]); first | done | rfl | (simp only [List.length_drop, List.length_take]; rfl)) ?_; (with_reducible refine (xA9.calls k2 ((xA2 l0_4 x3_2).f0) ((xA2 l0_4 x3_2).f1) ((xA2 l0_4 x3_2).f2) ((xA2 l0_4 x3_2).f3) _ _ ((xA2 l0_4 x3_2).f4) true _ ?side1 ?side2 A12.out).mono ?_); (case side1 => repeat (first | exact (Kd.C_below HR570_4.out HB.out) | (with_reducible refine Kd.C_alloc ?_ _) | (with_reducible refine Kd.C_drewN ?_ _) | (with_reducible refine Kd.C_drew ?_))); (case side2 => exact HC570_4.out); rintro e w15 ⟨rfl, hb⟩; refine ⟨_, rfl, ?_⟩; have n0_ := Aside0.mk (xAt (g := gb569) (o := .cells #[.string a0_0, .string a0_1, .int .i64 a0_2, .int .i64 a0_3, .slice (some ad570) l0_4.length c0_4] 25 (0, 0)) (by (with_reducible repeat (first | refine xA5 ?_ _ | refine xA8 ?_ | refine xA4 ?_ _)); exact BK569.out) hb); have n1_ := Aside0.mk (xAi (by repeat (first | (with_reducible first | exact HB.out | apply xA1 | apply xA0 | apply below_drew1 | refine xA6 ?_ GE569.out) | exact HB.out)) hb); clear BK569; clear HB; have BK569 := n0_; have HB := n1_; clear n0_ n1_; (try clear hb); (try clear hb2); (try clear hk); (try clear hi)))
         go_roundg k2
         case measure => have := HJ1.out; have := HK2.out; omega
         case rel => exact ⟨(wrap64 (x3_2 + 1)), (by first | rfl | (simp; done) | (simp [*]; done)), H', ⟨by have := HJ1.out; have := HK2.out; omega⟩, ⟨by (with_reducible repeat (first | refine xA5 ?_ _ | refine xA8 ?_ | refine xA4 ?_ _)); exact BK569.out⟩, ⟨by repeat (first | (with_reducible first | exact HB.out | apply xA1 | apply xA0 | apply below_drew1 | refine xA6 ?_ GE569.out) | exact HB.out)⟩⟩
        ·replace c13 := Bool.eq_false_iff.mpr c13
         subst c13
         have H1 : (some false) = some r := by rw [if_neg (show ¬ (false = true) by decide)] at H; exact H
         clear H
         have H := H1
         clear H1
         obtain rfl := Option.some.inj H
         obtain ⟨hcz16_0, hcz16_1, hcz16_2, hcz16_3, hcz16_4, hfz16_0, hfz16_1, hfz16_2, hfz16_3, hfz16_4⟩ := ex5 BK569.out
         have p570 : 0 ≤ (x3_2 : Int) := of_decide_eq_true (by first | (with_reducible assumption) | assumption)
         have q570 : x3_2 < (l0_4.length : Int) := of_decide_eq_true (by first | (with_reducible assumption) | assumption)
         obtain ⟨ad570, A570_4, c570_4, e570, hx570_0, hx570_1, hx570_2, hx570_3, hx570_4, hl570_4, hi570_4⟩ := xC3 HR0_4.out x3_2 p570 q570
         cases e570
         replace hx570_0 := (HB.out.cell (World.block_lt_of_cell? w _ hx570_0)).trans hx570_0
         replace hx570_1 := (HB.out.cell (World.block_lt_of_cell? w _ hx570_1)).trans hx570_1
         replace hx570_2 := (HB.out.cell (World.block_lt_of_cell? w _ hx570_2)).trans hx570_2
         replace hx570_3 := (HB.out.cell (World.block_lt_of_cell? w _ hx570_3)).trans hx570_3
         replace hx570_4 := (HB.out.cell (World.block_lt_of_cell? w _ hx570_4)).trans hx570_4
         have HR570_4 := Aside0.mk hi570_4
         have HC570_4 := Aside0.mk hl570_4
         clear hi570_4 hl570_4
         replace p570 := eq_true p570
         replace q570 := eq_true q570
         go_wp2_with (first | ((with_reducible refine xAj (f := 27) rfl ?_); refine xB6 (some 30) rfl rfl Tryd.func27 (by kernel_rfl) rfl #[.agg #[.string ((xA2 l0_4 x3_2).f0), .string ((xA2 l0_4 x3_2).f1), .int .i64 ((xA2 l0_4 x3_2).f2), .int .i64 ((xA2 l0_4 x3_2).f3), .slice A570_4 ((xA2 l0_4 x3_2).f4).length c570_4]] rfl (by (try simp only [List.map_toArray, List.map_cons, List.map_nil]); first | done | rfl | (simp only [List.length_drop, List.length_take]; rfl)) ?_; (with_reducible refine (xA9.calls k2 ((xA2 l0_4 x3_2).f0) ((xA2 l0_4 x3_2).f1) ((xA2 l0_4 x3_2).f2) ((xA2 l0_4 x3_2).f3) _ _ ((xA2 l0_4 x3_2).f4) false _ ?side1 ?side2 A12.out).mono ?_); (case side1 => repeat (first | exact (Kd.C_below HR570_4.out HB.out) | (with_reducible refine Kd.C_alloc ?_ _) | (with_reducible refine Kd.C_drewN ?_ _) | (with_reducible refine Kd.C_drew ?_))); (case side2 => exact HC570_4.out); rintro e w17 ⟨rfl, hb⟩; refine ⟨_, rfl, ?_⟩; have n0_ := Aside0.mk (xAt (g := gb569) (o := .cells #[.string a0_0, .string a0_1, .int .i64 a0_2, .int .i64 a0_3, .slice (some ad570) l0_4.length c0_4] 25 (0, 0)) (by (with_reducible repeat (first | refine xA5 ?_ _ | refine xA8 ?_ | refine xA4 ?_ _)); exact BK569.out) hb); have n1_ := Aside0.mk (xAi (by repeat (first | (with_reducible first | exact HB.out | apply xA1 | apply xA0 | apply below_drew1 | refine xA6 ?_ GE569.out) | exact HB.out)) hb); clear BK569; clear HB; have BK569 := n0_; have HB := n1_; clear n0_ n1_; (try clear hb); (try clear hb2); (try clear hk); (try clear hi)))
         go_ret
         exact ⟨by first | rfl | (simp <;> rfl) | (simp [*] <;> rfl), by repeat (first | (with_reducible first | exact HB.out | apply xA1 | apply xA0 | apply below_drew1 | refine xA6 ?_ GE569.out) | exact HB.out)⟩
       ·rw [if_neg c11] at H
        exact absurd H (by simp)
      ·rw [if_neg c10] at H
       have c10b0 : decide (x3_2 < (l0_4.length : Int)) = false := decide_eq_false c10
       clear c10
       obtain rfl := Option.some.inj H
       obtain ⟨hcz18_0, hcz18_1, hcz18_2, hcz18_3, hcz18_4, hfz18_0, hfz18_1, hfz18_2, hfz18_3, hfz18_4⟩ := ex5 BK569.out
       go_wp2
       go_ret
       exact ⟨by first | rfl | (simp <;> rfl) | (simp [*] <;> rfl), by repeat (first | (with_reducible first | exact HB.out | apply xA1 | apply xA0 | apply below_drew1 | refine xA6 ?_ GE569.out) | exact HB.out)⟩

end Go.Proofs.YtknbfhhmjbnemaaDoor.P
end
section
namespace Go.Proofs.YtknbfhhmjbnemaaDoor.P
open Go.RowKit Go.Proofs.YtknbfhhmjbnemaaDoorW.PrintWords Go.Proofs.YtknbfhhmjbnemaaDoorW.PrintLast Go.Proofs.YtknbfhhmjbnemaaDoorW.PrintMore Go.Proofs.YtknbfhhmjbnemaaDoor.Pure

/-! the document says of names and leaves what the program says -/
theorem xHq (s : ByteArray) (hs : s.size ≤ 140737488351232) : ∃ b : Bool, ∀ k, 20000 ≤ k → xBb.f k s = some b ∧ xB5.f k s = some b := by
 obtain ⟨x, hx⟩ : ∃ x, told (scan (xAl s)) = x := ⟨_, rfl⟩
 have key : ∃ b : Bool, (if x.2.1 = 0 then (if (x.1.length : Int) = 1 then (if 0 < (x.1.length : Int) then (if ((xB8 x.1 0).f0) = 0 then (if ((xB8 x.1 0).f1).toList = s.toList then (some (!(resB s.data.toList))) else (some false)) else (some false)) else (none)) else (some false)) else (some false)) = some b := by
  by_cases h1 : x.2.1 = 0
  ·rw [if_pos h1]
   by_cases h2 : (x.1.length : Int) = 1
   ·rw [if_pos h2, if_pos (by omega)]
    split
    ·split
     ·exact ⟨_, rfl⟩
     ·exact ⟨_, rfl⟩
    ·exact ⟨_, rfl⟩
   ·rw [if_neg h2]
    exact ⟨_, rfl⟩
  ·rw [if_neg h1]
   exact ⟨_, rfl⟩
 obtain ⟨b, hb⟩ := key
 refine ⟨b, fun k hk => ⟨?_, ?_⟩⟩
 ·unfold xBb.f
  rw [xF8 s k (by omega), hx, xHi s hs]
  simp only [Option.bind_some]
  exact hb
 ·unfold xB5.f
  rw [xEz s k hk, hx, ref_run s k (by omega)]
  simp only [Option.bind_some]
  exact hb
theorem hex_same (s : ByteArray) (hs : s.size ≤ 140737488351232) : ∃ b : Bool, ∀ k, 20000 ≤ k → xBz.f k s = some b ∧ xBc.f k s = some b := by
 obtain ⟨x, hx⟩ : ∃ x, told (scan (xAl ((⟨#[36]⟩ : ByteArray) ++ s))) = x := ⟨_, rfl⟩
 have key : ∃ b : Bool, (if x.2.1 = 0 then (if (x.1.length : Int) = 1 then (if 0 < (x.1.length : Int) then (if ((xB8 x.1 0).f0) = 2 then (some (((xB8 x.1 0).f1).toList == s.toList)) else (some false)) else (none)) else (some false)) else (some false)) = some b := by
  by_cases h1 : x.2.1 = 0
  ·rw [if_pos h1]
   by_cases h2 : (x.1.length : Int) = 1
   ·rw [if_pos h2, if_pos (by omega)]
    split
    ·exact ⟨_, rfl⟩
    ·exact ⟨_, rfl⟩
   ·rw [if_neg h2]
    exact ⟨_, rfl⟩
  ·rw [if_neg h1]
   exact ⟨_, rfl⟩
 obtain ⟨b, hb⟩ := key
 refine ⟨b, fun k hk => ⟨?_, ?_⟩⟩
 ·unfold xBz.f
  rw [if_pos (by omega), xF8 _ k (by omega), hx]
  simp only [Option.bind_some]
  exact hb
 ·unfold xBc.f
  rw [if_pos (by omega), xEz _ k hk, hx]
  simp only [Option.bind_some]
  exact hb
/-- A leaf of one of the three kinds. -/
theorem xDl (n : S25) (op : ByteArray) (hop : op = ⟨#[110, 117, 109]⟩ ∨ op = ⟨#[110, 97, 109, 101]⟩ ∨ op = ⟨#[117, 115, 101]⟩) (hs : n.f1.size ≤ 140737488351232) :
  ∃ b : Bool, (b = true → n.f0.toList = op.toList) ∧ ∀ k, 20001 ≤ k → xAu.f k n.f0 n.f1 n.f2 n.f3 n.f4 op = some b ∧ xAf.f k n.f0 n.f1 n.f2 n.f3 n.f4 op = some b := by
 obtain ⟨b, hb⟩ := xHq n.f1 hs
 by_cases h0 : n.f0.toList = op.toList
 case neg =>
  refine ⟨false, (fun h => by cases h), fun k hk => ?_⟩
  obtain ⟨k, rfl⟩ : ∃ q, k = q + 1 := ⟨k - 1, by omega⟩
  unfold xAu.f xAf.f
  rw [if_neg h0, if_neg h0, xAu.j0, xAf.j0, if_pos rfl, if_pos rfl]
  exact ⟨rfl, rfl⟩
 by_cases hl : (n.f4.length : Int) > 0
 ·refine ⟨false, (fun h => by cases h), fun k hk => ?_⟩
  obtain ⟨k, rfl⟩ : ∃ q, k = q + 1 := ⟨k - 1, by omega⟩
  unfold xAu.f xAf.f
  rw [if_pos h0, if_pos h0, xAu.j0, xAf.j0, if_pos (by simpa using hl), if_pos (by simpa using hl)]
  exact ⟨rfl, rfl⟩
 have hl2 : decide ((n.f4.length : Int) > 0) = false := decide_eq_false hl
 rcases hop with rfl | hop
 ·refine ⟨if n.f1.toList = ([] : List UInt8) then (if n.f2 ≥ 0 then decide (n.f2 ≤ 999999999) else false) else false, fun _ => h0, fun k hk => ?_⟩
  obtain ⟨k, rfl⟩ : ∃ q, k = q + 1 := ⟨k - 1, by omega⟩
  unfold xAu.f xAf.f
  constructor
  ·rw [if_pos h0, xAu.j0, hl2, if_neg (by simp), if_pos (by simp only [ByteArray.toList_eq])]
   unfold xBt.f
   split
   ·split <;> rfl
   ·rfl
  ·rw [if_pos h0, xAf.j0, hl2, if_neg (by simp), if_pos (by simp only [ByteArray.toList_eq])]
   split
   ·split <;> rfl
   ·rfl
 ·refine ⟨if n.f2 = 0 then b else false, fun _ => h0, fun k hk => ?_⟩
  obtain ⟨k, rfl⟩ : ∃ q, k = q + 1 := ⟨k - 1, by omega⟩
  have e1 : ¬ op.toList = ([110, 117, 109] : List UInt8) := by rcases hop with rfl | rfl <;> simp only [ByteArray.toList_eq] <;> decide
  have e2 : ¬ op.toList = ([104, 101, 120] : List UInt8) := by rcases hop with rfl | rfl <;> simp only [ByteArray.toList_eq] <;> decide
  unfold xAu.f xAf.f
  constructor
  ·rw [if_pos h0, xAu.j0, hl2, if_neg (by simp), if_neg e1, (hb k (by omega)).1]
   simp only [Option.bind_some]
   split <;> rfl
  ·rw [if_pos h0, xAf.j0, hl2, if_neg (by simp), if_neg e1, if_neg e2, (hb k (by omega)).2]
   simp only [Option.bind_some]
   split <;> rfl
/-- A hex leaf. -/
theorem xHv (n : S25) (hs : n.f1.size ≤ 140737488351232) :
    ∃ b : Bool, ∀ k, 20001 ≤ k → (if n.f0.toList = ([104, 101, 120] : List UInt8) then (if n.f2 = 0 then (if (n.f4.length : Int) = 0 then ((xBz.f k n.f1).bind fun t174 => (some t174)) else (some false)) else (some false)) else (some false)) = some b ∧ xAf.f k n.f0 n.f1 n.f2 n.f3 n.f4 ⟨#[104, 101, 120]⟩ = some b := by
  obtain ⟨b, hb⟩ := hex_same n.f1 hs
  refine ⟨if n.f0.toList = ([104, 101, 120] : List UInt8) then (if n.f2 = 0 then (if (n.f4.length : Int) = 0 then b else false) else false) else false, fun k hk => ?_⟩
  obtain ⟨k, rfl⟩ : ∃ q, k = q + 1 := ⟨k - 1, by omega⟩
  rw [(hb (k + 1) (by omega)).1]
  constructor
  · simp only [Option.bind_some]
    split
    · split
      · split <;> rfl
      · rfl
    · rfl
  · unfold xAf.f
    have e : (⟨#[104, 101, 120]⟩ : ByteArray).toList = ([104, 101, 120] : List UInt8) := by simp only [ByteArray.toList_eq]
    by_cases h0 : n.f0.toList = ([104, 101, 120] : List UInt8)
    · rw [if_pos (by rw [e]; exact h0), if_pos h0, xAf.j0, e]
      by_cases hl : (n.f4.length : Int) = 0
      · rw [if_neg (by rw [hl]; decide), if_neg (by decide), if_pos rfl, (hb k (by omega)).2, if_pos hl]
        simp only [Option.bind_some]
        split <;> rfl
      · rw [if_pos (by have : (n.f4.length : Int) > 0 := by omega
                       simpa using this), if_neg hl]
        split <;> rfl
    · rw [if_neg (by rw [e]; exact h0), if_neg h0, xAf.j0, if_pos rfl]

/-! the document says of expressions what the program says -/
/-- A tree of modest texts and widths. -/
def smd : Nat → S25 → Prop
 | 0, _ => True
 | k + 1, n => n.f0.size ≤ 140737488351232 ∧ n.f1.size ≤ 140737488351232 ∧ n.f4.length ≤ 1000000 ∧ (-9223372036854775808 ≤ n.f2 ∧ n.f2 ≤ 9223372036854775807) ∧ ∀ x ∈ n.f4, smd k x
def Sm (n : S25) : Prop := ∀ k, smd k n
theorem Sm.s1 {n : S25} (h : Sm n) : n.f1.size ≤ 140737488351232 := (h 1).2.1
theorem Sm.len {n : S25} (h : Sm n) : n.f4.length ≤ 1000000 := (h 1).2.2.1
theorem Sm.num {n : S25} (h : Sm n) : -9223372036854775808 ≤ n.f2 ∧ n.f2 ≤ 9223372036854775807 := (h 1).2.2.2.1
theorem Sm.mem {n x : S25} (h : Sm n) (hx : x ∈ n.f4) : Sm x := fun k => (h (k + 1)).2.2.2.2 x hx
def xLb (n : S25) (nest : Int) : Prop := ∃ (b : Bool) (K : Nat), ∀ k, K ≤ k → xA7.f k n.f0 n.f1 n.f2 n.f3 n.f4 nest = some b ∧ xA3.f k n.f0 n.f1 n.f2 n.f3 n.f4 nest = some b
section
variable {a0 a1 : ByteArray} {a2 a3 : Int} {L : List S25} {nest : Int}
theorem xG1 (m : Nat) (hm : m ≤ L.length) (hL : L.length ≤ 1000000) (hn : 0 ≤ nest ∧ nest ≤ 12) (h : ∀ i, i < m → xLb (xA2 L (i : Int)) (nest + 1)) :
  ∀ (d i : Nat), i + d = m → ∃ (b : Bool) (K : Nat), ∀ k, K ≤ k → xA7.l0 k nest (m : Int) true (i : Int) a0 a1 a2 a3 L = some b ∧ xA3.l0 k nest (m : Int) (i : Int) a0 a1 a2 a3 L = some b
 | 0, i, hi => ⟨true, 1, fun k hk => by
  obtain ⟨k, rfl⟩ : ∃ q, k = q + 1 := ⟨k - 1, by omega⟩
  rw [xA7.l0, xA3.l0, if_pos rfl, if_neg (by omega), if_neg (by omega)]
  exact ⟨rfl, rfl⟩⟩
 | d + 1, i, hi => by
  obtain ⟨b1, K1, h1⟩ := h i (by omega)
  have w1 : wrap64 (nest + 1) = nest + 1 := by unfold wrap64; omega
  have w2 : wrap64 ((i : Int) + 1) = ((i + 1 : Nat) : Int) := by unfold wrap64; omega
  cases b1 with
  | false =>
   refine ⟨false, K1 + 2, fun k hk => ?_⟩
   obtain ⟨k, rfl⟩ : ∃ q, k = q + 2 := ⟨k - 2, by omega⟩
   constructor
   ·rw [xA7.l0, if_pos rfl, if_pos (by omega), if_pos (by omega), if_pos (by omega), w1, (h1 (k + 1) (by omega)).1, Option.bind_some, xA7.l0, if_neg (by decide)]
   ·rw [xA3.l0, if_pos (by omega), if_pos (by omega), if_pos (by omega), w1, (h1 (k + 1) (by omega)).2, Option.bind_some, if_neg (by decide)]
  | true =>
   obtain ⟨b, K, h2⟩ := xG1 m hm hL hn h d (i + 1) (by omega)
   refine ⟨b, K + K1 + 1, fun k hk => ?_⟩
   obtain ⟨k, rfl⟩ : ∃ q, k = q + 1 := ⟨k - 1, by omega⟩
   constructor
   ·rw [xA7.l0, if_pos rfl, if_pos (by omega), if_pos (by omega), if_pos (by omega), w1, (h1 k (by omega)).1, Option.bind_some, w2]
    exact (h2 k (by omega)).1
   ·rw [xA3.l0, if_pos (by omega), if_pos (by omega), if_pos (by omega), w1, (h1 k (by omega)).2, Option.bind_some, if_pos rfl, w2]
    exact (h2 k (by omega)).2
theorem xGx (m : Nat) (hm : m ≤ L.length) (hL : L.length ≤ 1000000) (hn : 0 ≤ nest ∧ nest ≤ 12) (h : ∀ i, i < m → xLb (xA2 L (i : Int)) (nest + 1)) :
  ∃ (b : Bool) (K : Nat), ∀ k, K ≤ k → xA7.j3 k nest (m : Int) true a0 a1 a2 a3 L = some b ∧ xA3.j3 k nest (m : Int) a0 a1 a2 a3 L = some b := by
 obtain ⟨b, K, h1⟩ := xG1 (a0 := a0) (a1 := a1) (a2 := a2) (a3 := a3) m hm hL hn h m 0 (by omega)
 refine ⟨b, K + 1, fun k hk => ?_⟩
 obtain ⟨k, rfl⟩ : ∃ q, k = q + 1 := ⟨k - 1, by omega⟩
 rw [xA7.j3, xA3.j3]
 exact h1 k (by omega)
theorem xDc (m : Int) (k : Nat) : xA7.j3 (k + 2) nest m false a0 a1 a2 a3 L = some false := by
 rw [xA7.j3, xA7.l0, if_neg (by decide)]
/-- Behind a word: how the two go on. -/
theorem j1_same (hsm : ∀ x ∈ L, Sm x) (hL : L.length ≤ 1000000) (hn : 0 ≤ nest ∧ nest ≤ 12) (h : ∀ x ∈ L, xLb x (nest + 1)) :
  ∃ (b : Bool) (K : Nat), ∀ k, K ≤ k → xA7.j1 k nest ((L.length : Int) == 0) a0 a1 a2 a3 L = some b ∧ xA3.j1 k nest (decide ((L.length : Int) < 1)) a0 a1 a2 a3 L = some b := by
 have hrd : ∀ i : Nat, i < L.length → xA2 L (i : Int) ∈ L := fun i hi => xE1 hi
 have hx : ∀ m : Nat, m ≤ L.length → ∀ i, i < m → xLb (xA2 L (i : Int)) (nest + 1) := fun m hm i hi => h _ (hrd i (by omega))
 by_cases h0 : L.length = 0
 ·refine ⟨false, 1, fun k hk => ?_⟩
  obtain ⟨k, rfl⟩ : ∃ q, k = q + 1 := ⟨k - 1, by omega⟩
  rw [xA7.j1, xA3.j1, h0]
  exact ⟨by rw [if_pos (by decide)], by rw [if_pos (by decide)]⟩
 have e1 : ((L.length : Int) == 0) = false := by rw [beq_eq_false_iff_ne]; omega
 have e2 : decide ((L.length : Int) < 1) = false := decide_eq_false (by omega)
 rw [e1, e2]
 by_cases w1 : a0.toList = ([108, 105, 110, 101, 97, 114] : List UInt8)
 ·by_cases h3 : L.length = 3
  case neg =>
   refine ⟨false, 3, fun k hk => ?_⟩
   obtain ⟨k, rfl⟩ : ∃ q, k = q + 3 := ⟨k - 3, by omega⟩
   constructor
   ·rw [xA7.j1, if_neg (by decide), if_pos w1, if_neg (by omega), xDc]
   ·rw [xA3.j1, if_neg (by decide), if_pos w1, if_neg (by omega)]
  obtain ⟨b1, _, l1⟩ := xDl (xA2 L 1) ⟨#[110, 117, 109]⟩ (.inl rfl) (hsm _ (hrd 1 (by omega))).s1
  obtain ⟨b2, _, l2⟩ := xDl (xA2 L 2) ⟨#[110, 117, 109]⟩ (.inl rfl) (hsm _ (hrd 2 (by omega))).s1
  obtain ⟨b, K, hj⟩ := xGx (a0 := a0) (a1 := a1) (a2 := a2) (a3 := a3) 1 (by omega) hL hn (hx 1 (by omega))
  refine ⟨if b1 = true then (if b2 = true then b else false) else false, K + 20005, fun k hk => ?_⟩
  obtain ⟨k, rfl⟩ : ∃ q, k = q + 3 := ⟨k - 3, by omega⟩
  constructor
  ·rw [xA7.j1, if_neg (by decide), if_pos w1, if_pos (by omega), if_pos (by omega), (l1 (k + 2) (by omega)).1, Option.bind_some]
   cases b1 with
   | false => rw [if_neg (by decide), if_neg (by decide), xDc]
   | true =>
    rw [if_pos rfl, if_pos rfl, if_pos (by omega), (l2 (k + 2) (by omega)).1, Option.bind_some]
    cases b2 with
    | false => rw [if_neg (by decide), xDc]
    | true => rw [if_pos rfl]; exact (hj (k + 2) (by omega)).1
  ·rw [xA3.j1, if_neg (by decide), if_pos w1, if_pos (by omega), if_pos (by omega), (l1 (k + 2) (by omega)).2, Option.bind_some]
   cases b1 with
   | false => rw [if_neg (by decide), if_neg (by decide)]
   | true =>
    rw [if_pos rfl, if_pos rfl, if_pos (by omega), (l2 (k + 2) (by omega)).2, Option.bind_some]
    cases b2 with
    | false => rw [if_neg (by decide), if_neg (by decide)]
    | true => rw [if_pos rfl, if_pos rfl]; exact (hj (k + 2) (by omega)).2
 by_cases w2 : a0.toList = ([115, 110, 97, 112, 115, 104, 111, 116] : List UInt8)
 ·by_cases h3 : L.length = 3
  case neg =>
   refine ⟨false, 3, fun k hk => ?_⟩
   obtain ⟨k, rfl⟩ : ∃ q, k = q + 3 := ⟨k - 3, by omega⟩
   constructor
   ·rw [xA7.j1, if_neg (by decide), if_neg w1, if_pos w2, if_neg (by omega), xDc]
   ·rw [xA3.j1, if_neg (by decide), if_neg w1, if_pos w2, if_neg (by omega)]
  obtain ⟨b2, _, l2⟩ := xDl (xA2 L 2) ⟨#[110, 117, 109]⟩ (.inl rfl) (hsm _ (hrd 2 (by omega))).s1
  obtain ⟨b, K, hj⟩ := xGx (a0 := a0) (a1 := a1) (a2 := a2) (a3 := a3) 2 (by omega) hL hn (hx 2 (by omega))
  refine ⟨if b2 = true then b else false, K + 20005, fun k hk => ?_⟩
  obtain ⟨k, rfl⟩ : ∃ q, k = q + 3 := ⟨k - 3, by omega⟩
  constructor
  ·rw [xA7.j1, if_neg (by decide), if_neg w1, if_pos w2, if_pos (by omega), if_pos (by omega), (l2 (k + 2) (by omega)).1, Option.bind_some]
   cases b2 with
   | false => rw [if_neg (by decide), xDc]
   | true => rw [if_pos rfl]; exact (hj (k + 2) (by omega)).1
  ·rw [xA3.j1, if_neg (by decide), if_neg w1, if_pos w2, if_pos (by omega), if_pos (by omega), (l2 (k + 2) (by omega)).2, Option.bind_some]
   cases b2 with
   | false => rw [if_neg (by decide), if_neg (by decide)]
   | true => rw [if_pos rfl, if_pos rfl]; exact (hj (k + 2) (by omega)).2
 -- crypt, integrity, verity, concat, mirror, others
 obtain ⟨c, hc⟩ : ∃ c : Bool, c = (if a0.toList = ([99, 114, 121, 112, 116] : List UInt8) then (a0.toList == ([99, 114, 121, 112, 116] : List UInt8)) else if a0.toList = ([105, 110, 116, 101, 103, 114, 105, 116, 121] : List UInt8) then (a0.toList == ([105, 110, 116, 101, 103, 114, 105, 116, 121] : List UInt8)) else (a0.toList == ([118, 101, 114, 105, 116, 121] : List UInt8))) := ⟨_, rfl⟩
 have ep : ∀ k, xA7.j1 (k + 1) nest false a0 a1 a2 a3 L = xA7.j2 k nest 1 true a0 c a0 a1 a2 a3 L := by
  intro k
  rw [xA7.j1, if_neg (by decide), if_neg w1, if_neg w2, hc]
  split
  ·rfl
  ·split <;> rfl
 have er_ : ∀ k, xA3.j1 (k + 1) nest false a0 a1 a2 a3 L = xA3.j2 k nest 1 a0 c a0 a1 a2 a3 L := by
  intro k
  rw [xA3.j1, if_neg (by decide), if_neg w1, if_neg w2, hc]
  split
  ·rfl
  ·split <;> rfl
 clear hc
 cases c with
 | true =>
  by_cases h2 : L.length = 2
  case neg =>
   refine ⟨false, 4, fun k hk => ?_⟩
   obtain ⟨k, rfl⟩ : ∃ q, k = q + 4 := ⟨k - 4, by omega⟩
   constructor
   ·rw [ep, xA7.j2, if_pos rfl, if_neg (by omega), xDc]
   ·rw [er_, xA3.j2, if_pos rfl, if_neg (by omega)]
  obtain ⟨b2, _, l2⟩ := xDl (xA2 L 1) ⟨#[110, 97, 109, 101]⟩ (.inr (.inl rfl)) (hsm _ (hrd 1 (by omega))).s1
  obtain ⟨b, K, hj⟩ := xGx (a0 := a0) (a1 := a1) (a2 := a2) (a3 := a3) 1 (by omega) hL hn (hx 1 (by omega))
  refine ⟨if b2 = true then b else false, K + 20005, fun k hk => ?_⟩
  obtain ⟨k, rfl⟩ : ∃ q, k = q + 4 := ⟨k - 4, by omega⟩
  constructor
  ·rw [ep, xA7.j2, if_pos rfl, if_pos (by omega), if_pos (by omega), (l2 (k + 2) (by omega)).1, Option.bind_some]
   cases b2 with
   | false => rw [if_neg (by decide), xDc]
   | true => rw [if_pos rfl]; exact (hj (k + 2) (by omega)).1
  ·rw [er_, xA3.j2, if_pos rfl, if_pos (by omega), if_pos (by omega), (l2 (k + 2) (by omega)).2, Option.bind_some]
   cases b2 with
   | false => rw [if_neg (by decide), if_neg (by decide)]
   | true => rw [if_pos rfl, if_pos rfl]; exact (hj (k + 2) (by omega)).2
 | false =>
  obtain ⟨b, K, hj⟩ := xGx (a0 := a0) (a1 := a1) (a2 := a2) (a3 := a3) L.length (Nat.le_refl _) hL hn (hx L.length (Nat.le_refl _))
  by_cases w3 : a0.toList = ([99, 111, 110, 99, 97, 116] : List UInt8)
  ·refine ⟨b, K + 4, fun k hk => ?_⟩
   obtain ⟨k, rfl⟩ : ∃ q, k = q + 4 := ⟨k - 4, by omega⟩
   constructor
   ·rw [ep, xA7.j2, if_neg (by decide), if_pos w3]; exact (hj (k + 2) (by omega)).1
   ·rw [er_, xA3.j2, if_neg (by decide), if_pos w3]; exact (hj (k + 2) (by omega)).2
  by_cases w4 : a0.toList = ([109, 105, 114, 114, 111, 114] : List UInt8)
  ·refine ⟨b, K + 4, fun k hk => ?_⟩
   obtain ⟨k, rfl⟩ : ∃ q, k = q + 4 := ⟨k - 4, by omega⟩
   constructor
   ·rw [ep, xA7.j2, if_neg (by decide), if_neg w3, if_pos w4]; exact (hj (k + 2) (by omega)).1
   ·rw [er_, xA3.j2, if_neg (by decide), if_neg w3, if_pos w4]; exact (hj (k + 2) (by omega)).2
  ·refine ⟨false, 4, fun k hk => ?_⟩
   obtain ⟨k, rfl⟩ : ∃ q, k = q + 4 := ⟨k - 4, by omega⟩
   constructor
   ·rw [ep, xA7.j2, if_neg (by decide), if_neg w3, if_neg w4, xDc]
   ·rw [er_, xA3.j2, if_neg (by decide), if_neg w3, if_neg w4]
/-- Of a 'use' that is no leaf the document says no. -/
theorem xKv (hu : a0.toList = ([117, 115, 101] : List UInt8)) (x : Bool) (k : Nat) : xA3.j1 (k + 2) nest x a0 a1 a2 a3 L = some false := by
 rw [xA3.j1]
 cases x with
 | true => rw [if_pos rfl]
 | false =>
  rw [if_neg (by decide), if_neg (by rw [hu]; decide), if_neg (by rw [hu]; decide), if_neg (by rw [hu]; decide), if_neg (by rw [hu]; decide)]
  rw [xA3.j2, hu, if_neg (by decide), if_neg (by decide), if_neg (by decide)]
end
theorem x_same : ∀ (d : Nat) (nest : Int), nest + d = 13 → 0 ≤ nest → ∀ n, Sm n → xLb n nest := by
 intro d
 induction d with
 | zero =>
  intro nest hd h0 n hn
  obtain ⟨b, _, hl⟩ := xDl n ⟨#[117, 115, 101]⟩ (.inr (.inr rfl)) hn.s1
  refine ⟨false, 20005, fun k hk => ?_⟩
  obtain ⟨k, rfl⟩ : ∃ q, k = q + 2 := ⟨k - 2, by omega⟩
  constructor
  ·rw [xA7.f, if_pos (by omega), xA7.j0, if_pos rfl, if_neg (by omega)]
  ·rw [xA3.f, (hl (k + 1) (by omega)).2, Option.bind_some]
   have e : xA3.j0 (k + 1) nest true n.f0 n.f1 n.f2 n.f3 n.f4 = some false := by
    rw [xA3.j0, if_pos rfl, decide_eq_false (by omega)]
   rw [show decide (nest > 12) = true from decide_eq_true (by omega), e]
   split <;> rfl
 | succ d ih =>
  intro nest hd h0 n hn
  obtain ⟨b, hbu, hl⟩ := xDl n ⟨#[117, 115, 101]⟩ (.inr (.inr rfl)) hn.s1
  have eu : (⟨#[117, 115, 101]⟩ : ByteArray).toList = ([117, 115, 101] : List UInt8) := by simp only [ByteArray.toList_eq]
  rw [eu] at hbu
  by_cases hu : n.f0.toList = ([117, 115, 101] : List UInt8)
  ·refine ⟨b, 20009, fun k hk => ?_⟩
   obtain ⟨k, rfl⟩ : ∃ q, k = q + 4 := ⟨k - 4, by omega⟩
   constructor
   ·rw [xA7.f, if_neg (by omega), xA7.j0, if_pos (by rw [hu]; rfl), if_pos (by omega), (hl (k + 2) (by omega)).1]
    rfl
   ·rw [xA3.f, (hl (k + 3) (by omega)).2, Option.bind_some]
    cases b with
    | true => rw [if_pos rfl, xA3.j0, if_pos rfl, decide_eq_true (by omega)]
    | false =>
     rw [if_neg (by decide), xA3.j0, if_neg (by rw [decide_eq_false (by omega)]; decide)]
     split
     ·split
      ·exact xKv hu _ k
      ·exact xKv hu _ k
     ·exact xKv hu _ k
  ·have hbf : b = false := by
    cases b with
    | false => rfl
    | true => exact absurd (hbu rfl) hu
   obtain ⟨c, K, hj⟩ := j1_same (a0 := n.f0) (a1 := n.f1) (a2 := n.f2) (a3 := n.f3) (fun x hx => hn.mem hx) hn.len ⟨h0, by omega⟩ (fun x hx => ih (nest + 1) (by omega) (by omega) x (hn.mem hx))
   have eb : (n.f0.toList == ([117, 115, 101] : List UInt8)) = false := beq_eq_false_iff_ne.2 hu
   by_cases hok : n.f1.toList = ([] : List UInt8) ∧ n.f2 = 0
   ·refine ⟨c, K + 20009, fun k hk => ?_⟩
    obtain ⟨k, rfl⟩ : ∃ q, k = q + 2 := ⟨k - 2, by omega⟩
    constructor
    ·rw [xA7.f, if_neg (by omega), xA7.j0, if_neg (by rw [eb]; decide), if_pos hok.2, if_pos hok.1]
     exact (hj k (by omega)).1
    ·rw [xA3.f, (hl (k + 1) (by omega)).2, Option.bind_some, hbf, if_neg (by decide), xA3.j0, if_neg (by rw [decide_eq_false (by omega)]; decide), if_pos hok.1, if_pos hok.2]
     exact (hj k (by omega)).2
   ·refine ⟨false, 20009, fun k hk => ?_⟩
    obtain ⟨k, rfl⟩ : ∃ q, k = q + 3 := ⟨k - 3, by omega⟩
    constructor
    ·rw [xA7.f, if_neg (by omega), xA7.j0, if_neg (by rw [eb]; decide)]
     have e : xA7.j1 (k + 1) nest true n.f0 n.f1 n.f2 n.f3 n.f4 = some false := by rw [xA7.j1, if_pos rfl]
     by_cases h2 : n.f2 = 0
     ·rw [if_pos h2, if_neg (fun h => hok ⟨h, h2⟩)]; exact e
     ·rw [if_neg h2]; exact e
    ·rw [xA3.f, (hl (k + 2) (by omega)).2, Option.bind_some, hbf, if_neg (by decide), xA3.j0, if_neg (by rw [decide_eq_false (by omega)]; decide)]
     have e : xA3.j1 (k + 1) nest true n.f0 n.f1 n.f2 n.f3 n.f4 = some false := by rw [xA3.j1, if_pos rfl]
     by_cases h1 : n.f1.toList = ([] : List UInt8)
     ·rw [if_pos h1, if_neg (fun h => hok ⟨h1, h⟩)]; exact e
     ·rw [if_neg h1]; exact e

/-! the document says of statements and files what the program says -/
def SSame (n : S25) : Prop := ∃ (b : Bool) (K : Nat), ∀ k, K ≤ k → xAa.f k n.f0 n.f1 n.f2 n.f3 n.f4 = some b ∧ xA9.f k n.f0 n.f1 n.f2 n.f3 n.f4 = some b
/-- Behind the name. -/
theorem xDn {n : S25} (hn : Sm n) {x : Bool} (hx : x = (if n.f0.toList = ([100, 101, 118, 105, 99, 101] : List UInt8) then (n.f0.toList == ([100, 101, 118, 105, 99, 101] : List UInt8)) else (n.f0.toList == ([106, 111, 117, 114, 110, 97, 108] : List UInt8)))) {b : Bool} {K : Nat}
  (h : ∀ k, K ≤ k → xAa.j0 k n.f0 x n.f0 n.f1 n.f2 n.f3 n.f4 = some b ∧ xA9.j0 k n.f0 x n.f0 n.f1 n.f2 n.f3 n.f4 = some b) : SSame n := by
 obtain ⟨c, hc⟩ := xHq n.f1 hn.s1
 refine ⟨if c = true then b else false, K + 20000, fun k hk => ?_⟩
 have h1 := h k (by omega)
 rw [hx] at h1
 constructor
 ·unfold xAa.f
  rw [(hc k (by omega)).1, Option.bind_some]
  cases c with
  | false => rw [if_neg (by decide), if_neg (by decide)]
  | true =>
   rw [if_pos rfl, if_pos rfl]
   by_cases hd : n.f0.toList = ([100, 101, 118, 105, 99, 101] : List UInt8)
   ·rw [if_pos hd] at h1 ⊢; exact h1.1
   ·rw [if_neg hd] at h1 ⊢; exact h1.1
 ·unfold xA9.f
  rw [(hc k (by omega)).2, Option.bind_some]
  cases c with
  | false => rw [if_neg (by decide), if_neg (by decide)]
  | true =>
   rw [if_pos rfl, if_pos rfl]
   by_cases hd : n.f0.toList = ([100, 101, 118, 105, 99, 101] : List UInt8)
   ·rw [if_pos hd] at h1 ⊢; exact h1.2
   ·rw [if_neg hd] at h1 ⊢; exact h1.2
theorem st_same {n : S25} (hn : Sm n) : SSame n := by
  obtain ⟨x, hx⟩ : ∃ x : Bool, x = (if n.f0.toList = ([100, 101, 118, 105, 99, 101] : List UInt8) then (n.f0.toList == ([100, 101, 118, 105, 99, 101] : List UInt8)) else (n.f0.toList == ([106, 111, 117, 114, 110, 97, 108] : List UInt8))) := ⟨_, rfl⟩
  cases x with
  | true =>
    refine xDn hn hx (b := if (n.f4.length : Int) = 0 then (if n.f2 ≥ 0 then decide (n.f2 ≤ 999999999) else false) else false) (K := 1) (fun k hk => ?_)
    obtain ⟨k, rfl⟩ : ∃ q, k = q + 1 := ⟨k - 1, by omega⟩
    constructor
    · rw [xAa.j0, if_pos rfl]
      unfold xBt.f
      split
      · split <;> rfl
      · rfl
    · rw [xA9.j0, if_pos rfl]
      split
      · split <;> rfl
      · rfl
  | false =>
    by_cases hx1 : n.f0.toList = ([101, 120, 112, 111, 114, 116] : List UInt8)
    · refine xDn hn hx (b := if (n.f4.length : Int) = 0 then (if n.f2 = 0 then true else (n.f2 == 1)) else false) (K := 2) (fun k hk => ?_)
      obtain ⟨k, rfl⟩ : ∃ q, k = q + 2 := ⟨k - 2, by omega⟩
      constructor
      · rw [xAa.j0, if_neg (by decide), if_pos hx1]
        split
        · split <;> rfl
        · rfl
      · rw [xA9.j0, if_neg (by decide), if_neg (by rw [hx1]; decide), xA9.j1, if_neg (by rw [hx1]; decide), if_neg (by rw [hx1]; decide), if_pos hx1]
        split
        · split <;> rfl
        · rfl
    by_cases hkr : n.f0.toList = ([107, 101, 121] : List UInt8) ∨ n.f0.toList = ([114, 111, 111, 116] : List UInt8)
    · -- key, root
      have er : ∀ k, xA9.j0 (k + 1) n.f0 false n.f0 n.f1 n.f2 n.f3 n.f4 = xA9.j1 k n.f0 true n.f0 n.f1 n.f2 n.f3 n.f4 := by
        intro k
        rw [xA9.j0, if_neg (by decide)]
        rcases hkr with h | h
        · rw [if_pos h, h]; rfl
        · rw [if_neg (by rw [h]; decide), h]; rfl
      have ep : ∀ k, xAa.j0 (k + 1) n.f0 false n.f0 n.f1 n.f2 n.f3 n.f4 = if n.f2 = 0 then (xAa.j1 k ((n.f4.length : Int) != 1) n.f0 n.f1 n.f2 n.f3 n.f4) else (xAa.j1 k true n.f0 n.f1 n.f2 n.f3 n.f4) := by
        intro k
        rw [xAa.j0, if_neg (by decide), if_neg hx1]
      by_cases h2 : n.f2 = 0 ∧ n.f4.length = 1
      · have hm : xA2 n.f4 ((0 : Nat) : Int) ∈ n.f4 := xE1 (by omega)
        obtain ⟨b, hb⟩ := xHv (xA2 n.f4 0) (hn.mem hm).s1
        refine xDn hn hx (b := b) (K := 20010) (fun k hk => ?_)
        obtain ⟨k, rfl⟩ : ∃ q, k = q + 3 := ⟨k - 3, by omega⟩
        constructor
        · rw [ep, if_pos h2.1, show ((n.f4.length : Int) != 1) = false by rw [h2.2]; rfl, xAa.j1, if_neg (by decide), if_pos (by omega)]
          have e2 : ∀ y : Bool, y = true → xAa.j2 (k + 1) y n.f0 n.f1 n.f2 n.f3 n.f4 (xA2 n.f4 0).f0 (xA2 n.f4 0).f1 (xA2 n.f4 0).f2 (xA2 n.f4 0).f3 (xA2 n.f4 0).f4 = some b := by
            intro y hy
            rw [xAa.j2, if_pos hy]
            exact (hb k (by omega)).1
          rcases hkr with h | h
          · rw [if_pos h]; exact e2 _ (by rw [h]; rfl)
          · rw [if_neg (by rw [h]; decide)]; exact e2 _ (by rw [h]; rfl)
        · rw [er, xA9.j1, if_pos rfl, if_pos h2.1, if_pos (by omega), if_pos (by omega), (hb (k + 1) (by omega)).2]
          rfl
      · refine xDn hn hx (b := false) (K := 20010) (fun k hk => ?_)
        obtain ⟨k, rfl⟩ : ∃ q, k = q + 3 := ⟨k - 3, by omega⟩
        constructor
        · rw [ep]
          have e : xAa.j1 (k + 2) true n.f0 n.f1 n.f2 n.f3 n.f4 = some false := by rw [xAa.j1, if_pos rfl]
          by_cases h0 : n.f2 = 0
          · rw [if_pos h0, show ((n.f4.length : Int) != 1) = true by (have : ¬ n.f4.length = 1 := fun h => h2 ⟨h0, h⟩); simp only [bne_iff_ne]; omega]; exact e
          · rw [if_neg h0]; exact e
        · rw [er, xA9.j1, if_pos rfl]
          by_cases h0 : n.f2 = 0
          · rw [if_pos h0, if_neg (by have : ¬ n.f4.length = 1 := fun h => h2 ⟨h0, h⟩
                                      omega)]
          · rw [if_neg h0]
    have hk1 : ¬ n.f0.toList = ([107, 101, 121] : List UInt8) := fun h => hkr (.inl h)
    have hk2 : ¬ n.f0.toList = ([114, 111, 111, 116] : List UInt8) := fun h => hkr (.inr h)
    have er : ∀ k, xA9.j0 (k + 1) n.f0 false n.f0 n.f1 n.f2 n.f3 n.f4 = xA9.j1 k n.f0 false n.f0 n.f1 n.f2 n.f3 n.f4 := by
      intro k
      rw [xA9.j0, if_neg (by decide), if_neg hk1, show (n.f0.toList == ([114, 111, 111, 116] : List UInt8)) = false from beq_eq_false_iff_ne.2 hk2]
    have ep : ∀ k, xAa.j0 (k + 1) n.f0 false n.f0 n.f1 n.f2 n.f3 n.f4 = if n.f2 = 0 then (xAa.j1 k ((n.f4.length : Int) != 1) n.f0 n.f1 n.f2 n.f3 n.f4) else (xAa.j1 k true n.f0 n.f1 n.f2 n.f3 n.f4) := by
      intro k
      rw [xAa.j0, if_neg (by decide), if_neg hx1]
    have ej : ∀ k, xAa.j1 (k + 1) true n.f0 n.f1 n.f2 n.f3 n.f4 = some false := fun k => by rw [xAa.j1, if_pos rfl]
    by_cases h2 : n.f2 = 0 ∧ n.f4.length = 1
    · have hm : xA2 n.f4 ((0 : Nat) : Int) ∈ n.f4 := xE1 (by omega)
      have ep2 : ∀ k, xAa.j0 (k + 2) n.f0 false n.f0 n.f1 n.f2 n.f3 n.f4 = xAa.j2 k false n.f0 n.f1 n.f2 n.f3 n.f4 (xA2 n.f4 0).f0 (xA2 n.f4 0).f1 (xA2 n.f4 0).f2 (xA2 n.f4 0).f3 (xA2 n.f4 0).f4 := by
        intro k
        rw [ep, if_pos h2.1, show ((n.f4.length : Int) != 1) = false by rw [h2.2]; rfl, xAa.j1, if_neg (by decide), if_pos (by omega), if_neg hk1, show (n.f0.toList == ([114, 111, 111, 116] : List UInt8)) = false from beq_eq_false_iff_ne.2 hk2]
      by_cases hv : n.f0.toList = ([118, 111, 108, 117, 109, 101] : List UInt8)
      · obtain ⟨b, K, hb⟩ := x_same 12 1 (by decide) (by decide) _ (hn.mem hm)
        refine xDn hn hx (b := b) (K := K + 10) (fun k hk => ?_)
        obtain ⟨k, rfl⟩ : ∃ q, k = q + 3 := ⟨k - 3, by omega⟩
        constructor
        · rw [ep2, xAa.j2, if_neg (by decide), if_pos hv]
          have := (hb k (by omega)).1
          simp only [Int.natCast_zero] at this
          rw [this]
          rfl
        · rw [er, xA9.j1, if_neg (by decide), if_pos hv, if_pos h2.1, if_pos (by omega), if_pos (by omega)]
          have := (hb (k + 1) (by omega)).2
          rw [show ((0 : Nat) : Int) = 0 from rfl] at this
          rw [this]
          rfl
      · refine xDn hn hx (b := false) (K := 10) (fun k hk => ?_)
        obtain ⟨k, rfl⟩ : ∃ q, k = q + 3 := ⟨k - 3, by omega⟩
        constructor
        · rw [ep2, xAa.j2, if_neg (by decide), if_neg hv]
        · rw [er, xA9.j1, if_neg (by decide), if_neg hv, if_neg hx1]
    · refine xDn hn hx (b := false) (K := 10) (fun k hk => ?_)
      obtain ⟨k, rfl⟩ : ∃ q, k = q + 3 := ⟨k - 3, by omega⟩
      constructor
      · rw [ep]
        by_cases h0 : n.f2 = 0
        · rw [if_pos h0, show ((n.f4.length : Int) != 1) = true by (have : ¬ n.f4.length = 1 := fun h => h2 ⟨h0, h⟩); simp only [bne_iff_ne]; omega]; exact ej _
        · rw [if_neg h0]; exact ej _
      · rw [er, xA9.j1, if_neg (by decide)]
        by_cases hv : n.f0.toList = ([118, 111, 108, 117, 109, 101] : List UInt8)
        · rw [if_pos hv]
          by_cases h0 : n.f2 = 0
          · rw [if_pos h0, if_neg (by have : ¬ n.f4.length = 1 := fun h => h2 ⟨h0, h⟩
                                      omega)]
          · rw [if_neg h0]
        · rw [if_neg hv, if_neg hx1]
theorem xG6 {L : List S25} {a0 a1 : ByteArray} {a2 a3 : Int} (hL : L.length ≤ 1000000) (h : ∀ x ∈ L, Sm x) :
  ∀ (d i : Nat), i + d = L.length → ∃ (b : Bool) (K : Nat), ∀ k, K ≤ k → xAy.l0 k L (L.length : Int) (i : Int) = some b ∧ xAm.l0 k (i : Int) a0 a1 a2 a3 L = some b
 | 0, i, hi => ⟨true, 1, fun k hk => by
  obtain ⟨k, rfl⟩ : ∃ q, k = q + 1 := ⟨k - 1, by omega⟩
  rw [xAy.l0, xAm.l0, if_neg (by omega), if_neg (by omega)]
  exact ⟨rfl, rfl⟩⟩
 | d + 1, i, hi => by
  obtain ⟨b1, K1, h1⟩ := st_same (h _ (xE1 (i := i) (by omega)))
  have w2 : wrap64 ((i : Int) + 1) = ((i + 1 : Nat) : Int) := by unfold wrap64; omega
  obtain ⟨b, K, h2⟩ := xG6 (a0 := a0) (a1 := a1) (a2 := a2) (a3 := a3) hL h d (i + 1) (by omega)
  refine ⟨if b1 = true then b else false, K + K1 + 1, fun k hk => ?_⟩
  obtain ⟨k, rfl⟩ : ∃ q, k = q + 1 := ⟨k - 1, by omega⟩
  constructor
  ·rw [xAy.l0, if_pos (by omega), if_pos (by omega), if_pos (by omega), (h1 k (by omega)).1, Option.bind_some, w2, (h2 k (by omega)).1]
   split <;> rfl
  ·rw [xAm.l0, if_pos (by omega), if_pos (by omega), (h1 k (by omega)).2, Option.bind_some, w2, (h2 k (by omega)).2]
   split <;> rfl
/-- Whether a tree may be. -/
theorem xJe {n : S25} (hn : Sm n) : ∃ (b : Bool) (K : Nat), ∀ k, K ≤ k → xAy.f k n.f0 n.f1 n.f2 n.f3 n.f4 = some b ∧ xAm.f k n.f0 n.f1 n.f2 n.f3 n.f4 = some b := by
 obtain ⟨b, K, h⟩ := xG6 (a0 := n.f0) (a1 := n.f1) (a2 := n.f2) (a3 := n.f3) hn.len (fun x hx => hn.mem hx) n.f4.length 0 (by omega)
 have hp : ∀ x k, K + 1 ≤ k → xAy.j0 k x n.f0 n.f1 n.f2 n.f3 n.f4 = some (if x = true then false else b) ∧ xAm.j0 k x n.f0 n.f1 n.f2 n.f3 n.f4 = some (if x = true then false else b) := by
  intro x k hk
  obtain ⟨k, rfl⟩ : ∃ q, k = q + 1 := ⟨k - 1, by omega⟩
  have h1 := h k (by omega)
  simp only [Int.natCast_zero] at h1
  rw [xAy.j0, xAm.j0, show xAy.l0 k n.f4 (n.f4.length : Int) 0 = some b from h1.1, show xAm.l0 k 0 n.f0 n.f1 n.f2 n.f3 n.f4 = some b from h1.2]
  cases x <;> exact ⟨rfl, rfl⟩
 refine ⟨if n.f0.toList = ([102, 105, 108, 101] : List UInt8) then (if n.f1.toList = ([] : List UInt8) then (if (n.f2 != 0) = true then false else b) else false) else false, K + 1, fun k hk => ?_⟩
 unfold xAy.f xAm.f
 rw [(hp true k hk).1, (hp true k hk).2, (hp (n.f2 != 0) k hk).1, (hp (n.f2 != 0) k hk).2]
 constructor <;> (split; (split <;> rfl); rfl)

/-! texts that are read as tokens -/
abbrev Ek := Int × ByteArray × Int
def Hd (l : List Int) : Prop := ∀ c t, l = c :: t → stops c
inductive Lx : List Int → List Ek → Prop
 | nil : Lx [] []
 | blank {c : Int} {l : List Int} {E : List Ek} (hc : xCy c = true) (h : Lx l E) : Lx (c :: l) E
 | tok {k n : Int} {s : ByteArray} {l : List Int} {E : List Ek} (hg : GoodK k (xAl s) n) (hs : k = 3 ∨ Hd l) (h : Lx l E) : Lx (txt k (xAl s) n ++ l) ((k, s, n) :: E)
/-- A text that is read as these tokens, whatever stands behind it (GenH: what ends a word). -/
def Gen0 (t : List Int) (E : List Ek) : Prop := ∀ l E', Lx l E' → Lx (t ++ l) (E ++ E')
def GenH (t : List Int) (E : List Ek) : Prop := ∀ l E', Lx l E' → Hd l → Lx (t ++ l) (E ++ E')

/-! leaves: what is written of them is read as their tokens, and they are right -/
def toI (l : List UInt8) : List Int := l.map fun b => (b.toNat : Int)
theorem toI_app (a b : List UInt8) : toI (a ++ b) = toI a ++ toI b := List.map_append
theorem xIp (a : UInt8) (b : List UInt8) : toI (a :: b) = (a.toNat : Int) :: toI b := rfl
theorem xF0 {w : ByteArray} {l : List UInt8} (h : w.toList = l) : w = ⟨l.toArray⟩ := by
 rw [ByteArray.toList_eq] at h
 apply xBr
 rw [h]
theorem xGl : ∀ (d n : Nat), n ≠ 0 → n < 10 ^ d → toI (Lib.decDigits n) = digF d n
 | 0, n, h0, h => by simp at h; omega
 | d + 1, n, h0, h => by
  rw [xL2 d n h0]
  rw [Lib.decDigits]
  by_cases h1 : n < 10
  ·rw [dif_pos h1, show n / 10 = 0 by omega, show n % 10 = n by omega]
   have : digF d 0 = [] := by cases d <;> simp [digF]
   rw [this, xIp]
   have : (UInt8.ofNat (48 + n)).toNat = 48 + n := by rw [UInt8.toNat_ofNat_of_lt' (by simp [UInt8.size]; omega)]
   rw [this]
   rfl
  ·rw [dif_neg h1, toI_app, xGl d (n / 10) (by omega) (by rw [Nat.pow_succ] at h; omega), xIp]
   have : (UInt8.ofNat (48 + n % 10)).toNat = 48 + n % 10 := by rw [UInt8.toNat_ofNat_of_lt' (by simp [UInt8.size]; omega)]
   rw [this]
   rfl
theorem xHu (n : Int) (h0 : 0 ≤ n) (h1 : n < 1000000000) : toI (Lib.itoa n) = digL n.toNat := by
 unfold Lib.itoa
 rw [if_neg (by omega)]
 unfold digL
 by_cases hz : n.toNat = 0
 ·rw [if_pos hz, hz]
  have : Lib.decDigits 0 = [48] := by rw [Lib.decDigits, dif_pos (by decide)]; rfl
  rw [this]
  rfl
 ·rw [if_neg hz]
  exact xGl 9 _ hz (by omega)
def Wt (n : S25) (E : List Ek) : Prop := ∃ t j0, (∀ j, j0 ≤ j → xBw j n = some t) ∧ GenH (toI t) E ∧ t.length ≤ 200 * E.length
theorem xK6 (l : List UInt8) : (toI l).length = l.length := by unfold toI; rw [List.length_map]
abbrev NUM : ByteArray := ⟨#[110, 117, 109]⟩
abbrev NAME : ByteArray := ⟨#[110, 97, 109, 101]⟩
abbrev USE : ByteArray := ⟨#[117, 115, 101]⟩

/-! what an expression's tokens are: inversions of the parser's words -/
def Goods (T : List S60) : Prop := ∀ t ∈ T, xH5 t
abbrev pu (c : Int) : Ek := (3, strOfNums [c], 0)
/-- Parts behind the first: a comma ahead of each. -/
inductive LW : List S25 → List Ek → Prop
 | nil : LW [] []
 | cons {x : S25} {M : List S25} {Ex EM : List Ek} (h : Wt x Ex) (h1 : LW M EM) : LW (x :: M) (pu 44 :: (Ex ++ EM))
def GenS (t : List Int) (E : List Ek) : Prop := GenH t E ∧ ∀ l, Hd l → Hd (t ++ l)
/-- The words of targets. -/
def TW (w : ByteArray) : Prop := w = ⟨#[108, 105, 110, 101, 97, 114]⟩ ∨ w = ⟨#[99, 111, 110, 99, 97, 116]⟩ ∨ w = ⟨#[109, 105, 114, 114, 111, 114]⟩ ∨ w = ⟨#[115, 110, 97, 112, 115, 104, 111, 116]⟩ ∨ w = ⟨#[99, 114, 121, 112, 116]⟩ ∨ w = ⟨#[105, 110, 116, 101, 103, 114, 105, 116, 121]⟩ ∨ w = ⟨#[118, 101, 114, 105, 116, 121]⟩

/-! what a right tree looks like -/
theorem xKp {k : Nat} {a0 a1 : ByteArray} {a2 a3 : Int} {L : List S25} {op : ByteArray} {r : Bool} (h : xAu.f k a0 a1 a2 a3 L op = some r) (j : Nat) (hj : k ≤ j) : xAu.f j a0 a1 a2 a3 L op = some r := by
 have := LeO.rounds (f := fun j => xAu.f j a0 a1 a2 a3 L op) (fun j => xAu.mono _ _ _ _ _ _ j) k (j - k) r h
 rwa [show k + (j - k) = j by omega] at this
theorem xHx {k : Nat} {a0 a1 : ByteArray} {a2 a3 : Int} {L : List S25} {nest : Int} {r : Bool} (h : xA7.f k a0 a1 a2 a3 L nest = some r) (j : Nat) (hj : k ≤ j) : xA7.f j a0 a1 a2 a3 L nest = some r := by
 have := LeO.rounds (f := fun j => xA7.f j a0 a1 a2 a3 L nest) (fun j => xA7.mono _ _ _ _ _ _ j) k (j - k) r h
 rwa [show k + (j - k) = j by omega] at this
theorem xGh {s : ByteArray} {k : Nat} (hk : 5000 ≤ k) (h : xBb.f k s = some true) : s.size ≤ 129 := by
 unfold xBb.f at h
 rw [xF8 s k hk] at h
 cases hs : scan (xAl s) with
 | error e =>
  rw [hs] at h
  simp only [told, Option.bind_some] at h
  rw [if_neg (xHg hs)] at h
  cases h
 | ok T =>
  rw [hs] at h
  simp only [told, Option.bind_some] at h
  rw [if_pos trivial] at h
  split at h
  case isFalse => cases h
  rename_i h1
  rw [if_pos (by omega)] at h
  split at h
  case isFalse => cases h
  rename_i h2
  split at h
  case isFalse => cases h
  rename_i h3
  have hm : xB8 T 0 ∈ T := by
   cases T with
   | nil => simp at h1
   | cons t T => exact List.mem_cons_self
  have hg := xHf hs _ hm
  have h4 := (xHw hg).2
  rw [h2, show txt 0 (xAl (xB8 T 0).f1) (xB8 T 0).f2 = xAl (xB8 T 0).f1 from rfl, xAz] at h4
  rw [ByteArray.toList_eq, ByteArray.toList_eq] at h3
  have h5 := congrArg List.length h3
  have e1 : (xB8 T 0).f1.data.toList.length = (xB8 T 0).f1.size := rfl
  have e2 : s.data.toList.length = s.size := rfl
  omega
def TXd : Nat → S25 → Prop
 | 0, _ => False
 | d + 1, n => ((n.f0 = USE ∨ n.f0 = NAME) ∧ n.f1.size ≤ 129) ∨ (n.f0 = NUM ∧ 0 ≤ n.f2 ∧ n.f2 < 1000000000) ∨ (TW n.f0 ∧ n.f4.length ≤ 1000000 ∧ ∀ x ∈ n.f4, TXd d x)
theorem xEe {n : S25} {op : ByteArray} (hop : op = NUM ∨ op = NAME ∨ op = USE) {k : Nat} (h : xAu.f k n.f0 n.f1 n.f2 n.f3 n.f4 op = some true) (d : Nat) : TXd (d + 1) n := by
 have h := xKp h (k + 5001) (by omega)
 unfold xAu.f at h
 by_cases h0 : n.f0.toList = op.toList
 case neg => rw [if_neg h0, show k + 5001 = (k + 5000) + 1 from rfl, xAu.j0, if_pos rfl] at h; cases h
 have h00 : n.f0 = op := by apply xBr; rw [ByteArray.toList_eq, ByteArray.toList_eq] at h0; exact h0
 rw [if_pos h0, show k + 5001 = (k + 5000) + 1 from rfl, xAu.j0] at h
 split at h
 ·cases h
 ·rcases hop with rfl | hop
  ·rw [if_pos (by simp only [ByteArray.toList_eq])] at h
   split at h
   ·unfold xBt.f at h
    split at h
    ·simp only [Option.bind_some, Option.some.injEq, decide_eq_true_eq] at h
     exact .inr (.inl ⟨h00, by omega, by omega⟩)
    ·cases h
   ·cases h
  ·rw [if_neg (by rcases hop with rfl | rfl <;> simp only [ByteArray.toList_eq] <;> decide)] at h
   split at h
   ·cases hp : xBb.f (k + 5000) n.f1 with
    | none => rw [hp] at h; cases h
    | some b =>
     rw [hp] at h
     simp only [Option.bind_some, Option.some.injEq] at h
     rw [h] at hp
     exact .inl ⟨by rcases hop with rfl | rfl; exact .inr h00; exact .inl h00, xGh (by omega) hp⟩
   ·cases h
theorem mem_rd {L : List S25} {x : S25} (h : x ∈ L) : ∃ i : Nat, i < L.length ∧ xA2 L (i : Int) = x := by
 obtain ⟨i, hi, e⟩ := List.getElem_of_mem h
 refine ⟨i, hi, ?_⟩
 unfold xA2
 rw [Int.toNat_natCast, List.getD_eq_getElem?_getD, List.getElem?_eq_getElem hi]
 exact e
theorem l0_inv {a0 a1 : ByteArray} {a2 a3 : Int} {L : List S25} {nest : Int} (hn : 0 ≤ nest ∧ nest ≤ 12) (m : Nat) (hm : m ≤ 1000000) : ∀ (k i : Nat) (b : Bool), xA7.l0 k nest (m : Int) b (i : Int) a0 a1 a2 a3 L = some true → b = true ∧ ∀ j : Nat, i ≤ j → j < m → ∃ k', xA7.f k' (xA2 L (j : Int)).f0 (xA2 L (j : Int)).f1 (xA2 L (j : Int)).f2 (xA2 L (j : Int)).f3 (xA2 L (j : Int)).f4 (nest + 1) = some true
 | 0, i, b, h => by rw [xA7.l0] at h; cases h
 | k + 1, i, b, h => by
  rw [xA7.l0] at h
  cases b with
  | false => rw [if_neg (by decide)] at h; cases h
  | true =>
   refine ⟨rfl, fun j hij hjm => ?_⟩
   have w1 : wrap64 (nest + 1) = nest + 1 := by unfold wrap64; omega
   have w2 : wrap64 ((i : Int) + 1) = ((i + 1 : Nat) : Int) := by unfold wrap64; omega
   rw [if_pos rfl, if_pos (by omega), if_pos (by omega)] at h
   split at h
   case isFalse => cases h
   rw [w1, w2] at h
   obtain ⟨t, ht, h2⟩ := Option.bind_eq_some_iff.1 h
   obtain ⟨ht1, h3⟩ := l0_inv hn m hm k (i + 1) t h2
   rw [ht1] at ht
   by_cases he : j = i
   ·subst he; exact ⟨k, ht⟩
   ·exact h3 j (by omega) hjm
theorem xE2 {a0 a1 : ByteArray} {a2 a3 : Int} {L : List S25} {nest : Int} (hn : 0 ≤ nest ∧ nest ≤ 12) (m : Nat) (hm : m ≤ 1000000) {k : Nat} {b : Bool} (h : xA7.j3 k nest (m : Int) b a0 a1 a2 a3 L = some true) : b = true ∧ ∀ j : Nat, j < m → ∃ k', xA7.f k' (xA2 L (j : Int)).f0 (xA2 L (j : Int)).f1 (xA2 L (j : Int)).f2 (xA2 L (j : Int)).f3 (xA2 L (j : Int)).f4 (nest + 1) = some true := by
 cases k with
 | zero => rw [xA7.j3] at h; cases h
 | succ k =>
  rw [xA7.j3] at h
  obtain ⟨h1, h2⟩ := l0_inv hn m hm k 0 b h
  exact ⟨h1, fun j hj => h2 j (by omega) hj⟩

/-! a right expression looks so -/
theorem x_inv : ∀ (d : Nat) (nest : Int), nest + d = 13 → 0 ≤ nest → ∀ n, Sm n → ∀ k, xA7.f k n.f0 n.f1 n.f2 n.f3 n.f4 nest = some true → TXd (d + 1) n
 | 0, nest, hd, h0, n, hn, k, h => by
  have h := xHx h (k + 2) (by omega)
  rw [xA7.f, if_pos (by omega), xA7.j0, if_pos rfl, if_neg (by omega)] at h
  cases h
 | d + 1, nest, hd, h0, n, hn, k, h => by
  have h := xHx h (k + 5) (by omega)
  have ih := x_inv d (nest + 1) (by omega) (by omega)
  rw [xA7.f, if_neg (by omega), xA7.j0] at h
  split at h
  ·rw [if_pos (by omega)] at h
   obtain ⟨b, hb, h2⟩ := Option.bind_eq_some_iff.1 h
   cases h2
   exact xEe (.inr (.inr rfl)) hb _
  have hf : ∀ (x : Bool), xA7.j1 (k + 3) nest x n.f0 n.f1 n.f2 n.f3 n.f4 = some true → x = false := by
   intro x hx
   cases x with
   | false => rfl
   | true => rw [xA7.j1, if_pos rfl] at hx; cases hx
  have hj : xA7.j1 (k + 3) nest false n.f0 n.f1 n.f2 n.f3 n.f4 = some true := by
   split at h
   ·split at h
    ·rw [hf _ h] at h; exact h
    ·have := hf _ h; cases this
   ·have := hf _ h; cases this
  clear h hf
  have hn12 : 0 ≤ nest ∧ nest ≤ 12 := ⟨h0, by omega⟩
  have kid : ∀ j : Nat, j < n.f4.length → (∃ k', xA7.f k' (xA2 n.f4 (j : Int)).f0 (xA2 n.f4 (j : Int)).f1 (xA2 n.f4 (j : Int)).f2 (xA2 n.f4 (j : Int)).f3 (xA2 n.f4 (j : Int)).f4 (nest + 1) = some true) → TXd (d + 1) (xA2 n.f4 (j : Int)) := by
   intro j hj ⟨k', hk'⟩
   exact ih _ (hn.mem (xE1 hj)) k' hk'
  have fin : ∀ w : ByteArray, TW w → n.f0.toList = w.toList → (∀ j : Nat, j < n.f4.length → TXd (d + 1) (xA2 n.f4 (j : Int))) → TXd (d + 2) n := by
   intro w hw e hall
   have e0 : n.f0 = w := by apply xBr; rw [ByteArray.toList_eq, ByteArray.toList_eq] at e; exact e
   refine .inr (.inr ⟨by rw [e0]; exact hw, hn.len, fun x hx => ?_⟩)
   obtain ⟨i, hi, rfl⟩ := mem_rd hx
   exact hall i hi
  rw [xA7.j1, if_neg (by decide)] at hj
  split at hj
  ·rename_i w1
   split at hj
   case isFalse => have := (xE2 hn12 1 (by decide) hj).1; cases this
   rename_i h3
   rw [if_pos (by omega)] at hj
   obtain ⟨b1, hb1, hj⟩ := Option.bind_eq_some_iff.1 hj
   split at hj
   case isFalse => have := (xE2 hn12 1 (by decide) hj).1; cases this
   rename_i hbt
   rw [if_pos (by omega)] at hj
   obtain ⟨b2, hb2, hj⟩ := Option.bind_eq_some_iff.1 hj
   obtain ⟨e2, hx⟩ := xE2 hn12 1 (by decide) hj
   rw [hbt] at hb1
   rw [e2] at hb2
   refine fin ⟨#[108, 105, 110, 101, 97, 114]⟩ (.inl rfl) (by rw [w1]; simp only [ByteArray.toList_eq]) (fun j hj => ?_)
   rcases (by omega : j = 0 ∨ j = 1 ∨ j = 2) with rfl | rfl | rfl
   ·exact kid 0 hj (hx 0 (by omega))
   ·exact xEe (.inl rfl) hb1 d
   ·exact xEe (.inl rfl) hb2 d
  split at hj
  ·rename_i w2
   split at hj
   case isFalse => have := (xE2 hn12 2 (by decide) hj).1; cases this
   rename_i h3
   rw [if_pos (by omega)] at hj
   obtain ⟨b2, hb2, hj⟩ := Option.bind_eq_some_iff.1 hj
   obtain ⟨e2, hx⟩ := xE2 hn12 2 (by decide) hj
   rw [e2] at hb2
   refine fin ⟨#[115, 110, 97, 112, 115, 104, 111, 116]⟩ (.inr (.inr (.inr (.inl rfl)))) (by rw [w2]; simp only [ByteArray.toList_eq]) (fun j hj => ?_)
   rcases (by omega : j = 0 ∨ j = 1 ∨ j = 2) with rfl | rfl | rfl
   ·exact kid 0 hj (hx 0 (by omega))
   ·exact kid 1 hj (hx 1 (by omega))
   ·exact xEe (.inl rfl) hb2 d
  -- the named and the many
  have hj2 : ∀ c : Bool, xA7.j2 (k + 2) nest 1 true n.f0 c n.f0 n.f1 n.f2 n.f3 n.f4 = some true → (c = true ∧ n.f4.length = 2 ∧ ∀ j : Nat, j < n.f4.length → TXd (d + 1) (xA2 n.f4 (j : Int))) ∨ (c = false ∧ (n.f0.toList = ([99, 111, 110, 99, 97, 116] : List UInt8) ∨ n.f0.toList = ([109, 105, 114, 114, 111, 114] : List UInt8)) ∧ ∀ j : Nat, j < n.f4.length → TXd (d + 1) (xA2 n.f4 (j : Int))) := by
   intro c hc
   rw [xA7.j2] at hc
   cases c with
   | true =>
    rw [if_pos rfl] at hc
    split at hc
    case isFalse => have := (xE2 hn12 1 (by decide) hc).1; cases this
    rename_i h2
    rw [if_pos (by omega)] at hc
    obtain ⟨b2, hb2, hc⟩ := Option.bind_eq_some_iff.1 hc
    obtain ⟨e2, hx⟩ := xE2 hn12 1 (by decide) hc
    rw [e2] at hb2
    refine .inl ⟨rfl, by omega, fun j hj => ?_⟩
    rcases (by omega : j = 0 ∨ j = 1) with rfl | rfl
    ·exact kid 0 hj (hx 0 (by omega))
    ·exact xEe (.inr (.inl rfl)) hb2 d
   | false =>
    rw [if_neg (by decide)] at hc
    split at hc
    ·rename_i w3
     exact .inr ⟨rfl, .inl w3, fun j hj => kid j hj ((xE2 hn12 n.f4.length hn.len hc).2 j hj)⟩
    split at hc
    ·rename_i w4
     exact .inr ⟨rfl, .inr w4, fun j hj => kid j hj ((xE2 hn12 n.f4.length hn.len hc).2 j hj)⟩
    ·have := (xE2 hn12 1 (by decide) hc).1
     cases this
  have many : (n.f0.toList = ([99, 111, 110, 99, 97, 116] : List UInt8) ∨ n.f0.toList = ([109, 105, 114, 114, 111, 114] : List UInt8)) → (∀ j : Nat, j < n.f4.length → TXd (d + 1) (xA2 n.f4 (j : Int))) → TXd (d + 2) n := by
   intro hw hall
   rcases hw with hw | hw
   ·exact fin ⟨#[99, 111, 110, 99, 97, 116]⟩ (.inr (.inl rfl)) (by rw [hw]; simp only [ByteArray.toList_eq]) hall
   ·exact fin ⟨#[109, 105, 114, 114, 111, 114]⟩ (.inr (.inr (.inl rfl))) (by rw [hw]; simp only [ByteArray.toList_eq]) hall
  split at hj
  ·rename_i w3
   rcases hj2 _ hj with ⟨_, _, hall⟩ | ⟨_, hw, hall⟩
   ·exact fin ⟨#[99, 114, 121, 112, 116]⟩ (.inr (.inr (.inr (.inr (.inl rfl))))) (by rw [w3]; simp only [ByteArray.toList_eq]) hall
   ·exact many hw hall
  split at hj
  ·rename_i w4
   rcases hj2 _ hj with ⟨_, _, hall⟩ | ⟨_, hw, hall⟩
   ·exact fin ⟨#[105, 110, 116, 101, 103, 114, 105, 116, 121]⟩ (.inr (.inr (.inr (.inr (.inr (.inl rfl)))))) (by rw [w4]; simp only [ByteArray.toList_eq]) hall
   ·exact many hw hall
  ·rcases hj2 _ hj with ⟨hv, _, hall⟩ | ⟨_, hw, hall⟩
   ·rw [beq_iff_eq] at hv
    exact fin ⟨#[118, 101, 114, 105, 116, 121]⟩ (.inr (.inr (.inr (.inr (.inr (.inr rfl)))))) (by rw [hv]; simp only [ByteArray.toList_eq]) hall
   ·exact many hw hall
end Go.Proofs.YtknbfhhmjbnemaaDoor.P
end
section
namespace Go.Proofs.YtknbfhhmjbnemaaDoor.P
open Go.RowKit Go.Proofs.YtknbfhhmjbnemaaDoorW.PrintWords Go.Proofs.YtknbfhhmjbnemaaDoorW.PrintLast Go.Proofs.YtknbfhhmjbnemaaDoorW.PrintMore
attribute [local go_sem] xB9 xBe

/-! ### xAp: function 24 -/
def xAp.l0 : Nat → Int → ByteArray → Option (ByteArray)
 | 0, _, _ => none
 | k + 1, x0, x3 => if x0 > 0 then (if 0 ≤ (Int.tmod x0 10) then (if (Int.tmod x0 10) ≤ (wrap64 ((Int.tmod x0 10) + 1)) then (if (wrap64 ((Int.tmod x0 10) + 1)) ≤ 10 then (if ((⟨#[48, 49, 50, 51, 52, 53, 54, 55, 56, 57]⟩ : ByteArray).extract ((Int.tmod x0 10) : Int).toNat ((wrap64 ((Int.tmod x0 10) + 1)) : Int).toNat).size + x3.size ≤ 9223372036854775807 then (xAp.l0 k (wrap64 (Int.tdiv x0 10)) (((⟨#[48, 49, 50, 51, 52, 53, 54, 55, 56, 57]⟩ : ByteArray).extract ((Int.tmod x0 10) : Int).toNat ((wrap64 ((Int.tmod x0 10) + 1)) : Int).toNat) ++ x3)) else (none)) else (none)) else (none)) else (none)) else (if x3.toList = ([] : List UInt8) then (if 0 ≤ (Int.tmod x0 10) then (if (Int.tmod x0 10) ≤ (wrap64 ((Int.tmod x0 10) + 1)) then (if (wrap64 ((Int.tmod x0 10) + 1)) ≤ 10 then (if ((⟨#[48, 49, 50, 51, 52, 53, 54, 55, 56, 57]⟩ : ByteArray).extract ((Int.tmod x0 10) : Int).toNat ((wrap64 ((Int.tmod x0 10) + 1)) : Int).toNat).size + x3.size ≤ 9223372036854775807 then (xAp.l0 k (wrap64 (Int.tdiv x0 10)) (((⟨#[48, 49, 50, 51, 52, 53, 54, 55, 56, 57]⟩ : ByteArray).extract ((Int.tmod x0 10) : Int).toNat ((wrap64 ((Int.tmod x0 10) + 1)) : Int).toNat) ++ x3)) else (none)) else (none)) else (none)) else (none)) else (some x3))
def xAp.f (k : Nat) (a0 : Int) : Option (ByteArray) := xAp.l0 k a0 (⟨#[]⟩ : ByteArray)
set_option maxHeartbeats 8000000 in
set_option maxRecDepth 100000 in
theorem xAp.calls (k : Nat) (a0 : Int) (r : ByteArray) (w : World) (h : xAp.f k a0 = some r) :
  Calls Tryd.prog 24 #[.int .i64 a0] w fun e w' => e = .returned (.string r) ∧ Drawn0 w w' := by
 have H : (xAp.l0 k a0 (⟨#[]⟩ : ByteArray)) = some r := h
 clear h
 have H' := Aside0.mk H
 clear H
 go_enter Tryd.func24, Tryd.ntmps24
 go_wp2
 go_loopg [0, 3] k (fun kq v0 v3 w' => ∃ (x0_1 : Int) (x3_1 : ByteArray), v0 = .int .i64 x0_1 ∧ v3 = .string x3_1 ∧ Aside0 (xAp.l0 kq x0_1 x3_1 = some r) ∧ Aside0 (kq ≤ k) ∧ Drawn0 w w')
 case atStart => exact ⟨(a0), ((⟨#[]⟩ : ByteArray)), (by first | rfl | (simp; done) | (simp [*]; done)), (by first | rfl | (simp; done) | (simp [*]; done)), H', ⟨Nat.le_refl _⟩, by repeat (first | exact Drawn0.refl _ | apply Drawn0.step)⟩
 case round =>
  clear H'
  obtain ⟨x0_1, x3_1, rfl, rfl, HA, HK1, ⟨m1, rfl⟩⟩ := hrel
  cases gk with
  | zero => exact absurd HA.out (by simp [xAp.l0])
  | succ k1 =>
   have H := HA.out
   clear HA
   simp only [xAp.l0] at H
   by_cases c2 : x0_1 > 0
   ·rw [if_pos c2] at H
    have c2b0 : decide (0 < x0_1) = true := decide_eq_true c2
    clear c2
    obtain ⟨ji3, hji3⟩ : ∃ j_ : Int, (Int.tmod x0_1 10) = j_ := ⟨_, rfl⟩
    replace H : (if 0 ≤ (ji3) then (if (ji3) ≤ (wrap64 ((ji3) + 1)) then (if (wrap64 ((ji3) + 1)) ≤ 10 then (if ((⟨#[48, 49, 50, 51, 52, 53, 54, 55, 56, 57]⟩ : ByteArray).extract ((ji3) : Int).toNat ((wrap64 ((ji3) + 1)) : Int).toNat).size + x3_1.size ≤ 9223372036854775807 then (xAp.l0 k1 (wrap64 (Int.tdiv x0_1 10)) (((⟨#[48, 49, 50, 51, 52, 53, 54, 55, 56, 57]⟩ : ByteArray).extract ((ji3) : Int).toNat ((wrap64 ((ji3) + 1)) : Int).toNat) ++ x3_1)) else (none)) else (none)) else (none)) else (none)) = some r := by first | (rw [hji3] at H; exact H) | (simp only [hji3] at H ⊢; exact H)
    by_cases c4 : 0 ≤ (ji3)
    ·rw [if_pos c4] at H
     have c4b0 := eq_true c4
     have c4b1 : decide (0 ≤ (ji3)) = true := decide_eq_true c4
     clear c4
     by_cases c5 : (ji3) ≤ (wrap64 ((ji3) + 1))
     ·rw [if_pos c5] at H
      have c5b0 := eq_true c5
      have c5b1 : decide ((ji3) ≤ (wrap64 ((ji3) + 1))) = true := decide_eq_true c5
      by_cases c6 : (wrap64 ((ji3) + 1)) ≤ 10
      ·rw [if_pos c6] at H
       have c6b0 := eq_true c6
       have c6b1 : decide ((wrap64 ((ji3) + 1)) ≤ 10) = true := decide_eq_true c6
       by_cases c7 : ((⟨#[48, 49, 50, 51, 52, 53, 54, 55, 56, 57]⟩ : ByteArray).extract ((ji3) : Int).toNat ((wrap64 ((ji3) + 1)) : Int).toNat).size + x3_1.size ≤ 9223372036854775807
       ·rw [if_pos c7] at H
        have c7b0 := eq_true c7
        have c7b1 : decide (((⟨#[48, 49, 50, 51, 52, 53, 54, 55, 56, 57]⟩ : ByteArray).extract ((ji3) : Int).toNat ((wrap64 ((ji3) + 1)) : Int).toNat).size + x3_1.size ≤ 9223372036854775807) = true := decide_eq_true c7
        try have c7b2 : (9223372036854775807 < ((⟨#[48, 49, 50, 51, 52, 53, 54, 55, 56, 57]⟩ : ByteArray).extract ((ji3) : Int).toNat ((wrap64 ((ji3) + 1)) : Int).toNat).size + x3_1.size) = False := eq_false (Nat.not_lt.2 c7)
        have H' := Aside0.mk H
        clear H
        go_wp2
        go_roundg k1
        case measure => have := HK1.out; omega
        case rel => exact ⟨(wrap64 (Int.tdiv x0_1 10)), (((⟨#[48, 49, 50, 51, 52, 53, 54, 55, 56, 57]⟩ : ByteArray).extract ((ji3) : Int).toNat ((wrap64 ((ji3) + 1)) : Int).toNat) ++ x3_1), (by first | rfl | (simp; done) | (simp [*]; done)), (by first | rfl | (simp; done) | (simp only [← hji3] <;> (first | rfl | simp)) | (simp [*]; done)), H', ⟨by have := HK1.out; omega⟩, by repeat (first | exact Drawn0.refl _ | apply Drawn0.step)⟩
       ·rw [if_neg c7] at H
        exact absurd H (by simp)
      ·rw [if_neg c6] at H
       exact absurd H (by simp)
     ·rw [if_neg c5] at H
      exact absurd H (by simp)
    ·rw [if_neg c4] at H
     exact absurd H (by simp)
   ·rw [if_neg c2] at H
    have c2b0 : decide (0 < x0_1) = false := decide_eq_false c2
    clear c2
    by_cases c8 : x3_1.toList = ([] : List UInt8)
    ·rw [if_pos c8] at H
     have c8b0 : (x3_1.toList == ([] : List UInt8)) = true := beq_iff_eq.mpr c8
     have c8b1 : (x3_1.toList != ([] : List UInt8)) = false := bne_eq_false_iff_eq.mpr c8
     clear c8
     obtain ⟨ji9, hji9⟩ : ∃ j_ : Int, (Int.tmod x0_1 10) = j_ := ⟨_, rfl⟩
     replace H : (if 0 ≤ (ji9) then (if (ji9) ≤ (wrap64 ((ji9) + 1)) then (if (wrap64 ((ji9) + 1)) ≤ 10 then (if ((⟨#[48, 49, 50, 51, 52, 53, 54, 55, 56, 57]⟩ : ByteArray).extract ((ji9) : Int).toNat ((wrap64 ((ji9) + 1)) : Int).toNat).size + x3_1.size ≤ 9223372036854775807 then (xAp.l0 k1 (wrap64 (Int.tdiv x0_1 10)) (((⟨#[48, 49, 50, 51, 52, 53, 54, 55, 56, 57]⟩ : ByteArray).extract ((ji9) : Int).toNat ((wrap64 ((ji9) + 1)) : Int).toNat) ++ x3_1)) else (none)) else (none)) else (none)) else (none)) = some r := by first | (rw [hji9] at H; exact H) | (simp only [hji9] at H ⊢; exact H)
     by_cases c10 : 0 ≤ (ji9)
     ·rw [if_pos c10] at H
      have c10b0 := eq_true c10
      have c10b1 : decide (0 ≤ (ji9)) = true := decide_eq_true c10
      clear c10
      by_cases c11 : (ji9) ≤ (wrap64 ((ji9) + 1))
      ·rw [if_pos c11] at H
       have c11b0 := eq_true c11
       have c11b1 : decide ((ji9) ≤ (wrap64 ((ji9) + 1))) = true := decide_eq_true c11
       by_cases c12 : (wrap64 ((ji9) + 1)) ≤ 10
       ·rw [if_pos c12] at H
        have c12b0 := eq_true c12
        have c12b1 : decide ((wrap64 ((ji9) + 1)) ≤ 10) = true := decide_eq_true c12
        by_cases c13 : ((⟨#[48, 49, 50, 51, 52, 53, 54, 55, 56, 57]⟩ : ByteArray).extract ((ji9) : Int).toNat ((wrap64 ((ji9) + 1)) : Int).toNat).size + x3_1.size ≤ 9223372036854775807
        ·rw [if_pos c13] at H
         have c13b0 := eq_true c13
         have c13b1 : decide (((⟨#[48, 49, 50, 51, 52, 53, 54, 55, 56, 57]⟩ : ByteArray).extract ((ji9) : Int).toNat ((wrap64 ((ji9) + 1)) : Int).toNat).size + x3_1.size ≤ 9223372036854775807) = true := decide_eq_true c13
         try have c13b2 : (9223372036854775807 < ((⟨#[48, 49, 50, 51, 52, 53, 54, 55, 56, 57]⟩ : ByteArray).extract ((ji9) : Int).toNat ((wrap64 ((ji9) + 1)) : Int).toNat).size + x3_1.size) = False := eq_false (Nat.not_lt.2 c13)
         have H' := Aside0.mk H
         clear H
         go_wp2
         go_roundg k1
         case measure => have := HK1.out; omega
         case rel => exact ⟨(wrap64 (Int.tdiv x0_1 10)), (((⟨#[48, 49, 50, 51, 52, 53, 54, 55, 56, 57]⟩ : ByteArray).extract ((ji9) : Int).toNat ((wrap64 ((ji9) + 1)) : Int).toNat) ++ x3_1), (by first | rfl | (simp; done) | (simp [*]; done)), (by first | rfl | (simp; done) | (simp only [← hji9] <;> (first | rfl | simp)) | (simp [*]; done)), H', ⟨by have := HK1.out; omega⟩, by repeat (first | exact Drawn0.refl _ | apply Drawn0.step)⟩
        ·rw [if_neg c13] at H
         exact absurd H (by simp)
       ·rw [if_neg c12] at H
        exact absurd H (by simp)
      ·rw [if_neg c11] at H
       exact absurd H (by simp)
     ·rw [if_neg c10] at H
      exact absurd H (by simp)
    ·rw [if_neg c8] at H
     have c8b0 : (x3_1.toList == ([] : List UInt8)) = false := beq_eq_false_iff_ne.mpr c8
     have c8b1 : (x3_1.toList != ([] : List UInt8)) = true := bne_iff_ne.mpr c8
     obtain rfl := Option.some.inj H
     go_wp2
     go_ret
     exact ⟨by first | rfl | (simp; done) | (simp [*]; done), by repeat (first | exact Drawn0.refl _ | apply Drawn0.step)⟩

end Go.Proofs.YtknbfhhmjbnemaaDoor.P
end
section
namespace Go.Proofs.YtknbfhhmjbnemaaDoor.P
open Go.RowKit Go.Proofs.YtknbfhhmjbnemaaDoorW.PrintWords Go.Proofs.YtknbfhhmjbnemaaDoorW.PrintLast Go.Proofs.YtknbfhhmjbnemaaDoorW.PrintMore
attribute [local go_sem] xB9 xBe

/-! ### xAg: function 25 -/
mutual
def xAg.j0 : Nat → ByteArray → Bool → ByteArray → ByteArray → Int → Int → List (S25) → Option (ByteArray)
 | 0, _, _, _, _, _, _, _ => none
 | k + 1, x6, x7, x573000, x573001, x573002, x573003, x573004 => if x7 = true then (some x573001) else (if x6.toList = ([110, 117, 109] : List UInt8) then ((xAp.f k x573002).bind fun t573 => (some t573)) else (if x6.toList = ([104, 101, 120] : List UInt8) then (if 1 + x573001.size ≤ 9223372036854775807 then (some ((⟨#[36]⟩ : ByteArray) ++ x573001)) else (none)) else (if x573000.size + 1 ≤ 9223372036854775807 then (xAg.l0 k (x573000 ++ (⟨#[40]⟩ : ByteArray)) 0 x573000 x573001 x573002 x573003 x573004) else (none))))
def xAg.l0 : Nat → ByteArray → Int → ByteArray → ByteArray → Int → Int → List (S25) → Option (ByteArray)
 | 0, _, _, _, _, _, _, _ => none
 | k + 1, x3, x4, x573000, x573001, x573002, x573003, x573004 => if x4 < (x573004.length : Int) then (if x4 > 0 then (if x3.size + 2 ≤ 9223372036854775807 then (if 0 ≤ x4 then ((xAg.f k ((xA2 x573004 x4).f0) ((xA2 x573004 x4).f1) ((xA2 x573004 x4).f2) ((xA2 x573004 x4).f3) ((xA2 x573004 x4).f4)).bind fun t575 => (if (x3 ++ (⟨#[44, 32]⟩ : ByteArray)).size + t575.size ≤ 9223372036854775807 then (xAg.l0 k ((x3 ++ (⟨#[44, 32]⟩ : ByteArray)) ++ t575) (wrap64 (x4 + 1)) x573000 x573001 x573002 x573003 x573004) else (none))) else (none)) else (none)) else (if 0 ≤ x4 then ((xAg.f k ((xA2 x573004 x4).f0) ((xA2 x573004 x4).f1) ((xA2 x573004 x4).f2) ((xA2 x573004 x4).f3) ((xA2 x573004 x4).f4)).bind fun t577 => (if x3.size + t577.size ≤ 9223372036854775807 then (xAg.l0 k (x3 ++ t577) (wrap64 (x4 + 1)) x573000 x573001 x573002 x573003 x573004) else (none))) else (none))) else (if x3.size + 1 ≤ 9223372036854775807 then (some (x3 ++ (⟨#[41]⟩ : ByteArray))) else (none))
def xAg.f : Nat → ByteArray → ByteArray → Int → Int → List (S25) → Option (ByteArray)
 | 0, _, _, _, _, _ => none
 | k + 1, a0_0, a0_1, a0_2, a0_3, l0_4 => if a0_0.toList = ([117, 115, 101] : List UInt8) then (xAg.j0 k a0_0 (a0_0.toList == ([117, 115, 101] : List UInt8)) a0_0 a0_1 a0_2 a0_3 l0_4) else (xAg.j0 k a0_0 (a0_0.toList == ([110, 97, 109, 101] : List UInt8)) a0_0 a0_1 a0_2 a0_3 l0_4)
end
set_option maxHeartbeats 8000000 in
set_option maxRecDepth 100000 in
theorem xAg.calls (k : Nat) : ∀ (a0_0 : ByteArray) (a0_1 : ByteArray) (a0_2 : Int) (a0_3 : Int) (A0_4 : Option Addr) (c0_4 : Nat) (l0_4 : List (S25)) (r : ByteArray) (w : World) (hr0_4 : Kd.C k25 w A0_4 l0_4.length l0_4) (hc0_4 : l0_4.length ≤ c0_4) (h : xAg.f k a0_0 a0_1 a0_2 a0_3 l0_4 = some r),
  Calls Tryd.prog 25 #[.agg #[.string a0_0, .string a0_1, .int .i64 a0_2, .int .i64 a0_3, .slice A0_4 l0_4.length c0_4]] w fun e w' => e = .returned (.string r) ∧ Below w.heap.size w w' := by
 induction k using Nat.strongRecOn with
 | _ k ih =>
 intro a0_0 a0_1 a0_2 a0_3 A0_4 c0_4 l0_4 r w hr0_4 hc0_4 h
 cases k with
 | zero => exact absurd h (by simp [xAg.f])
 | succ k =>
 simp only [xAg.f] at h
 have hu25 := Tryd.underlying25
 have HR0_4 := Aside0.mk hr0_4
 have HC0_4 := Aside0.mk hc0_4
 clear hr0_4 hc0_4
 have HB := Aside0.mk (Below.refl w.heap.size w)
 have H : (if a0_0.toList = ([117, 115, 101] : List UInt8) then (xAg.j0 k a0_0 (a0_0.toList == ([117, 115, 101] : List UInt8)) a0_0 a0_1 a0_2 a0_3 l0_4) else (xAg.j0 k a0_0 (a0_0.toList == ([110, 97, 109, 101] : List UInt8)) a0_0 a0_1 a0_2 a0_3 l0_4)) = some r := h
 clear h
 have HC2 := Aside0.mk H
 clear H
 go_enter Tryd.func25, Tryd.ntmps25
 go_upto_if 7 with (first | ((with_reducible refine xBq (N := 1) rfl ?_); refine xBm ?hg (N := 1) ?hd (cs := #[.string a0_0, .string a0_1, .int .i64 a0_2, .int .i64 a0_3, .slice A0_4 l0_4.length c0_4]) (t := 25) ?hr ?_; (case hd => rfl); (case hg => rfl); (case hr => first | (go_simp; done) | (go_simp; rfl)); intro gb572 hg w3 hbox hb; have n0_ := Aside0.mk (xAi (by repeat (first | (with_reducible first | exact HB.out | apply xA1 | apply xA0 | apply below_drew1) | exact HB.out)) hb); have n1_ := Aside0.mk (hbox); have n2_ := Aside0.mk ((by rw [hg]; exact (xAs (by repeat (first | (with_reducible first | exact HB.out | apply xA1 | apply xA0 | apply below_drew1) | exact HB.out))) : w.heap.size ≤ gb572)); have n3_ := Aside0.mk ((by rw [hg]; exact (xAs (by repeat (first | (with_reducible first | exact HB.out | apply xA1 | apply xA0 | apply below_drew1) | exact HB.out))) : w.heap.size ≤ gb572)); clear HB; have HB := n0_; have BK572 := n1_; have GW572 := n2_; have GE572 := n3_; clear n0_ n1_ n2_ n3_; clear hb hbox hg; obtain ⟨hcz4_0, hcz4_1, hcz4_2, hcz4_3, hcz4_4, hfz4_0, hfz4_1, hfz4_2, hfz4_3, hfz4_4⟩ := ex5 BK572.out))
 (try simp only [Act.put, List.setIfInBounds_toArray, List.set_cons_zero, List.set_cons_succ])
 go_cut [7] (fun v7 wc => ∃ (kq : Nat) (x7_1 : Bool), v7 = .bool x7_1 ∧ Aside0 (xAg.j0 kq a0_0 x7_1 a0_0 a0_1 a0_2 a0_3 l0_4 = some r) ∧ Aside0 (kq ≤ k) ∧ Aside0 (wc.heap[gb572]? = some (.cells #[.string a0_0, .string a0_1, .int .i64 a0_2, .int .i64 a0_3, (.slice A0_4 l0_4.length c0_4)] 25 (0, 0))) ∧ Aside0 (Below w.heap.size w wc))
 case first =>
  have H := HC2.out
  clear HC2
  by_cases c5 : a0_0.toList = ([117, 115, 101] : List UInt8)
  ·rw [if_pos c5] at H
   have c5b0 : (a0_0.toList == ([117, 115, 101] : List UInt8)) = true := beq_iff_eq.mpr c5
   have c5b1 : (a0_0.toList != ([117, 115, 101] : List UInt8)) = false := bne_eq_false_iff_eq.mpr c5
   clear c5
   (first | rw [c5b0] | (simp only [xB0, xB1]; rw [c5b0]) | skip)
   have H' := Aside0.mk H
   clear H
   go_wp2
   go_meet
   case rel => exact ⟨_, ((a0_0.toList == ([117, 115, 101] : List UInt8))), (by first | rfl | (simp; done) | (simp [*]; done)), H', ⟨by first | omega | exact Nat.le_refl _⟩, ⟨by (with_reducible repeat (first | refine xA5 ?_ _ | refine xA8 ?_ | refine xA4 ?_ _)); exact BK572.out⟩, ⟨by repeat (first | (with_reducible first | exact HB.out | apply xA1 | apply xA0 | apply below_drew1 | refine xA6 ?_ GE572.out) | exact HB.out)⟩⟩
  ·rw [if_neg c5] at H
   have c5b0 : (a0_0.toList == ([117, 115, 101] : List UInt8)) = false := beq_eq_false_iff_ne.mpr c5
   have c5b1 : (a0_0.toList != ([117, 115, 101] : List UInt8)) = true := bne_iff_ne.mpr c5
   (first | rw [c5b0] | (simp only [xB0, xB1]; rw [c5b0]) | skip)
   have H' := Aside0.mk H
   clear H
   go_wp2
   go_meet
   case rel => exact ⟨_, ((a0_0.toList == ([110, 97, 109, 101] : List UInt8))), (by first | rfl | (simp; done) | (simp [*]; done)), H', ⟨by first | omega | exact Nat.le_refl _⟩, ⟨by (with_reducible repeat (first | refine xA5 ?_ _ | refine xA8 ?_ | refine xA4 ?_ _)); exact BK572.out⟩, ⟨by repeat (first | (with_reducible first | exact HB.out | apply xA1 | apply xA0 | apply below_drew1 | refine xA6 ?_ GE572.out) | exact HB.out)⟩⟩
 case rest =>
  clear HC2
  try clear c2
  try clear p2
  try clear c5
  try clear c5b0
  try clear c5b1
  try clear hcz4_0 hcz4_1 hcz4_2 hcz4_3 hcz4_4
  try clear hfz4_0 hfz4_1 hfz4_2 hfz4_3 hfz4_4
  obtain ⟨kq, x7_1, rfl, HA, HJ1, BK572, HB⟩ := hcut
  cases kq with
  | zero => exact absurd HA.out (by simp [xAg.j0])
  | succ kj1 =>
   have H := HA.out
   clear HA
   simp only [xAg.j0] at H
   by_cases c6 : x7_1 = true
   ·subst c6
    have H1 : (some a0_1) = some r := by rw [if_pos rfl] at H; exact H
    clear H
    have H := H1
    clear H1
    obtain rfl := Option.some.inj H
    obtain ⟨hcz7_0, hcz7_1, hcz7_2, hcz7_3, hcz7_4, hfz7_0, hfz7_1, hfz7_2, hfz7_3, hfz7_4⟩ := ex5 BK572.out
    go_wp2
    go_ret
    exact ⟨by first | rfl | (simp <;> rfl) | (simp [*] <;> rfl), by repeat (first | (with_reducible first | exact HB.out | apply xA1 | apply xA0 | apply below_drew1 | refine xA6 ?_ GE572.out) | exact HB.out)⟩
   ·replace c6 := Bool.eq_false_iff.mpr c6
    subst c6
    have H1 : (if a0_0.toList = ([110, 117, 109] : List UInt8) then ((xAp.f kj1 a0_2).bind fun t573 => (some t573)) else (if a0_0.toList = ([104, 101, 120] : List UInt8) then (if 1 + a0_1.size ≤ 9223372036854775807 then (some ((⟨#[36]⟩ : ByteArray) ++ a0_1)) else (none)) else (if a0_0.size + 1 ≤ 9223372036854775807 then (xAg.l0 kj1 (a0_0 ++ (⟨#[40]⟩ : ByteArray)) 0 a0_0 a0_1 a0_2 a0_3 l0_4) else (none)))) = some r := by rw [if_neg (show ¬ (false = true) by decide)] at H; exact H
    clear H
    have H := H1
    clear H1
    by_cases c8 : a0_0.toList = ([110, 117, 109] : List UInt8)
    ·rw [if_pos c8] at H
     have c8b0 : (a0_0.toList == ([110, 117, 109] : List UInt8)) = true := beq_iff_eq.mpr c8
     have c8b1 : (a0_0.toList != ([110, 117, 109] : List UInt8)) = false := bne_eq_false_iff_eq.mpr c8
     clear c8
     replace H := Option.bind_eq_some_iff.mp H
     obtain ⟨t573, A90, H⟩ := H
     replace H : (some t573) = some r := H
     have A9 := Aside0.mk A90
     clear A90
     obtain rfl := Option.some.inj H
     obtain ⟨hcz10_0, hcz10_1, hcz10_2, hcz10_3, hcz10_4, hfz10_0, hfz10_1, hfz10_2, hfz10_3, hfz10_4⟩ := ex5 BK572.out
     go_wp2_with (first | ((with_reducible refine xAj (f := 24) rfl ?_); refine xB6 (some 16) rfl rfl Tryd.func24 (by kernel_rfl) rfl #[.int .i64 a0_2] rfl (by (try simp only [List.map_toArray, List.map_cons, List.map_nil]); first | done | rfl | (simp only [List.length_drop, List.length_take]; rfl)) ?_; (with_reducible refine (xAp.calls kj1 a0_2 t573 _ A9.out).mono ?_); rintro e w' ⟨rfl, ⟨nd, rfl⟩⟩; refine ⟨_, rfl, ?_⟩))
     go_ret
     exact ⟨by first | rfl | (simp <;> rfl) | (simp [*] <;> rfl), by repeat (first | (with_reducible first | exact HB.out | apply xA1 | apply xA0 | apply below_drew1 | refine xA6 ?_ GE572.out) | exact HB.out)⟩
    ·rw [if_neg c8] at H
     have c8b0 : (a0_0.toList == ([110, 117, 109] : List UInt8)) = false := beq_eq_false_iff_ne.mpr c8
     have c8b1 : (a0_0.toList != ([110, 117, 109] : List UInt8)) = true := bne_iff_ne.mpr c8
     by_cases c11 : a0_0.toList = ([104, 101, 120] : List UInt8)
     ·rw [if_pos c11] at H
      have c11b0 : (a0_0.toList == ([104, 101, 120] : List UInt8)) = true := beq_iff_eq.mpr c11
      have c11b1 : (a0_0.toList != ([104, 101, 120] : List UInt8)) = false := bne_eq_false_iff_eq.mpr c11
      clear c11
      by_cases c12 : 1 + a0_1.size ≤ 9223372036854775807
      ·rw [if_pos c12] at H
       have c12b0 := eq_true c12
       have c12b1 : decide (1 + a0_1.size ≤ 9223372036854775807) = true := decide_eq_true c12
       try have c12b2 : (9223372036854775807 < 1 + a0_1.size) = False := eq_false (Nat.not_lt.2 c12)
       obtain rfl := Option.some.inj H
       obtain ⟨hcz13_0, hcz13_1, hcz13_2, hcz13_3, hcz13_4, hfz13_0, hfz13_1, hfz13_2, hfz13_3, hfz13_4⟩ := ex5 BK572.out
       go_wp2
       go_ret
       exact ⟨by first | rfl | (simp <;> rfl) | (simp [*] <;> rfl), by repeat (first | (with_reducible first | exact HB.out | apply xA1 | apply xA0 | apply below_drew1 | refine xA6 ?_ GE572.out) | exact HB.out)⟩
      ·rw [if_neg c12] at H
       exact absurd H (by simp)
     ·rw [if_neg c11] at H
      have c11b0 : (a0_0.toList == ([104, 101, 120] : List UInt8)) = false := beq_eq_false_iff_ne.mpr c11
      have c11b1 : (a0_0.toList != ([104, 101, 120] : List UInt8)) = true := bne_iff_ne.mpr c11
      by_cases c14 : a0_0.size + 1 ≤ 9223372036854775807
      ·rw [if_pos c14] at H
       have c14b0 := eq_true c14
       have c14b1 : decide (a0_0.size + 1 ≤ 9223372036854775807) = true := decide_eq_true c14
       try have c14b2 : (9223372036854775807 < a0_0.size + 1) = False := eq_false (Nat.not_lt.2 c14)
       have H' := Aside0.mk H
       clear H
       obtain ⟨hcz15_0, hcz15_1, hcz15_2, hcz15_3, hcz15_4, hfz15_0, hfz15_1, hfz15_2, hfz15_3, hfz15_4⟩ := ex5 BK572.out
       go_wp2
       go_loopg [3, 4] kj1 (fun kq v3 v4 w' => ∃ (x3_2 : ByteArray) (x4_2 : Int), v3 = .string x3_2 ∧ v4 = .int .i64 x4_2 ∧ Aside0 (xAg.l0 kq x3_2 x4_2 a0_0 a0_1 a0_2 a0_3 l0_4 = some r) ∧ Aside0 (kq ≤ kj1) ∧ Aside0 (w'.heap[gb572]? = some (.cells #[.string a0_0, .string a0_1, .int .i64 a0_2, .int .i64 a0_3, (.slice A0_4 l0_4.length c0_4)] 25 (0, 0))) ∧ Aside0 (Below w.heap.size w w'))
       case atStart => exact ⟨(a0_0 ++ (⟨#[40]⟩ : ByteArray)), (0), (by first | rfl | (simp; done) | (simp [*]; done)), (by first | rfl | (simp; done) | (simp [*]; done)), H', ⟨Nat.le_refl _⟩, ⟨by (with_reducible repeat (first | refine xA5 ?_ _ | refine xA8 ?_ | refine xA4 ?_ _)); exact BK572.out⟩, ⟨by repeat (first | (with_reducible first | exact HB.out | apply xA1 | apply xA0 | apply below_drew1 | refine xA6 ?_ GE572.out) | exact HB.out)⟩⟩
       case round =>
        clear H'
        try clear c1
        try clear c2
        try clear p2
        try clear c5
        try clear c5b0
        try clear c5b1
        try clear c6
        try clear c8
        try clear c8b0
        try clear c8b1
        try clear c11
        try clear c11b0
        try clear c11b1
        try clear c12
        try clear c12b0
        try clear c12b1
        try clear c12b2
        try clear c14
        try clear c14b0
        try clear c14b1
        try clear c14b2
        try clear hcz10_0 hcz10_1 hcz10_2 hcz10_3 hcz10_4
        try clear hcz13_0 hcz13_1 hcz13_2 hcz13_3 hcz13_4
        try clear hcz15_0 hcz15_1 hcz15_2 hcz15_3 hcz15_4
        try clear hcz4_0 hcz4_1 hcz4_2 hcz4_3 hcz4_4
        try clear hcz7_0 hcz7_1 hcz7_2 hcz7_3 hcz7_4
        try clear hfz10_0 hfz10_1 hfz10_2 hfz10_3 hfz10_4
        try clear hfz13_0 hfz13_1 hfz13_2 hfz13_3 hfz13_4
        try clear hfz15_0 hfz15_1 hfz15_2 hfz15_3 hfz15_4
        try clear hfz4_0 hfz4_1 hfz4_2 hfz4_3 hfz4_4
        try clear hfz7_0 hfz7_1 hfz7_2 hfz7_3 hfz7_4
        try clear p2
        obtain ⟨x3_2, x4_2, rfl, rfl, HA, HK2, BK572, HB⟩ := hrel
        cases gk with
        | zero => exact absurd HA.out (by simp [xAg.l0])
        | succ k2 =>
         have H := HA.out
         clear HA
         simp only [xAg.l0] at H
         by_cases c16 : x4_2 < (l0_4.length : Int)
         ·rw [if_pos c16] at H
          have c16b0 : decide (x4_2 < (l0_4.length : Int)) = true := decide_eq_true c16
          clear c16
          by_cases c17 : x4_2 > 0
          ·rw [if_pos c17] at H
           have c17b0 : decide (0 < x4_2) = true := decide_eq_true c17
           clear c17
           by_cases c18 : x3_2.size + 2 ≤ 9223372036854775807
           ·rw [if_pos c18] at H
            have c18b0 := eq_true c18
            have c18b1 : decide (x3_2.size + 2 ≤ 9223372036854775807) = true := decide_eq_true c18
            try have c18b2 : (9223372036854775807 < x3_2.size + 2) = False := eq_false (Nat.not_lt.2 c18)
            by_cases c19 : 0 ≤ x4_2
            ·rw [if_pos c19] at H
             have c19b0 : decide (0 ≤ x4_2) = true := decide_eq_true c19
             clear c19
             replace H := Option.bind_eq_some_iff.mp H
             obtain ⟨t575, A200, H⟩ := H
             replace H : (if (x3_2 ++ (⟨#[44, 32]⟩ : ByteArray)).size + t575.size ≤ 9223372036854775807 then (xAg.l0 k2 ((x3_2 ++ (⟨#[44, 32]⟩ : ByteArray)) ++ t575) (wrap64 (x4_2 + 1)) a0_0 a0_1 a0_2 a0_3 l0_4) else (none)) = some r := H
             have A20 := Aside0.mk A200
             clear A200
             by_cases c21 : (x3_2 ++ (⟨#[44, 32]⟩ : ByteArray)).size + t575.size ≤ 9223372036854775807
             ·rw [if_pos c21] at H
              have c21b0 := eq_true c21
              have c21b1 : decide ((x3_2 ++ (⟨#[44, 32]⟩ : ByteArray)).size + t575.size ≤ 9223372036854775807) = true := decide_eq_true c21
              try have c21b2 : (9223372036854775807 < (x3_2 ++ (⟨#[44, 32]⟩ : ByteArray)).size + t575.size) = False := eq_false (Nat.not_lt.2 c21)
              have c21s := c21
              (try simp only [ByteArray.size_append, show (⟨#[44, 32]⟩ : ByteArray).size = 2 from rfl] at c21s)
              (try have c21u := decide_eq_true c21s)
              (try have c21v := eq_false (Nat.not_lt.2 c21s))
              clear c21s
              have H' := Aside0.mk H
              clear H
              obtain ⟨hcz22_0, hcz22_1, hcz22_2, hcz22_3, hcz22_4, hfz22_0, hfz22_1, hfz22_2, hfz22_3, hfz22_4⟩ := ex5 BK572.out
              have p574 : 0 ≤ (x4_2 : Int) := of_decide_eq_true (by first | (with_reducible assumption) | assumption)
              have q574 : x4_2 < (l0_4.length : Int) := of_decide_eq_true (by first | (with_reducible assumption) | assumption)
              obtain ⟨ad574, A574_4, c574_4, e574, hx574_0, hx574_1, hx574_2, hx574_3, hx574_4, hl574_4, hi574_4⟩ := xC3 HR0_4.out x4_2 p574 q574
              cases e574
              replace hx574_0 := (HB.out.cell (World.block_lt_of_cell? w _ hx574_0)).trans hx574_0
              replace hx574_1 := (HB.out.cell (World.block_lt_of_cell? w _ hx574_1)).trans hx574_1
              replace hx574_2 := (HB.out.cell (World.block_lt_of_cell? w _ hx574_2)).trans hx574_2
              replace hx574_3 := (HB.out.cell (World.block_lt_of_cell? w _ hx574_3)).trans hx574_3
              replace hx574_4 := (HB.out.cell (World.block_lt_of_cell? w _ hx574_4)).trans hx574_4
              have HR574_4 := Aside0.mk hi574_4
              have HC574_4 := Aside0.mk hl574_4
              clear hi574_4 hl574_4
              replace p574 := eq_true p574
              replace q574 := eq_true q574
              go_wp2_with (first | ((with_reducible refine xAj (f := 25) rfl ?_); refine xB6 (some 42) rfl rfl Tryd.func25 (by kernel_rfl) rfl #[.agg #[.string ((xA2 l0_4 x4_2).f0), .string ((xA2 l0_4 x4_2).f1), .int .i64 ((xA2 l0_4 x4_2).f2), .int .i64 ((xA2 l0_4 x4_2).f3), .slice A574_4 ((xA2 l0_4 x4_2).f4).length c574_4]] rfl (by (try simp only [List.map_toArray, List.map_cons, List.map_nil]); first | done | rfl | (simp only [List.length_drop, List.length_take]; rfl)) ?_; (with_reducible refine (ih k2 (by have := HJ1.out; have := HK2.out; omega) ((xA2 l0_4 x4_2).f0) ((xA2 l0_4 x4_2).f1) ((xA2 l0_4 x4_2).f2) ((xA2 l0_4 x4_2).f3) _ _ ((xA2 l0_4 x4_2).f4) t575 _ ?side1 ?side2 A20.out).mono ?_); (case side1 => repeat (first | exact (Kd.C_below HR574_4.out HB.out) | (with_reducible refine Kd.C_alloc ?_ _) | (with_reducible refine Kd.C_drewN ?_ _) | (with_reducible refine Kd.C_drew ?_))); (case side2 => exact HC574_4.out); rintro e w23 ⟨rfl, hb⟩; refine ⟨_, rfl, ?_⟩; have n0_ := Aside0.mk (xAt (g := gb572) (o := .cells #[.string a0_0, .string a0_1, .int .i64 a0_2, .int .i64 a0_3, .slice (some ad574) l0_4.length c0_4] 25 (0, 0)) (by (with_reducible repeat (first | refine xA5 ?_ _ | refine xA8 ?_ | refine xA4 ?_ _)); exact BK572.out) hb); have n1_ := Aside0.mk (xAi (by repeat (first | (with_reducible first | exact HB.out | apply xA1 | apply xA0 | apply below_drew1 | refine xA6 ?_ GE572.out) | exact HB.out)) hb); clear BK572; clear HB; have BK572 := n0_; have HB := n1_; clear n0_ n1_; (try clear hb); (try clear hb2); (try clear hk); (try clear hi)))
              go_roundg k2
              case measure => have := HJ1.out; have := HK2.out; omega
              case rel => exact ⟨((x3_2 ++ (⟨#[44, 32]⟩ : ByteArray)) ++ t575), (wrap64 (x4_2 + 1)), (by first | rfl | (simp; done) | (simp [*]; done)), (by first | rfl | (simp; done) | (simp [*]; done)), H', ⟨by have := HJ1.out; have := HK2.out; omega⟩, ⟨by (with_reducible repeat (first | refine xA5 ?_ _ | refine xA8 ?_ | refine xA4 ?_ _)); exact BK572.out⟩, ⟨by repeat (first | (with_reducible first | exact HB.out | apply xA1 | apply xA0 | apply below_drew1 | refine xA6 ?_ GE572.out) | exact HB.out)⟩⟩
             ·rw [if_neg c21] at H
              exact absurd H (by simp)
            ·rw [if_neg c19] at H
             exact absurd H (by simp)
           ·rw [if_neg c18] at H
            exact absurd H (by simp)
          ·rw [if_neg c17] at H
           have c17b0 : decide (0 < x4_2) = false := decide_eq_false c17
           clear c17
           by_cases c24 : 0 ≤ x4_2
           ·rw [if_pos c24] at H
            have c24b0 : decide (0 ≤ x4_2) = true := decide_eq_true c24
            clear c24
            replace H := Option.bind_eq_some_iff.mp H
            obtain ⟨t577, A250, H⟩ := H
            replace H : (if x3_2.size + t577.size ≤ 9223372036854775807 then (xAg.l0 k2 (x3_2 ++ t577) (wrap64 (x4_2 + 1)) a0_0 a0_1 a0_2 a0_3 l0_4) else (none)) = some r := H
            have A25 := Aside0.mk A250
            clear A250
            by_cases c26 : x3_2.size + t577.size ≤ 9223372036854775807
            ·rw [if_pos c26] at H
             have c26b0 := eq_true c26
             have c26b1 : decide (x3_2.size + t577.size ≤ 9223372036854775807) = true := decide_eq_true c26
             try have c26b2 : (9223372036854775807 < x3_2.size + t577.size) = False := eq_false (Nat.not_lt.2 c26)
             have H' := Aside0.mk H
             clear H
             obtain ⟨hcz27_0, hcz27_1, hcz27_2, hcz27_3, hcz27_4, hfz27_0, hfz27_1, hfz27_2, hfz27_3, hfz27_4⟩ := ex5 BK572.out
             have p576 : 0 ≤ (x4_2 : Int) := of_decide_eq_true (by first | (with_reducible assumption) | assumption)
             have q576 : x4_2 < (l0_4.length : Int) := of_decide_eq_true (by first | (with_reducible assumption) | assumption)
             obtain ⟨ad576, A576_4, c576_4, e576, hx576_0, hx576_1, hx576_2, hx576_3, hx576_4, hl576_4, hi576_4⟩ := xC3 HR0_4.out x4_2 p576 q576
             cases e576
             replace hx576_0 := (HB.out.cell (World.block_lt_of_cell? w _ hx576_0)).trans hx576_0
             replace hx576_1 := (HB.out.cell (World.block_lt_of_cell? w _ hx576_1)).trans hx576_1
             replace hx576_2 := (HB.out.cell (World.block_lt_of_cell? w _ hx576_2)).trans hx576_2
             replace hx576_3 := (HB.out.cell (World.block_lt_of_cell? w _ hx576_3)).trans hx576_3
             replace hx576_4 := (HB.out.cell (World.block_lt_of_cell? w _ hx576_4)).trans hx576_4
             have HR576_4 := Aside0.mk hi576_4
             have HC576_4 := Aside0.mk hl576_4
             clear hi576_4 hl576_4
             replace p576 := eq_true p576
             replace q576 := eq_true q576
             go_wp2_with (first | ((with_reducible refine xAj (f := 25) rfl ?_); refine xB6 (some 42) rfl rfl Tryd.func25 (by kernel_rfl) rfl #[.agg #[.string ((xA2 l0_4 x4_2).f0), .string ((xA2 l0_4 x4_2).f1), .int .i64 ((xA2 l0_4 x4_2).f2), .int .i64 ((xA2 l0_4 x4_2).f3), .slice A576_4 ((xA2 l0_4 x4_2).f4).length c576_4]] rfl (by (try simp only [List.map_toArray, List.map_cons, List.map_nil]); first | done | rfl | (simp only [List.length_drop, List.length_take]; rfl)) ?_; (with_reducible refine (ih k2 (by have := HJ1.out; have := HK2.out; omega) ((xA2 l0_4 x4_2).f0) ((xA2 l0_4 x4_2).f1) ((xA2 l0_4 x4_2).f2) ((xA2 l0_4 x4_2).f3) _ _ ((xA2 l0_4 x4_2).f4) t577 _ ?side1 ?side2 A25.out).mono ?_); (case side1 => repeat (first | exact (Kd.C_below HR576_4.out HB.out) | (with_reducible refine Kd.C_alloc ?_ _) | (with_reducible refine Kd.C_drewN ?_ _) | (with_reducible refine Kd.C_drew ?_))); (case side2 => exact HC576_4.out); rintro e w28 ⟨rfl, hb⟩; refine ⟨_, rfl, ?_⟩; have n0_ := Aside0.mk (xAt (g := gb572) (o := .cells #[.string a0_0, .string a0_1, .int .i64 a0_2, .int .i64 a0_3, .slice (some ad576) l0_4.length c0_4] 25 (0, 0)) (by (with_reducible repeat (first | refine xA5 ?_ _ | refine xA8 ?_ | refine xA4 ?_ _)); exact BK572.out) hb); have n1_ := Aside0.mk (xAi (by repeat (first | (with_reducible first | exact HB.out | apply xA1 | apply xA0 | apply below_drew1 | refine xA6 ?_ GE572.out) | exact HB.out)) hb); clear BK572; clear HB; have BK572 := n0_; have HB := n1_; clear n0_ n1_; (try clear hb); (try clear hb2); (try clear hk); (try clear hi)))
             go_roundg k2
             case measure => have := HJ1.out; have := HK2.out; omega
             case rel => exact ⟨(x3_2 ++ t577), (wrap64 (x4_2 + 1)), (by first | rfl | (simp; done) | (simp [*]; done)), (by first | rfl | (simp; done) | (simp [*]; done)), H', ⟨by have := HJ1.out; have := HK2.out; omega⟩, ⟨by (with_reducible repeat (first | refine xA5 ?_ _ | refine xA8 ?_ | refine xA4 ?_ _)); exact BK572.out⟩, ⟨by repeat (first | (with_reducible first | exact HB.out | apply xA1 | apply xA0 | apply below_drew1 | refine xA6 ?_ GE572.out) | exact HB.out)⟩⟩
            ·rw [if_neg c26] at H
             exact absurd H (by simp)
           ·rw [if_neg c24] at H
            exact absurd H (by simp)
         ·rw [if_neg c16] at H
          have c16b0 : decide (x4_2 < (l0_4.length : Int)) = false := decide_eq_false c16
          clear c16
          by_cases c29 : x3_2.size + 1 ≤ 9223372036854775807
          ·rw [if_pos c29] at H
           have c29b0 := eq_true c29
           have c29b1 : decide (x3_2.size + 1 ≤ 9223372036854775807) = true := decide_eq_true c29
           try have c29b2 : (9223372036854775807 < x3_2.size + 1) = False := eq_false (Nat.not_lt.2 c29)
           obtain rfl := Option.some.inj H
           obtain ⟨hcz30_0, hcz30_1, hcz30_2, hcz30_3, hcz30_4, hfz30_0, hfz30_1, hfz30_2, hfz30_3, hfz30_4⟩ := ex5 BK572.out
           go_wp2
           go_ret
           exact ⟨by first | rfl | (simp <;> rfl) | (simp [*] <;> rfl), by repeat (first | (with_reducible first | exact HB.out | apply xA1 | apply xA0 | apply below_drew1 | refine xA6 ?_ GE572.out) | exact HB.out)⟩
          ·rw [if_neg c29] at H
           exact absurd H (by simp)
      ·rw [if_neg c14] at H
       exact absurd H (by simp)

end Go.Proofs.YtknbfhhmjbnemaaDoor.P
end
section
namespace Go.Proofs.YtknbfhhmjbnemaaDoor.P
open Go.RowKit Go.Proofs.YtknbfhhmjbnemaaDoorW.PrintWords Go.Proofs.YtknbfhhmjbnemaaDoorW.PrintLast Go.Proofs.YtknbfhhmjbnemaaDoorW.PrintMore
attribute [local go_sem] xB9 xBe

/-! ### xAc: function 14 -/
mutual
def xAc.l0 : Nat → ByteArray → Int → ByteArray → ByteArray → Int → Int → List (S25) → Option (ByteArray × Int)
 | 0, _, _, _, _, _, _, _ => none
 | k + 1, x5, x6, x579000, x579001, x579002, x579003, x579004 => if x6 < (x579004.length : Int) then (if 0 ≤ x6 then (if x5.size + ((xA2 x579004 x6).f0).size ≤ 9223372036854775807 then (if (x5 ++ ((xA2 x579004 x6).f0)).size + 1 ≤ 9223372036854775807 then (if ((x5 ++ ((xA2 x579004 x6).f0)) ++ (⟨#[32]⟩ : ByteArray)).size + ((xA2 x579004 x6).f1).size ≤ 9223372036854775807 then (if ((xA2 x579004 x6).f0).toList = ([100, 101, 118, 105, 99, 101] : List UInt8) then (xAc.j1 k (((x5 ++ ((xA2 x579004 x6).f0)) ++ (⟨#[32]⟩ : ByteArray)) ++ ((xA2 x579004 x6).f1)) x6 ((xA2 x579004 x6).f0) (((xA2 x579004 x6).f0).toList == ([100, 101, 118, 105, 99, 101] : List UInt8)) x579000 x579001 x579002 x579003 x579004 ((xA2 x579004 x6).f0) ((xA2 x579004 x6).f1) ((xA2 x579004 x6).f2) ((xA2 x579004 x6).f3) ((xA2 x579004 x6).f4)) else (xAc.j1 k (((x5 ++ ((xA2 x579004 x6).f0)) ++ (⟨#[32]⟩ : ByteArray)) ++ ((xA2 x579004 x6).f1)) x6 ((xA2 x579004 x6).f0) (((xA2 x579004 x6).f0).toList == ([106, 111, 117, 114, 110, 97, 108] : List UInt8)) x579000 x579001 x579002 x579003 x579004 ((xA2 x579004 x6).f0) ((xA2 x579004 x6).f1) ((xA2 x579004 x6).f2) ((xA2 x579004 x6).f3) ((xA2 x579004 x6).f4))) else (none)) else (none)) else (none)) else (none)) else (some (x5, 0))
def xAc.j1 : Nat → ByteArray → Int → ByteArray → Bool → ByteArray → ByteArray → Int → Int → List (S25) → ByteArray → ByteArray → Int → Int → List (S25) → Option (ByteArray × Int)
 | 0, _, _, _, _, _, _, _, _, _, _, _, _, _, _ => none
 | k + 1, x5, x6, x33, x34, x579000, x579001, x579002, x579003, x579004, x582000, x582001, x582002, x582003, x582004 => if x34 = true then (if x5.size + 1 ≤ 9223372036854775807 then ((xAp.f k x582002).bind fun t582 => (if (x5 ++ (⟨#[32]⟩ : ByteArray)).size + t582.size ≤ 9223372036854775807 then (if ((x5 ++ (⟨#[32]⟩ : ByteArray)) ++ t582).size + 2 ≤ 9223372036854775807 then (xAc.l0 k (((x5 ++ (⟨#[32]⟩ : ByteArray)) ++ t582) ++ (⟨#[59, 10]⟩ : ByteArray)) (wrap64 (x6 + 1)) x579000 x579001 x579002 x579003 x579004) else (none)) else (none))) else (none)) else (if x33.toList = ([107, 101, 121] : List UInt8) then (xAc.j2 k x5 x6 x33 (x33.toList == ([107, 101, 121] : List UInt8)) x579000 x579001 x579002 x579003 x579004 x582000 x582001 x582002 x582003 x582004) else (xAc.j2 k x5 x6 x33 (x33.toList == ([114, 111, 111, 116] : List UInt8)) x579000 x579001 x579002 x579003 x579004 x582000 x582001 x582002 x582003 x582004))
def xAc.j2 : Nat → ByteArray → Int → ByteArray → Bool → ByteArray → ByteArray → Int → Int → List (S25) → ByteArray → ByteArray → Int → Int → List (S25) → Option (ByteArray × Int)
 | 0, _, _, _, _, _, _, _, _, _, _, _, _, _, _ => none
 | k + 1, x5, x6, x33, x43, x579000, x579001, x579002, x579003, x579004, x582000, x582001, x582002, x582003, x582004 => if x43 = true then (if x5.size + 1 ≤ 9223372036854775807 then (if 0 < (x582004.length : Int) then ((xAg.f k ((xA2 x582004 0).f0) ((xA2 x582004 0).f1) ((xA2 x582004 0).f2) ((xA2 x582004 0).f3) ((xA2 x582004 0).f4)).bind fun t584 => (if (x5 ++ (⟨#[32]⟩ : ByteArray)).size + t584.size ≤ 9223372036854775807 then (if ((x5 ++ (⟨#[32]⟩ : ByteArray)) ++ t584).size + 2 ≤ 9223372036854775807 then (xAc.l0 k (((x5 ++ (⟨#[32]⟩ : ByteArray)) ++ t584) ++ (⟨#[59, 10]⟩ : ByteArray)) (wrap64 (x6 + 1)) x579000 x579001 x579002 x579003 x579004) else (none)) else (none))) else (none)) else (none)) else (if x33.toList = ([118, 111, 108, 117, 109, 101] : List UInt8) then (if x5.size + 3 ≤ 9223372036854775807 then (if 0 < (x582004.length : Int) then ((xAg.f k ((xA2 x582004 0).f0) ((xA2 x582004 0).f1) ((xA2 x582004 0).f2) ((xA2 x582004 0).f3) ((xA2 x582004 0).f4)).bind fun t586 => (if (x5 ++ (⟨#[32, 61, 32]⟩ : ByteArray)).size + t586.size ≤ 9223372036854775807 then (if ((x5 ++ (⟨#[32, 61, 32]⟩ : ByteArray)) ++ t586).size + 2 ≤ 9223372036854775807 then (xAc.l0 k (((x5 ++ (⟨#[32, 61, 32]⟩ : ByteArray)) ++ t586) ++ (⟨#[59, 10]⟩ : ByteArray)) (wrap64 (x6 + 1)) x579000 x579001 x579002 x579003 x579004) else (none)) else (none))) else (none)) else (none)) else (if x33.toList = ([101, 120, 112, 111, 114, 116] : List UInt8) then (if x582002 = 1 then (if x5.size + 9 ≤ 9223372036854775807 then (if (x5 ++ (⟨#[32, 114, 101, 97, 100, 111, 110, 108, 121]⟩ : ByteArray)).size + 2 ≤ 9223372036854775807 then (xAc.l0 k ((x5 ++ (⟨#[32, 114, 101, 97, 100, 111, 110, 108, 121]⟩ : ByteArray)) ++ (⟨#[59, 10]⟩ : ByteArray)) (wrap64 (x6 + 1)) x579000 x579001 x579002 x579003 x579004) else (none)) else (none)) else (if x5.size + 2 ≤ 9223372036854775807 then (xAc.l0 k (x5 ++ (⟨#[59, 10]⟩ : ByteArray)) (wrap64 (x6 + 1)) x579000 x579001 x579002 x579003 x579004) else (none))) else (if x5.size + 2 ≤ 9223372036854775807 then (xAc.l0 k (x5 ++ (⟨#[59, 10]⟩ : ByteArray)) (wrap64 (x6 + 1)) x579000 x579001 x579002 x579003 x579004) else (none))))
end
def xAc.f (k : Nat) (a0_0 : ByteArray) (a0_1 : ByteArray) (a0_2 : Int) (a0_3 : Int) (l0_4 : List (S25)) : Option (ByteArray × Int) := (xAm.f k a0_0 a0_1 a0_2 a0_3 l0_4).bind fun t579 => (if t579 = true then (xAc.l0 k (⟨#[]⟩ : ByteArray) 0 a0_0 a0_1 a0_2 a0_3 l0_4) else (some ((⟨#[]⟩ : ByteArray), 111)))
set_option maxHeartbeats 8000000 in
set_option maxRecDepth 100000 in
theorem xAc.calls (k : Nat) (a0_0 : ByteArray) (a0_1 : ByteArray) (a0_2 : Int) (a0_3 : Int) (A0_4 : Option Addr) (c0_4 : Nat) (l0_4 : List (S25)) (r1 : ByteArray) (r2 : Int) (w : World) (hr0_4 : Kd.C k25 w A0_4 l0_4.length l0_4) (hc0_4 : l0_4.length ≤ c0_4) (h : xAc.f k a0_0 a0_1 a0_2 a0_3 l0_4 = some (r1, r2)) :
  Calls Tryd.prog 14 #[.agg #[.string a0_0, .string a0_1, .int .i64 a0_2, .int .i64 a0_3, .slice A0_4 l0_4.length c0_4]] w fun e w' => e = .returned (.tuple #[.string r1, .int .i64 r2]) ∧ Below w.heap.size w w' := by
 have hu25 := Tryd.underlying25
 have HR0_4 := Aside0.mk hr0_4
 have HC0_4 := Aside0.mk hc0_4
 clear hr0_4 hc0_4
 have HB := Aside0.mk (Below.refl w.heap.size w)
 have H : ((xAm.f k a0_0 a0_1 a0_2 a0_3 l0_4).bind fun t579 => (if t579 = true then (xAc.l0 k (⟨#[]⟩ : ByteArray) 0 a0_0 a0_1 a0_2 a0_3 l0_4) else (some ((⟨#[]⟩ : ByteArray), 111)))) = some (r1, r2) := h
 clear h
 replace H := Option.bind_eq_some_iff.mp H
 obtain ⟨t579, A20, H⟩ := H
 replace H : (if t579 = true then (xAc.l0 k (⟨#[]⟩ : ByteArray) 0 a0_0 a0_1 a0_2 a0_3 l0_4) else (some ((⟨#[]⟩ : ByteArray), 111))) = some (r1, r2) := H
 have A2 := Aside0.mk A20
 clear A20
 by_cases c3 : t579 = true
 ·subst c3
  have H1 : (xAc.l0 k (⟨#[]⟩ : ByteArray) 0 a0_0 a0_1 a0_2 a0_3 l0_4) = some (r1, r2) := by rw [if_pos rfl] at H; exact H
  clear H
  have H := H1
  clear H1
  have H' := Aside0.mk H
  clear H
  go_enter Tryd.func14, Tryd.ntmps14
  go_wp2_with (first | ((with_reducible refine xBq (N := 1) rfl ?_); refine xBm ?hg (N := 1) ?hd (cs := #[.string a0_0, .string a0_1, .int .i64 a0_2, .int .i64 a0_3, .slice A0_4 l0_4.length c0_4]) (t := 25) ?hr ?_; (case hd => rfl); (case hg => rfl); (case hr => first | (go_simp; done) | (go_simp; rfl)); intro gb578 hg w4 hbox hb; have n0_ := Aside0.mk (xAi (by repeat (first | (with_reducible first | exact HB.out | apply xA1 | apply xA0 | apply below_drew1) | exact HB.out)) hb); have n1_ := Aside0.mk (hbox); have n2_ := Aside0.mk ((by rw [hg]; exact (xAs (by repeat (first | (with_reducible first | exact HB.out | apply xA1 | apply xA0 | apply below_drew1) | exact HB.out))) : w.heap.size ≤ gb578)); have n3_ := Aside0.mk ((by rw [hg]; exact (xAs (by repeat (first | (with_reducible first | exact HB.out | apply xA1 | apply xA0 | apply below_drew1) | exact HB.out))) : w.heap.size ≤ gb578)); clear HB; have HB := n0_; have BK578 := n1_; have GW578 := n2_; have GE578 := n3_; clear n0_ n1_ n2_ n3_; clear hb hbox hg; obtain ⟨hcz5_0, hcz5_1, hcz5_2, hcz5_3, hcz5_4, hfz5_0, hfz5_1, hfz5_2, hfz5_3, hfz5_4⟩ := ex5 BK578.out) | ((with_reducible refine xAj (f := 16) rfl ?_); refine xB6 (some 9) rfl rfl Tryd.func16 (by kernel_rfl) rfl #[.agg #[.string a0_0, .string a0_1, .int .i64 a0_2, .int .i64 a0_3, .slice A0_4 l0_4.length c0_4]] rfl (by (try simp only [List.map_toArray, List.map_cons, List.map_nil]); first | done | rfl | (simp only [List.length_drop, List.length_take]; rfl)) ?_; (with_reducible refine (xAm.calls k a0_0 a0_1 a0_2 a0_3 _ _ l0_4 true _ ?side1 ?side2 A2.out).mono ?_); (case side1 => repeat (first | exact (Kd.C_below HR0_4.out HB.out) | (with_reducible refine Kd.C_alloc ?_ _) | (with_reducible refine Kd.C_drewN ?_ _) | (with_reducible refine Kd.C_drew ?_))); (case side2 => exact HC0_4.out); rintro e w6 ⟨rfl, hb⟩; refine ⟨_, rfl, ?_⟩; have n0_ := Aside0.mk (xAt (g := gb578) (o := .cells #[.string a0_0, .string a0_1, .int .i64 a0_2, .int .i64 a0_3, .slice A0_4 l0_4.length c0_4] 25 (0, 0)) (by (with_reducible repeat (first | refine xA5 ?_ _ | refine xA8 ?_ | refine xA4 ?_ _)); exact BK578.out) hb); have n1_ := Aside0.mk (xAi (by repeat (first | (with_reducible first | exact HB.out | apply xA1 | apply xA0 | apply below_drew1 | refine xA6 ?_ GE578.out) | exact HB.out)) hb); clear BK578; clear HB; have BK578 := n0_; have HB := n1_; clear n0_ n1_; (try clear hb); (try clear hb2); (try clear hk); (try clear hi)))
  go_loopg [5, 6] k (fun kq v5 v6 w' => ∃ (x5_1 : ByteArray) (x6_1 : Int), v5 = .string x5_1 ∧ v6 = .int .i64 x6_1 ∧ Aside0 (xAc.l0 kq x5_1 x6_1 a0_0 a0_1 a0_2 a0_3 l0_4 = some (r1, r2)) ∧ Aside0 (kq ≤ k) ∧ Aside0 (w'.heap[gb578]? = some (.cells #[.string a0_0, .string a0_1, .int .i64 a0_2, .int .i64 a0_3, (.slice A0_4 l0_4.length c0_4)] 25 (0, 0))) ∧ Aside0 (Below w.heap.size w w'))
  case atStart => exact ⟨((⟨#[]⟩ : ByteArray)), (0), (by first | rfl | (simp; done) | (simp [*]; done)), (by first | rfl | (simp; done) | (simp [*]; done)), H', ⟨Nat.le_refl _⟩, ⟨by (with_reducible repeat (first | refine xA5 ?_ _ | refine xA8 ?_ | refine xA4 ?_ _)); exact BK578.out⟩, ⟨by repeat (first | (with_reducible first | exact HB.out | apply xA1 | apply xA0 | apply below_drew1 | refine xA6 ?_ GE578.out) | exact HB.out)⟩⟩
  case round =>
   clear H'
   try clear c1
   try clear p2
   try clear c3
   try clear hcz5_0 hcz5_1 hcz5_2 hcz5_3 hcz5_4
   try clear hfz5_0 hfz5_1 hfz5_2 hfz5_3 hfz5_4
   obtain ⟨x5_1, x6_1, rfl, rfl, HA, HK1, BK578, HB⟩ := hrel
   cases gk with
   | zero => exact absurd HA.out (by simp [xAc.l0])
   | succ k1 =>
    have H := HA.out
    clear HA
    simp only [xAc.l0] at H
    by_cases c7 : x6_1 < (l0_4.length : Int)
    ·rw [if_pos c7] at H
     have c7b0 : decide (x6_1 < (l0_4.length : Int)) = true := decide_eq_true c7
     clear c7
     by_cases c8 : 0 ≤ x6_1
     ·rw [if_pos c8] at H
      have c8b0 : decide (0 ≤ x6_1) = true := decide_eq_true c8
      clear c8
      by_cases c9 : x5_1.size + ((xA2 l0_4 x6_1).f0).size ≤ 9223372036854775807
      ·rw [if_pos c9] at H
       have c9b0 := eq_true c9
       have c9b1 : decide (x5_1.size + ((xA2 l0_4 x6_1).f0).size ≤ 9223372036854775807) = true := decide_eq_true c9
       try have c9b2 : (9223372036854775807 < x5_1.size + ((xA2 l0_4 x6_1).f0).size) = False := eq_false (Nat.not_lt.2 c9)
       by_cases c10 : (x5_1 ++ ((xA2 l0_4 x6_1).f0)).size + 1 ≤ 9223372036854775807
       ·rw [if_pos c10] at H
        have c10b0 := eq_true c10
        have c10b1 : decide ((x5_1 ++ ((xA2 l0_4 x6_1).f0)).size + 1 ≤ 9223372036854775807) = true := decide_eq_true c10
        try have c10b2 : (9223372036854775807 < (x5_1 ++ ((xA2 l0_4 x6_1).f0)).size + 1) = False := eq_false (Nat.not_lt.2 c10)
        have c10s := c10
        (try simp only [ByteArray.size_append] at c10s)
        (try have c10u := decide_eq_true c10s)
        (try have c10v := eq_false (Nat.not_lt.2 c10s))
        clear c10s
        by_cases c11 : ((x5_1 ++ ((xA2 l0_4 x6_1).f0)) ++ (⟨#[32]⟩ : ByteArray)).size + ((xA2 l0_4 x6_1).f1).size ≤ 9223372036854775807
        ·rw [if_pos c11] at H
         have c11b0 := eq_true c11
         have c11b1 : decide (((x5_1 ++ ((xA2 l0_4 x6_1).f0)) ++ (⟨#[32]⟩ : ByteArray)).size + ((xA2 l0_4 x6_1).f1).size ≤ 9223372036854775807) = true := decide_eq_true c11
         try have c11b2 : (9223372036854775807 < ((x5_1 ++ ((xA2 l0_4 x6_1).f0)) ++ (⟨#[32]⟩ : ByteArray)).size + ((xA2 l0_4 x6_1).f1).size) = False := eq_false (Nat.not_lt.2 c11)
         have c11s := c11
         (try simp only [ByteArray.size_append, show (⟨#[32]⟩ : ByteArray).size = 1 from rfl] at c11s)
         (try have c11u := decide_eq_true c11s)
         (try have c11v := eq_false (Nat.not_lt.2 c11s))
         clear c11s
         have HC12 := Aside0.mk H
         clear H
         obtain ⟨hcz13_0, hcz13_1, hcz13_2, hcz13_3, hcz13_4, hfz13_0, hfz13_1, hfz13_2, hfz13_3, hfz13_4⟩ := ex5 BK578.out
         have p580 : 0 ≤ (x6_1 : Int) := of_decide_eq_true (by first | (with_reducible assumption) | assumption)
         have q580 : x6_1 < (l0_4.length : Int) := of_decide_eq_true (by first | (with_reducible assumption) | assumption)
         obtain ⟨ad580, A580_4, c580_4, e580, hx580_0, hx580_1, hx580_2, hx580_3, hx580_4, hl580_4, hi580_4⟩ := xC3 HR0_4.out x6_1 p580 q580
         cases e580
         replace hx580_0 := (HB.out.cell (World.block_lt_of_cell? w _ hx580_0)).trans hx580_0
         replace hx580_1 := (HB.out.cell (World.block_lt_of_cell? w _ hx580_1)).trans hx580_1
         replace hx580_2 := (HB.out.cell (World.block_lt_of_cell? w _ hx580_2)).trans hx580_2
         replace hx580_3 := (HB.out.cell (World.block_lt_of_cell? w _ hx580_3)).trans hx580_3
         replace hx580_4 := (HB.out.cell (World.block_lt_of_cell? w _ hx580_4)).trans hx580_4
         have HR580_4 := Aside0.mk hi580_4
         have HC580_4 := Aside0.mk hl580_4
         clear hi580_4 hl580_4
         replace p580 := eq_true p580
         replace q580 := eq_true q580
         go_upto_if 34 with (first | ((with_reducible refine xBq (N := 7) rfl ?_); refine xBm ?hg (N := 7) ?hd (cs := #[.string (⟨#[]⟩ : ByteArray), .string (⟨#[]⟩ : ByteArray), .int .i64 0, .int .i64 0, .slice none 0 0]) (t := 25) ?hr ?_; (case hd => rfl); (case hg => rfl); (case hr => first | (go_simp; done) | (go_simp; rfl)); intro gb581 hg w14 hbox hb; have n0_ := Aside0.mk (xAt (g := gb578) (o := .cells #[.string a0_0, .string a0_1, .int .i64 a0_2, .int .i64 a0_3, .slice (some ad580) l0_4.length c0_4] 25 (0, 0)) (by (with_reducible repeat (first | refine xA5 ?_ _ | refine xA8 ?_ | refine xA4 ?_ _)); exact BK578.out) hb); have n1_ := Aside0.mk (xAi (by repeat (first | (with_reducible first | exact HB.out | apply xA1 | apply xA0 | apply below_drew1 | refine xA6 ?_ GE578.out) | exact HB.out)) hb); have n2_ := Aside0.mk (hbox); have n3_ := Aside0.mk ((by rw [hg]; exact (xAs (by repeat (first | (with_reducible first | exact HB.out | apply xA1 | apply xA0 | apply below_drew1 | refine xA6 ?_ GE578.out) | exact HB.out))) : w.heap.size ≤ gb581)); have n4_ := Aside0.mk ((by rw [hg]; exact (xAs (by repeat (first | (with_reducible first | exact HB.out | apply xA1 | apply xA0 | apply below_drew1 | refine xA6 ?_ GE578.out) | exact HB.out))) : w.heap.size ≤ gb581)); have n5_ := Aside0.mk ((by rw [hg]; exact Nat.ne_of_lt (xBx (g := gb578) (o := .cells #[.string a0_0, .string a0_1, .int .i64 a0_2, .int .i64 a0_3, .slice (some ad580) l0_4.length c0_4] 25 (0, 0)) (by (with_reducible repeat (first | refine xA5 ?_ _ | refine xA8 ?_ | refine xA4 ?_ _)); exact BK578.out)) : gb578 ≠ gb581)); have n6_ := Aside0.mk ((by rw [hg]; exact Nat.ne_of_gt (xBx (g := gb578) (o := .cells #[.string a0_0, .string a0_1, .int .i64 a0_2, .int .i64 a0_3, .slice (some ad580) l0_4.length c0_4] 25 (0, 0)) (by (with_reducible repeat (first | refine xA5 ?_ _ | refine xA8 ?_ | refine xA4 ?_ _)); exact BK578.out)) : gb581 ≠ gb578)); clear BK578; clear HB; have BK578 := n0_; have HB := n1_; have BK581 := n2_; have GW581 := n3_; have GE581 := n4_; have NB578_581 := n5_; have NB581_578 := n6_; clear n0_ n1_ n2_ n3_ n4_ n5_ n6_; clear hb hbox hg; have hnb15 := NB581_578.out; have hnc15 := NB578_581.out; obtain ⟨hcz16_0, hcz16_1, hcz16_2, hcz16_3, hcz16_4, hfz16_0, hfz16_1, hfz16_2, hfz16_3, hfz16_4⟩ := ex5 BK581.out))
         (try simp only [Act.put, List.setIfInBounds_toArray, List.set_cons_zero, List.set_cons_succ])
         go_cut [34] (fun v34 wc => ∃ (kq : Nat) (x34_11 : Bool), v34 = .bool x34_11 ∧ Aside0 (xAc.j1 kq (((x5_1 ++ ((xA2 l0_4 x6_1).f0)) ++ (⟨#[32]⟩ : ByteArray)) ++ ((xA2 l0_4 x6_1).f1)) x6_1 ((xA2 l0_4 x6_1).f0) x34_11 a0_0 a0_1 a0_2 a0_3 l0_4 ((xA2 l0_4 x6_1).f0) ((xA2 l0_4 x6_1).f1) ((xA2 l0_4 x6_1).f2) ((xA2 l0_4 x6_1).f3) ((xA2 l0_4 x6_1).f4) = some (r1, r2)) ∧ Aside0 (kq ≤ k1) ∧ Aside0 (wc.heap[gb578]? = some (.cells #[.string a0_0, .string a0_1, .int .i64 a0_2, .int .i64 a0_3, (.slice (some ad580) l0_4.length c0_4)] 25 (0, 0))) ∧ Aside0 (wc.heap[gb581]? = some (.cells #[.string ((xA2 l0_4 x6_1).f0), .string ((xA2 l0_4 x6_1).f1), .int .i64 ((xA2 l0_4 x6_1).f2), .int .i64 ((xA2 l0_4 x6_1).f3), (.slice A580_4 ((xA2 l0_4 x6_1).f4).length c580_4)] 25 (0, 0))) ∧ Aside0 (Below w.heap.size w wc))
         case first =>
          have H := HC12.out
          clear HC12
          by_cases c17 : ((xA2 l0_4 x6_1).f0).toList = ([100, 101, 118, 105, 99, 101] : List UInt8)
          ·rw [if_pos c17] at H
           have c17b0 : (((xA2 l0_4 x6_1).f0).toList == ([100, 101, 118, 105, 99, 101] : List UInt8)) = true := beq_iff_eq.mpr c17
           have c17b1 : (((xA2 l0_4 x6_1).f0).toList != ([100, 101, 118, 105, 99, 101] : List UInt8)) = false := bne_eq_false_iff_eq.mpr c17
           clear c17
           (first | rw [c17b0] | (simp only [xB0, xB1]; rw [c17b0]) | skip)
           have H' := Aside0.mk H
           clear H
           go_wp2
           go_meet
           case rel => exact ⟨_, ((((xA2 l0_4 x6_1).f0).toList == ([100, 101, 118, 105, 99, 101] : List UInt8))), (by first | rfl | (simp; done) | (simp [*]; done)), H', ⟨by have := HK1.out; first | omega | exact Nat.le_refl _⟩, ⟨by (with_reducible repeat (first | refine xA5 ?_ _ | refine xA8 ?_ | refine xA4 ?_ _)); refine xAk ?_ NB578_581.out _; (with_reducible repeat (first | refine xA5 ?_ _ | refine xA8 ?_ | refine xA4 ?_ _)); refine xAk ?_ NB578_581.out _; (with_reducible repeat (first | refine xA5 ?_ _ | refine xA8 ?_ | refine xA4 ?_ _)); refine xAk ?_ NB578_581.out _; (with_reducible repeat (first | refine xA5 ?_ _ | refine xA8 ?_ | refine xA4 ?_ _)); refine xAk ?_ NB578_581.out _; (with_reducible repeat (first | refine xA5 ?_ _ | refine xA8 ?_ | refine xA4 ?_ _)); refine xAk ?_ NB578_581.out _; (with_reducible repeat (first | refine xA5 ?_ _ | refine xA8 ?_ | refine xA4 ?_ _)); exact BK578.out⟩, ⟨by (with_reducible repeat (first | refine xA5 ?_ _ | refine xA8 ?_ | refine xA4 ?_ _)); refine xAh (cs := #[.string ((xA2 l0_4 x6_1).f0), .string ((xA2 l0_4 x6_1).f1), .int .i64 ((xA2 l0_4 x6_1).f2), .int .i64 ((xA2 l0_4 x6_1).f3), .slice none 0 0]) ?_ 4 _ rfl; (with_reducible repeat (first | refine xA5 ?_ _ | refine xA8 ?_ | refine xA4 ?_ _)); refine xAh (cs := #[.string ((xA2 l0_4 x6_1).f0), .string ((xA2 l0_4 x6_1).f1), .int .i64 ((xA2 l0_4 x6_1).f2), .int .i64 0, .slice none 0 0]) ?_ 3 _ rfl; (with_reducible repeat (first | refine xA5 ?_ _ | refine xA8 ?_ | refine xA4 ?_ _)); refine xAh (cs := #[.string ((xA2 l0_4 x6_1).f0), .string ((xA2 l0_4 x6_1).f1), .int .i64 0, .int .i64 0, .slice none 0 0]) ?_ 2 _ rfl; (with_reducible repeat (first | refine xA5 ?_ _ | refine xA8 ?_ | refine xA4 ?_ _)); refine xAh (cs := #[.string ((xA2 l0_4 x6_1).f0), .string (⟨#[]⟩ : ByteArray), .int .i64 0, .int .i64 0, .slice none 0 0]) ?_ 1 _ rfl; (with_reducible repeat (first | refine xA5 ?_ _ | refine xA8 ?_ | refine xA4 ?_ _)); refine xAh (cs := #[.string (⟨#[]⟩ : ByteArray), .string (⟨#[]⟩ : ByteArray), .int .i64 0, .int .i64 0, .slice none 0 0]) ?_ 0 _ rfl; (with_reducible repeat (first | refine xA5 ?_ _ | refine xA8 ?_ | refine xA4 ?_ _)); exact BK581.out⟩, ⟨by repeat (first | (with_reducible first | exact HB.out | apply xA1 | apply xA0 | apply below_drew1 | refine xA6 ?_ GE578.out | refine xA6 ?_ GE581.out) | exact HB.out)⟩⟩
          ·rw [if_neg c17] at H
           have c17b0 : (((xA2 l0_4 x6_1).f0).toList == ([100, 101, 118, 105, 99, 101] : List UInt8)) = false := beq_eq_false_iff_ne.mpr c17
           have c17b1 : (((xA2 l0_4 x6_1).f0).toList != ([100, 101, 118, 105, 99, 101] : List UInt8)) = true := bne_iff_ne.mpr c17
           (first | rw [c17b0] | (simp only [xB0, xB1]; rw [c17b0]) | skip)
           have H' := Aside0.mk H
           clear H
           go_wp2
           go_meet
           case rel => exact ⟨_, ((((xA2 l0_4 x6_1).f0).toList == ([106, 111, 117, 114, 110, 97, 108] : List UInt8))), (by first | rfl | (simp; done) | (simp [*]; done)), H', ⟨by have := HK1.out; first | omega | exact Nat.le_refl _⟩, ⟨by (with_reducible repeat (first | refine xA5 ?_ _ | refine xA8 ?_ | refine xA4 ?_ _)); refine xAk ?_ NB578_581.out _; (with_reducible repeat (first | refine xA5 ?_ _ | refine xA8 ?_ | refine xA4 ?_ _)); refine xAk ?_ NB578_581.out _; (with_reducible repeat (first | refine xA5 ?_ _ | refine xA8 ?_ | refine xA4 ?_ _)); refine xAk ?_ NB578_581.out _; (with_reducible repeat (first | refine xA5 ?_ _ | refine xA8 ?_ | refine xA4 ?_ _)); refine xAk ?_ NB578_581.out _; (with_reducible repeat (first | refine xA5 ?_ _ | refine xA8 ?_ | refine xA4 ?_ _)); refine xAk ?_ NB578_581.out _; (with_reducible repeat (first | refine xA5 ?_ _ | refine xA8 ?_ | refine xA4 ?_ _)); exact BK578.out⟩, ⟨by (with_reducible repeat (first | refine xA5 ?_ _ | refine xA8 ?_ | refine xA4 ?_ _)); refine xAh (cs := #[.string ((xA2 l0_4 x6_1).f0), .string ((xA2 l0_4 x6_1).f1), .int .i64 ((xA2 l0_4 x6_1).f2), .int .i64 ((xA2 l0_4 x6_1).f3), .slice none 0 0]) ?_ 4 _ rfl; (with_reducible repeat (first | refine xA5 ?_ _ | refine xA8 ?_ | refine xA4 ?_ _)); refine xAh (cs := #[.string ((xA2 l0_4 x6_1).f0), .string ((xA2 l0_4 x6_1).f1), .int .i64 ((xA2 l0_4 x6_1).f2), .int .i64 0, .slice none 0 0]) ?_ 3 _ rfl; (with_reducible repeat (first | refine xA5 ?_ _ | refine xA8 ?_ | refine xA4 ?_ _)); refine xAh (cs := #[.string ((xA2 l0_4 x6_1).f0), .string ((xA2 l0_4 x6_1).f1), .int .i64 0, .int .i64 0, .slice none 0 0]) ?_ 2 _ rfl; (with_reducible repeat (first | refine xA5 ?_ _ | refine xA8 ?_ | refine xA4 ?_ _)); refine xAh (cs := #[.string ((xA2 l0_4 x6_1).f0), .string (⟨#[]⟩ : ByteArray), .int .i64 0, .int .i64 0, .slice none 0 0]) ?_ 1 _ rfl; (with_reducible repeat (first | refine xA5 ?_ _ | refine xA8 ?_ | refine xA4 ?_ _)); refine xAh (cs := #[.string (⟨#[]⟩ : ByteArray), .string (⟨#[]⟩ : ByteArray), .int .i64 0, .int .i64 0, .slice none 0 0]) ?_ 0 _ rfl; (with_reducible repeat (first | refine xA5 ?_ _ | refine xA8 ?_ | refine xA4 ?_ _)); exact BK581.out⟩, ⟨by repeat (first | (with_reducible first | exact HB.out | apply xA1 | apply xA0 | apply below_drew1 | refine xA6 ?_ GE578.out | refine xA6 ?_ GE581.out) | exact HB.out)⟩⟩
         case rest =>
          clear HC12
          try clear c1
          try clear p2
          try clear c3
          try clear c5
          try clear p5
          try clear q5
          try clear hx5
          try clear c7
          try clear c7b0
          try clear c8
          try clear c8b0
          try clear c9
          try clear c9b0
          try clear c9b1
          try clear c9b2
          try clear c10
          try clear c10b0
          try clear c10b1
          try clear c10b2
          try clear c11
          try clear c11b0
          try clear c11b1
          try clear c11b2
          try clear c14
          try clear c15
          try clear c16
          try clear c17
          try clear c17b0
          try clear c17b1
          try clear hcz13_0 hcz13_1 hcz13_2 hcz13_3 hcz13_4
          try clear hcz16_0 hcz16_1 hcz16_2 hcz16_3 hcz16_4
          try clear hcz5_0 hcz5_1 hcz5_2 hcz5_3 hcz5_4
          try clear hfz13_0 hfz13_1 hfz13_2 hfz13_3 hfz13_4
          try clear hfz16_0 hfz16_1 hfz16_2 hfz16_3 hfz16_4
          try clear hfz5_0 hfz5_1 hfz5_2 hfz5_3 hfz5_4
          try clear hx580_0 hx580_1 hx580_2 hx580_3 hx580_4
          try clear p2
          try clear p580
          try clear q580
          obtain ⟨kq, x34_11, rfl, HA, HJ11, BK578, BK581, HB⟩ := hcut
          cases kq with
          | zero => exact absurd HA.out (by simp [xAc.j1])
          | succ kj11 =>
           have H := HA.out
           clear HA
           simp only [xAc.j1] at H
           by_cases c18 : x34_11 = true
           ·subst c18
            have H1 : (if (((x5_1 ++ ((xA2 l0_4 x6_1).f0)) ++ (⟨#[32]⟩ : ByteArray)) ++ ((xA2 l0_4 x6_1).f1)).size + 1 ≤ 9223372036854775807 then ((xAp.f kj11 ((xA2 l0_4 x6_1).f2)).bind fun t582 => (if ((((x5_1 ++ ((xA2 l0_4 x6_1).f0)) ++ (⟨#[32]⟩ : ByteArray)) ++ ((xA2 l0_4 x6_1).f1)) ++ (⟨#[32]⟩ : ByteArray)).size + t582.size ≤ 9223372036854775807 then (if (((((x5_1 ++ ((xA2 l0_4 x6_1).f0)) ++ (⟨#[32]⟩ : ByteArray)) ++ ((xA2 l0_4 x6_1).f1)) ++ (⟨#[32]⟩ : ByteArray)) ++ t582).size + 2 ≤ 9223372036854775807 then (xAc.l0 kj11 ((((((x5_1 ++ ((xA2 l0_4 x6_1).f0)) ++ (⟨#[32]⟩ : ByteArray)) ++ ((xA2 l0_4 x6_1).f1)) ++ (⟨#[32]⟩ : ByteArray)) ++ t582) ++ (⟨#[59, 10]⟩ : ByteArray)) (wrap64 (x6_1 + 1)) a0_0 a0_1 a0_2 a0_3 l0_4) else (none)) else (none))) else (none)) = some (r1, r2) := by rw [if_pos rfl] at H; exact H
            clear H
            have H := H1
            clear H1
            by_cases c19 : (((x5_1 ++ ((xA2 l0_4 x6_1).f0)) ++ (⟨#[32]⟩ : ByteArray)) ++ ((xA2 l0_4 x6_1).f1)).size + 1 ≤ 9223372036854775807
            ·rw [if_pos c19] at H
             have c19b0 := eq_true c19
             have c19b1 : decide ((((x5_1 ++ ((xA2 l0_4 x6_1).f0)) ++ (⟨#[32]⟩ : ByteArray)) ++ ((xA2 l0_4 x6_1).f1)).size + 1 ≤ 9223372036854775807) = true := decide_eq_true c19
             try have c19b2 : (9223372036854775807 < (((x5_1 ++ ((xA2 l0_4 x6_1).f0)) ++ (⟨#[32]⟩ : ByteArray)) ++ ((xA2 l0_4 x6_1).f1)).size + 1) = False := eq_false (Nat.not_lt.2 c19)
             have c19s := c19
             (try simp only [ByteArray.size_append, show (⟨#[32]⟩ : ByteArray).size = 1 from rfl] at c19s)
             (try have c19u := decide_eq_true c19s)
             (try have c19v := eq_false (Nat.not_lt.2 c19s))
             clear c19s
             replace H := Option.bind_eq_some_iff.mp H
             obtain ⟨t582, A200, H⟩ := H
             replace H : (if ((((x5_1 ++ ((xA2 l0_4 x6_1).f0)) ++ (⟨#[32]⟩ : ByteArray)) ++ ((xA2 l0_4 x6_1).f1)) ++ (⟨#[32]⟩ : ByteArray)).size + t582.size ≤ 9223372036854775807 then (if (((((x5_1 ++ ((xA2 l0_4 x6_1).f0)) ++ (⟨#[32]⟩ : ByteArray)) ++ ((xA2 l0_4 x6_1).f1)) ++ (⟨#[32]⟩ : ByteArray)) ++ t582).size + 2 ≤ 9223372036854775807 then (xAc.l0 kj11 ((((((x5_1 ++ ((xA2 l0_4 x6_1).f0)) ++ (⟨#[32]⟩ : ByteArray)) ++ ((xA2 l0_4 x6_1).f1)) ++ (⟨#[32]⟩ : ByteArray)) ++ t582) ++ (⟨#[59, 10]⟩ : ByteArray)) (wrap64 (x6_1 + 1)) a0_0 a0_1 a0_2 a0_3 l0_4) else (none)) else (none)) = some (r1, r2) := H
             have A20 := Aside0.mk A200
             clear A200
             by_cases c21 : ((((x5_1 ++ ((xA2 l0_4 x6_1).f0)) ++ (⟨#[32]⟩ : ByteArray)) ++ ((xA2 l0_4 x6_1).f1)) ++ (⟨#[32]⟩ : ByteArray)).size + t582.size ≤ 9223372036854775807
             ·rw [if_pos c21] at H
              have c21b0 := eq_true c21
              have c21b1 : decide (((((x5_1 ++ ((xA2 l0_4 x6_1).f0)) ++ (⟨#[32]⟩ : ByteArray)) ++ ((xA2 l0_4 x6_1).f1)) ++ (⟨#[32]⟩ : ByteArray)).size + t582.size ≤ 9223372036854775807) = true := decide_eq_true c21
              try have c21b2 : (9223372036854775807 < ((((x5_1 ++ ((xA2 l0_4 x6_1).f0)) ++ (⟨#[32]⟩ : ByteArray)) ++ ((xA2 l0_4 x6_1).f1)) ++ (⟨#[32]⟩ : ByteArray)).size + t582.size) = False := eq_false (Nat.not_lt.2 c21)
              have c21s := c21
              (try simp only [ByteArray.size_append, show (⟨#[32]⟩ : ByteArray).size = 1 from rfl] at c21s)
              (try have c21u := decide_eq_true c21s)
              (try have c21v := eq_false (Nat.not_lt.2 c21s))
              clear c21s
              by_cases c22 : (((((x5_1 ++ ((xA2 l0_4 x6_1).f0)) ++ (⟨#[32]⟩ : ByteArray)) ++ ((xA2 l0_4 x6_1).f1)) ++ (⟨#[32]⟩ : ByteArray)) ++ t582).size + 2 ≤ 9223372036854775807
              ·rw [if_pos c22] at H
               have c22b0 := eq_true c22
               have c22b1 : decide ((((((x5_1 ++ ((xA2 l0_4 x6_1).f0)) ++ (⟨#[32]⟩ : ByteArray)) ++ ((xA2 l0_4 x6_1).f1)) ++ (⟨#[32]⟩ : ByteArray)) ++ t582).size + 2 ≤ 9223372036854775807) = true := decide_eq_true c22
               try have c22b2 : (9223372036854775807 < (((((x5_1 ++ ((xA2 l0_4 x6_1).f0)) ++ (⟨#[32]⟩ : ByteArray)) ++ ((xA2 l0_4 x6_1).f1)) ++ (⟨#[32]⟩ : ByteArray)) ++ t582).size + 2) = False := eq_false (Nat.not_lt.2 c22)
               have c22s := c22
               (try simp only [ByteArray.size_append, show (⟨#[32]⟩ : ByteArray).size = 1 from rfl] at c22s)
               (try have c22u := decide_eq_true c22s)
               (try have c22v := eq_false (Nat.not_lt.2 c22s))
               clear c22s
               have H' := Aside0.mk H
               clear H
               have hnb23 := NB581_578.out
               have hnc23 := NB578_581.out
               obtain ⟨hcz24_0, hcz24_1, hcz24_2, hcz24_3, hcz24_4, hfz24_0, hfz24_1, hfz24_2, hfz24_3, hfz24_4⟩ := ex5 BK581.out
               go_wp2_with (first | ((with_reducible refine xAj (f := 24) rfl ?_); refine xB6 (some 41) rfl rfl Tryd.func24 (by kernel_rfl) rfl #[.int .i64 ((xA2 l0_4 x6_1).f2)] rfl (by (try simp only [List.map_toArray, List.map_cons, List.map_nil]); first | done | rfl | (simp only [List.length_drop, List.length_take]; rfl)) ?_; (with_reducible refine (xAp.calls kj11 ((xA2 l0_4 x6_1).f2) t582 _ A20.out).mono ?_); rintro e w' ⟨rfl, ⟨nd, rfl⟩⟩; refine ⟨_, rfl, ?_⟩))
               go_roundg kj11
               case measure => have := HK1.out; have := HJ11.out; omega
               case rel => exact ⟨((((((x5_1 ++ ((xA2 l0_4 x6_1).f0)) ++ (⟨#[32]⟩ : ByteArray)) ++ ((xA2 l0_4 x6_1).f1)) ++ (⟨#[32]⟩ : ByteArray)) ++ t582) ++ (⟨#[59, 10]⟩ : ByteArray)), (wrap64 (x6_1 + 1)), (by first | rfl | (simp; done) | (simp [*]; done)), (by first | rfl | (simp; done) | (simp [*]; done)), H', ⟨by have := HK1.out; have := HJ11.out; omega⟩, ⟨by (with_reducible repeat (first | refine xA5 ?_ _ | refine xA8 ?_ | refine xA4 ?_ _)); exact BK578.out⟩, ⟨by repeat (first | (with_reducible first | exact HB.out | apply xA1 | apply xA0 | apply below_drew1 | refine xA6 ?_ GE578.out | refine xA6 ?_ GE581.out) | exact HB.out)⟩⟩
              ·rw [if_neg c22] at H
               exact absurd H (by simp)
             ·rw [if_neg c21] at H
              exact absurd H (by simp)
            ·rw [if_neg c19] at H
             exact absurd H (by simp)
           ·replace c18 := Bool.eq_false_iff.mpr c18
            subst c18
            have H1 : (if ((xA2 l0_4 x6_1).f0).toList = ([107, 101, 121] : List UInt8) then (xAc.j2 kj11 (((x5_1 ++ ((xA2 l0_4 x6_1).f0)) ++ (⟨#[32]⟩ : ByteArray)) ++ ((xA2 l0_4 x6_1).f1)) x6_1 ((xA2 l0_4 x6_1).f0) (((xA2 l0_4 x6_1).f0).toList == ([107, 101, 121] : List UInt8)) a0_0 a0_1 a0_2 a0_3 l0_4 ((xA2 l0_4 x6_1).f0) ((xA2 l0_4 x6_1).f1) ((xA2 l0_4 x6_1).f2) ((xA2 l0_4 x6_1).f3) ((xA2 l0_4 x6_1).f4)) else (xAc.j2 kj11 (((x5_1 ++ ((xA2 l0_4 x6_1).f0)) ++ (⟨#[32]⟩ : ByteArray)) ++ ((xA2 l0_4 x6_1).f1)) x6_1 ((xA2 l0_4 x6_1).f0) (((xA2 l0_4 x6_1).f0).toList == ([114, 111, 111, 116] : List UInt8)) a0_0 a0_1 a0_2 a0_3 l0_4 ((xA2 l0_4 x6_1).f0) ((xA2 l0_4 x6_1).f1) ((xA2 l0_4 x6_1).f2) ((xA2 l0_4 x6_1).f3) ((xA2 l0_4 x6_1).f4))) = some (r1, r2) := by rw [if_neg (show ¬ (false = true) by decide)] at H; exact H
            clear H
            have H := H1
            clear H1
            have HC25 := Aside0.mk H
            clear H
            go_upto_if 43 with (fail)
            go_cut [43] (fun v43 wc => ∃ (kq : Nat) (x43_24 : Bool), v43 = .bool x43_24 ∧ Aside0 (xAc.j2 kq (((x5_1 ++ ((xA2 l0_4 x6_1).f0)) ++ (⟨#[32]⟩ : ByteArray)) ++ ((xA2 l0_4 x6_1).f1)) x6_1 ((xA2 l0_4 x6_1).f0) x43_24 a0_0 a0_1 a0_2 a0_3 l0_4 ((xA2 l0_4 x6_1).f0) ((xA2 l0_4 x6_1).f1) ((xA2 l0_4 x6_1).f2) ((xA2 l0_4 x6_1).f3) ((xA2 l0_4 x6_1).f4) = some (r1, r2)) ∧ Aside0 (kq ≤ kj11) ∧ Aside0 (wc.heap[gb578]? = some (.cells #[.string a0_0, .string a0_1, .int .i64 a0_2, .int .i64 a0_3, (.slice (some ad580) l0_4.length c0_4)] 25 (0, 0))) ∧ Aside0 (wc.heap[gb581]? = some (.cells #[.string ((xA2 l0_4 x6_1).f0), .string ((xA2 l0_4 x6_1).f1), .int .i64 ((xA2 l0_4 x6_1).f2), .int .i64 ((xA2 l0_4 x6_1).f3), (.slice A580_4 ((xA2 l0_4 x6_1).f4).length c580_4)] 25 (0, 0))) ∧ Aside0 (Below w.heap.size w wc))
            case first =>
             have H := HC25.out
             clear HC25
             by_cases c26 : ((xA2 l0_4 x6_1).f0).toList = ([107, 101, 121] : List UInt8)
             ·rw [if_pos c26] at H
              have c26b0 : (((xA2 l0_4 x6_1).f0).toList == ([107, 101, 121] : List UInt8)) = true := beq_iff_eq.mpr c26
              have c26b1 : (((xA2 l0_4 x6_1).f0).toList != ([107, 101, 121] : List UInt8)) = false := bne_eq_false_iff_eq.mpr c26
              clear c26
              (first | rw [c26b0] | (simp only [xB0, xB1]; rw [c26b0]) | skip)
              have H' := Aside0.mk H
              clear H
              go_wp2
              go_meet
              case rel => exact ⟨_, ((((xA2 l0_4 x6_1).f0).toList == ([107, 101, 121] : List UInt8))), (by first | rfl | (simp; done) | (simp [*]; done)), H', ⟨by have := HK1.out; have := HJ11.out; first | omega | exact Nat.le_refl _⟩, ⟨by (with_reducible repeat (first | refine xA5 ?_ _ | refine xA8 ?_ | refine xA4 ?_ _)); exact BK578.out⟩, ⟨by (with_reducible repeat (first | refine xA5 ?_ _ | refine xA8 ?_ | refine xA4 ?_ _)); exact BK581.out⟩, ⟨by repeat (first | (with_reducible first | exact HB.out | apply xA1 | apply xA0 | apply below_drew1 | refine xA6 ?_ GE578.out | refine xA6 ?_ GE581.out) | exact HB.out)⟩⟩
             ·rw [if_neg c26] at H
              have c26b0 : (((xA2 l0_4 x6_1).f0).toList == ([107, 101, 121] : List UInt8)) = false := beq_eq_false_iff_ne.mpr c26
              have c26b1 : (((xA2 l0_4 x6_1).f0).toList != ([107, 101, 121] : List UInt8)) = true := bne_iff_ne.mpr c26
              (first | rw [c26b0] | (simp only [xB0, xB1]; rw [c26b0]) | skip)
              have H' := Aside0.mk H
              clear H
              go_wp2
              go_meet
              case rel => exact ⟨_, ((((xA2 l0_4 x6_1).f0).toList == ([114, 111, 111, 116] : List UInt8))), (by first | rfl | (simp; done) | (simp [*]; done)), H', ⟨by have := HK1.out; have := HJ11.out; first | omega | exact Nat.le_refl _⟩, ⟨by (with_reducible repeat (first | refine xA5 ?_ _ | refine xA8 ?_ | refine xA4 ?_ _)); exact BK578.out⟩, ⟨by (with_reducible repeat (first | refine xA5 ?_ _ | refine xA8 ?_ | refine xA4 ?_ _)); exact BK581.out⟩, ⟨by repeat (first | (with_reducible first | exact HB.out | apply xA1 | apply xA0 | apply below_drew1 | refine xA6 ?_ GE578.out | refine xA6 ?_ GE581.out) | exact HB.out)⟩⟩
            case rest =>
             clear HC25
             try clear c1
             try clear c2
             try clear p2
             try clear c3
             try clear c5
             try clear p5
             try clear q5
             try clear hx5
             try clear p6
             try clear c7
             try clear c7b0
             try clear c8
             try clear c8b0
             try clear c9
             try clear c9b0
             try clear c9b1
             try clear c9b2
             try clear c10
             try clear c10b0
             try clear c10b1
             try clear c10b2
             try clear c11
             try clear c11b0
             try clear c11b1
             try clear c11b2
             try clear c14
             try clear c15
             try clear c16
             try clear c17
             try clear c17b0
             try clear c17b1
             try clear c18
             try clear c19
             try clear c19b0
             try clear c19b1
             try clear c19b2
             try clear c21
             try clear c21b0
             try clear c21b1
             try clear c21b2
             try clear c22
             try clear c22b0
             try clear c22b1
             try clear c22b2
             try clear c23
             try clear c24
             try clear c26
             try clear c26b0
             try clear c26b1
             try clear hcz13_0 hcz13_1 hcz13_2 hcz13_3 hcz13_4
             try clear hcz16_0 hcz16_1 hcz16_2 hcz16_3 hcz16_4
             try clear hcz24_0 hcz24_1 hcz24_2 hcz24_3 hcz24_4
             try clear hcz5_0 hcz5_1 hcz5_2 hcz5_3 hcz5_4
             try clear hfz13_0 hfz13_1 hfz13_2 hfz13_3 hfz13_4
             try clear hfz16_0 hfz16_1 hfz16_2 hfz16_3 hfz16_4
             try clear hfz24_0 hfz24_1 hfz24_2 hfz24_3 hfz24_4
             try clear hfz5_0 hfz5_1 hfz5_2 hfz5_3 hfz5_4
             try clear hx580_0 hx580_1 hx580_2 hx580_3 hx580_4
             try clear p2
             try clear p5
             try clear p580
             try clear q5
             try clear q580
             obtain ⟨kq, x43_24, rfl, HA, HJ24, BK578, BK581, HB⟩ := hcut
             cases kq with
             | zero => exact absurd HA.out (by simp [xAc.j2])
             | succ kj24 =>
              have H := HA.out
              clear HA
              simp only [xAc.j2] at H
              by_cases c27 : x43_24 = true
              ·subst c27
               have H1 : (if (((x5_1 ++ ((xA2 l0_4 x6_1).f0)) ++ (⟨#[32]⟩ : ByteArray)) ++ ((xA2 l0_4 x6_1).f1)).size + 1 ≤ 9223372036854775807 then (if 0 < (((xA2 l0_4 x6_1).f4).length : Int) then ((xAg.f kj24 ((xA2 ((xA2 l0_4 x6_1).f4) 0).f0) ((xA2 ((xA2 l0_4 x6_1).f4) 0).f1) ((xA2 ((xA2 l0_4 x6_1).f4) 0).f2) ((xA2 ((xA2 l0_4 x6_1).f4) 0).f3) ((xA2 ((xA2 l0_4 x6_1).f4) 0).f4)).bind fun t584 => (if ((((x5_1 ++ ((xA2 l0_4 x6_1).f0)) ++ (⟨#[32]⟩ : ByteArray)) ++ ((xA2 l0_4 x6_1).f1)) ++ (⟨#[32]⟩ : ByteArray)).size + t584.size ≤ 9223372036854775807 then (if (((((x5_1 ++ ((xA2 l0_4 x6_1).f0)) ++ (⟨#[32]⟩ : ByteArray)) ++ ((xA2 l0_4 x6_1).f1)) ++ (⟨#[32]⟩ : ByteArray)) ++ t584).size + 2 ≤ 9223372036854775807 then (xAc.l0 kj24 ((((((x5_1 ++ ((xA2 l0_4 x6_1).f0)) ++ (⟨#[32]⟩ : ByteArray)) ++ ((xA2 l0_4 x6_1).f1)) ++ (⟨#[32]⟩ : ByteArray)) ++ t584) ++ (⟨#[59, 10]⟩ : ByteArray)) (wrap64 (x6_1 + 1)) a0_0 a0_1 a0_2 a0_3 l0_4) else (none)) else (none))) else (none)) else (none)) = some (r1, r2) := by rw [if_pos rfl] at H; exact H
               clear H
               have H := H1
               clear H1
               by_cases c28 : (((x5_1 ++ ((xA2 l0_4 x6_1).f0)) ++ (⟨#[32]⟩ : ByteArray)) ++ ((xA2 l0_4 x6_1).f1)).size + 1 ≤ 9223372036854775807
               ·rw [if_pos c28] at H
                have c28b0 := eq_true c28
                have c28b1 : decide ((((x5_1 ++ ((xA2 l0_4 x6_1).f0)) ++ (⟨#[32]⟩ : ByteArray)) ++ ((xA2 l0_4 x6_1).f1)).size + 1 ≤ 9223372036854775807) = true := decide_eq_true c28
                try have c28b2 : (9223372036854775807 < (((x5_1 ++ ((xA2 l0_4 x6_1).f0)) ++ (⟨#[32]⟩ : ByteArray)) ++ ((xA2 l0_4 x6_1).f1)).size + 1) = False := eq_false (Nat.not_lt.2 c28)
                have c28s := c28
                (try simp only [ByteArray.size_append, show (⟨#[32]⟩ : ByteArray).size = 1 from rfl] at c28s)
                (try have c28u := decide_eq_true c28s)
                (try have c28v := eq_false (Nat.not_lt.2 c28s))
                clear c28s
                by_cases c29 : 0 < (((xA2 l0_4 x6_1).f4).length : Int)
                ·rw [if_pos c29] at H
                 have c29b0 : decide (0 < (((xA2 l0_4 x6_1).f4).length : Int)) = true := decide_eq_true c29
                 have c29b1 : decide (0 < ((xA2 l0_4 x6_1).f4).length) = true := decide_eq_true (by omega)
                 clear c29
                 replace H := Option.bind_eq_some_iff.mp H
                 obtain ⟨t584, A300, H⟩ := H
                 replace H : (if ((((x5_1 ++ ((xA2 l0_4 x6_1).f0)) ++ (⟨#[32]⟩ : ByteArray)) ++ ((xA2 l0_4 x6_1).f1)) ++ (⟨#[32]⟩ : ByteArray)).size + t584.size ≤ 9223372036854775807 then (if (((((x5_1 ++ ((xA2 l0_4 x6_1).f0)) ++ (⟨#[32]⟩ : ByteArray)) ++ ((xA2 l0_4 x6_1).f1)) ++ (⟨#[32]⟩ : ByteArray)) ++ t584).size + 2 ≤ 9223372036854775807 then (xAc.l0 kj24 ((((((x5_1 ++ ((xA2 l0_4 x6_1).f0)) ++ (⟨#[32]⟩ : ByteArray)) ++ ((xA2 l0_4 x6_1).f1)) ++ (⟨#[32]⟩ : ByteArray)) ++ t584) ++ (⟨#[59, 10]⟩ : ByteArray)) (wrap64 (x6_1 + 1)) a0_0 a0_1 a0_2 a0_3 l0_4) else (none)) else (none)) = some (r1, r2) := H
                 have A30 := Aside0.mk A300
                 clear A300
                 by_cases c31 : ((((x5_1 ++ ((xA2 l0_4 x6_1).f0)) ++ (⟨#[32]⟩ : ByteArray)) ++ ((xA2 l0_4 x6_1).f1)) ++ (⟨#[32]⟩ : ByteArray)).size + t584.size ≤ 9223372036854775807
                 ·rw [if_pos c31] at H
                  have c31b0 := eq_true c31
                  have c31b1 : decide (((((x5_1 ++ ((xA2 l0_4 x6_1).f0)) ++ (⟨#[32]⟩ : ByteArray)) ++ ((xA2 l0_4 x6_1).f1)) ++ (⟨#[32]⟩ : ByteArray)).size + t584.size ≤ 9223372036854775807) = true := decide_eq_true c31
                  try have c31b2 : (9223372036854775807 < ((((x5_1 ++ ((xA2 l0_4 x6_1).f0)) ++ (⟨#[32]⟩ : ByteArray)) ++ ((xA2 l0_4 x6_1).f1)) ++ (⟨#[32]⟩ : ByteArray)).size + t584.size) = False := eq_false (Nat.not_lt.2 c31)
                  have c31s := c31
                  (try simp only [ByteArray.size_append, show (⟨#[32]⟩ : ByteArray).size = 1 from rfl] at c31s)
                  (try have c31u := decide_eq_true c31s)
                  (try have c31v := eq_false (Nat.not_lt.2 c31s))
                  clear c31s
                  by_cases c32 : (((((x5_1 ++ ((xA2 l0_4 x6_1).f0)) ++ (⟨#[32]⟩ : ByteArray)) ++ ((xA2 l0_4 x6_1).f1)) ++ (⟨#[32]⟩ : ByteArray)) ++ t584).size + 2 ≤ 9223372036854775807
                  ·rw [if_pos c32] at H
                   have c32b0 := eq_true c32
                   have c32b1 : decide ((((((x5_1 ++ ((xA2 l0_4 x6_1).f0)) ++ (⟨#[32]⟩ : ByteArray)) ++ ((xA2 l0_4 x6_1).f1)) ++ (⟨#[32]⟩ : ByteArray)) ++ t584).size + 2 ≤ 9223372036854775807) = true := decide_eq_true c32
                   try have c32b2 : (9223372036854775807 < (((((x5_1 ++ ((xA2 l0_4 x6_1).f0)) ++ (⟨#[32]⟩ : ByteArray)) ++ ((xA2 l0_4 x6_1).f1)) ++ (⟨#[32]⟩ : ByteArray)) ++ t584).size + 2) = False := eq_false (Nat.not_lt.2 c32)
                   have c32s := c32
                   (try simp only [ByteArray.size_append, show (⟨#[32]⟩ : ByteArray).size = 1 from rfl] at c32s)
                   (try have c32u := decide_eq_true c32s)
                   (try have c32v := eq_false (Nat.not_lt.2 c32s))
                   clear c32s
                   have H' := Aside0.mk H
                   clear H
                   have hnb33 := NB581_578.out
                   have hnc33 := NB578_581.out
                   obtain ⟨hcz34_0, hcz34_1, hcz34_2, hcz34_3, hcz34_4, hfz34_0, hfz34_1, hfz34_2, hfz34_3, hfz34_4⟩ := ex5 BK581.out
                   have p583 : 0 ≤ (0 : Int) := (by omega)
                   have q583 : 0 < (((xA2 l0_4 x6_1).f4).length : Int) := of_decide_eq_true (by first | (with_reducible assumption) | assumption)
                   obtain ⟨ad583, A583_4, c583_4, e583, hx583_0, hx583_1, hx583_2, hx583_3, hx583_4, hl583_4, hi583_4⟩ := xC3 HR580_4.out 0 p583 q583
                   cases e583
                   have qi583 : (0 < ((xA2 l0_4 x6_1).f4).length) = True := eq_true (by omega)
                   (try rw [show ((0 : Int)).toNat = 0 from rfl] at hx583_0)
                   (try rw [show 0 * 5 = 0 from rfl] at hx583_0)
                   (try rw [Addr.add_zero'] at hx583_0)
                   (try rw [show ((0 : Int)).toNat = 0 from rfl] at hx583_1)
                   (try rw [show 0 * 5 = 0 from rfl] at hx583_1)
                   (try rw [Addr.add_zero'] at hx583_1)
                   (try rw [show ((0 : Int)).toNat = 0 from rfl] at hx583_2)
                   (try rw [show 0 * 5 = 0 from rfl] at hx583_2)
                   (try rw [Addr.add_zero'] at hx583_2)
                   (try rw [show ((0 : Int)).toNat = 0 from rfl] at hx583_3)
                   (try rw [show 0 * 5 = 0 from rfl] at hx583_3)
                   (try rw [Addr.add_zero'] at hx583_3)
                   (try rw [show ((0 : Int)).toNat = 0 from rfl] at hx583_4)
                   (try rw [show 0 * 5 = 0 from rfl] at hx583_4)
                   (try rw [Addr.add_zero'] at hx583_4)
                   replace hx583_0 := (HB.out.cell (World.block_lt_of_cell? w _ hx583_0)).trans hx583_0
                   replace hx583_1 := (HB.out.cell (World.block_lt_of_cell? w _ hx583_1)).trans hx583_1
                   replace hx583_2 := (HB.out.cell (World.block_lt_of_cell? w _ hx583_2)).trans hx583_2
                   replace hx583_3 := (HB.out.cell (World.block_lt_of_cell? w _ hx583_3)).trans hx583_3
                   replace hx583_4 := (HB.out.cell (World.block_lt_of_cell? w _ hx583_4)).trans hx583_4
                   have HR583_4 := Aside0.mk hi583_4
                   have HC583_4 := Aside0.mk hl583_4
                   clear hi583_4 hl583_4
                   replace p583 := eq_true p583
                   replace q583 := eq_true q583
                   go_wp2_with (first | ((with_reducible refine xAj (f := 25) rfl ?_); refine xB6 (some 52) rfl rfl Tryd.func25 (by kernel_rfl) rfl #[.agg #[.string ((xA2 ((xA2 l0_4 x6_1).f4) 0).f0), .string ((xA2 ((xA2 l0_4 x6_1).f4) 0).f1), .int .i64 ((xA2 ((xA2 l0_4 x6_1).f4) 0).f2), .int .i64 ((xA2 ((xA2 l0_4 x6_1).f4) 0).f3), .slice A583_4 ((xA2 ((xA2 l0_4 x6_1).f4) 0).f4).length c583_4]] rfl (by (try simp only [List.map_toArray, List.map_cons, List.map_nil]); first | done | rfl | (simp only [List.length_drop, List.length_take]; rfl)) ?_; (with_reducible refine (xAg.calls kj24 ((xA2 ((xA2 l0_4 x6_1).f4) 0).f0) ((xA2 ((xA2 l0_4 x6_1).f4) 0).f1) ((xA2 ((xA2 l0_4 x6_1).f4) 0).f2) ((xA2 ((xA2 l0_4 x6_1).f4) 0).f3) _ _ ((xA2 ((xA2 l0_4 x6_1).f4) 0).f4) t584 _ ?side1 ?side2 A30.out).mono ?_); (case side1 => repeat (first | exact (Kd.C_below HR583_4.out HB.out) | (with_reducible refine Kd.C_alloc ?_ _) | (with_reducible refine Kd.C_drewN ?_ _) | (with_reducible refine Kd.C_drew ?_))); (case side2 => exact HC583_4.out); rintro e w35 ⟨rfl, hb⟩; refine ⟨_, rfl, ?_⟩; have n0_ := Aside0.mk (xAt (g := gb578) (o := .cells #[.string a0_0, .string a0_1, .int .i64 a0_2, .int .i64 a0_3, .slice (some ad580) l0_4.length c0_4] 25 (0, 0)) (by (with_reducible repeat (first | refine xA5 ?_ _ | refine xA8 ?_ | refine xA4 ?_ _)); exact BK578.out) hb); have n1_ := Aside0.mk (xAt (g := gb581) (o := .cells #[.string ((xA2 l0_4 x6_1).f0), .string ((xA2 l0_4 x6_1).f1), .int .i64 ((xA2 l0_4 x6_1).f2), .int .i64 ((xA2 l0_4 x6_1).f3), .slice (some ad583) ((xA2 l0_4 x6_1).f4).length c580_4] 25 (0, 0)) (by (with_reducible repeat (first | refine xA5 ?_ _ | refine xA8 ?_ | refine xA4 ?_ _)); exact BK581.out) hb); have n2_ := Aside0.mk (xAi (by repeat (first | (with_reducible first | exact HB.out | apply xA1 | apply xA0 | apply below_drew1 | refine xA6 ?_ GE578.out | refine xA6 ?_ GE581.out) | exact HB.out)) hb); clear BK578; clear BK581; clear HB; have BK578 := n0_; have BK581 := n1_; have HB := n2_; clear n0_ n1_ n2_; (try clear hb); (try clear hb2); (try clear hk); (try clear hi)))
                   go_roundg kj24
                   case measure => have := HK1.out; have := HJ11.out; have := HJ24.out; omega
                   case rel => exact ⟨((((((x5_1 ++ ((xA2 l0_4 x6_1).f0)) ++ (⟨#[32]⟩ : ByteArray)) ++ ((xA2 l0_4 x6_1).f1)) ++ (⟨#[32]⟩ : ByteArray)) ++ t584) ++ (⟨#[59, 10]⟩ : ByteArray)), (wrap64 (x6_1 + 1)), (by first | rfl | (simp; done) | (simp [*]; done)), (by first | rfl | (simp; done) | (simp [*]; done)), H', ⟨by have := HK1.out; have := HJ11.out; have := HJ24.out; omega⟩, ⟨by (with_reducible repeat (first | refine xA5 ?_ _ | refine xA8 ?_ | refine xA4 ?_ _)); exact BK578.out⟩, ⟨by repeat (first | (with_reducible first | exact HB.out | apply xA1 | apply xA0 | apply below_drew1 | refine xA6 ?_ GE578.out | refine xA6 ?_ GE581.out) | exact HB.out)⟩⟩
                  ·rw [if_neg c32] at H
                   exact absurd H (by simp)
                 ·rw [if_neg c31] at H
                  exact absurd H (by simp)
                ·rw [if_neg c29] at H
                 exact absurd H (by simp)
               ·rw [if_neg c28] at H
                exact absurd H (by simp)
              ·replace c27 := Bool.eq_false_iff.mpr c27
               subst c27
               have H1 : (if ((xA2 l0_4 x6_1).f0).toList = ([118, 111, 108, 117, 109, 101] : List UInt8) then (if (((x5_1 ++ ((xA2 l0_4 x6_1).f0)) ++ (⟨#[32]⟩ : ByteArray)) ++ ((xA2 l0_4 x6_1).f1)).size + 3 ≤ 9223372036854775807 then (if 0 < (((xA2 l0_4 x6_1).f4).length : Int) then ((xAg.f kj24 ((xA2 ((xA2 l0_4 x6_1).f4) 0).f0) ((xA2 ((xA2 l0_4 x6_1).f4) 0).f1) ((xA2 ((xA2 l0_4 x6_1).f4) 0).f2) ((xA2 ((xA2 l0_4 x6_1).f4) 0).f3) ((xA2 ((xA2 l0_4 x6_1).f4) 0).f4)).bind fun t586 => (if ((((x5_1 ++ ((xA2 l0_4 x6_1).f0)) ++ (⟨#[32]⟩ : ByteArray)) ++ ((xA2 l0_4 x6_1).f1)) ++ (⟨#[32, 61, 32]⟩ : ByteArray)).size + t586.size ≤ 9223372036854775807 then (if (((((x5_1 ++ ((xA2 l0_4 x6_1).f0)) ++ (⟨#[32]⟩ : ByteArray)) ++ ((xA2 l0_4 x6_1).f1)) ++ (⟨#[32, 61, 32]⟩ : ByteArray)) ++ t586).size + 2 ≤ 9223372036854775807 then (xAc.l0 kj24 ((((((x5_1 ++ ((xA2 l0_4 x6_1).f0)) ++ (⟨#[32]⟩ : ByteArray)) ++ ((xA2 l0_4 x6_1).f1)) ++ (⟨#[32, 61, 32]⟩ : ByteArray)) ++ t586) ++ (⟨#[59, 10]⟩ : ByteArray)) (wrap64 (x6_1 + 1)) a0_0 a0_1 a0_2 a0_3 l0_4) else (none)) else (none))) else (none)) else (none)) else (if ((xA2 l0_4 x6_1).f0).toList = ([101, 120, 112, 111, 114, 116] : List UInt8) then (if ((xA2 l0_4 x6_1).f2) = 1 then (if (((x5_1 ++ ((xA2 l0_4 x6_1).f0)) ++ (⟨#[32]⟩ : ByteArray)) ++ ((xA2 l0_4 x6_1).f1)).size + 9 ≤ 9223372036854775807 then (if ((((x5_1 ++ ((xA2 l0_4 x6_1).f0)) ++ (⟨#[32]⟩ : ByteArray)) ++ ((xA2 l0_4 x6_1).f1)) ++ (⟨#[32, 114, 101, 97, 100, 111, 110, 108, 121]⟩ : ByteArray)).size + 2 ≤ 9223372036854775807 then (xAc.l0 kj24 (((((x5_1 ++ ((xA2 l0_4 x6_1).f0)) ++ (⟨#[32]⟩ : ByteArray)) ++ ((xA2 l0_4 x6_1).f1)) ++ (⟨#[32, 114, 101, 97, 100, 111, 110, 108, 121]⟩ : ByteArray)) ++ (⟨#[59, 10]⟩ : ByteArray)) (wrap64 (x6_1 + 1)) a0_0 a0_1 a0_2 a0_3 l0_4) else (none)) else (none)) else (if (((x5_1 ++ ((xA2 l0_4 x6_1).f0)) ++ (⟨#[32]⟩ : ByteArray)) ++ ((xA2 l0_4 x6_1).f1)).size + 2 ≤ 9223372036854775807 then (xAc.l0 kj24 ((((x5_1 ++ ((xA2 l0_4 x6_1).f0)) ++ (⟨#[32]⟩ : ByteArray)) ++ ((xA2 l0_4 x6_1).f1)) ++ (⟨#[59, 10]⟩ : ByteArray)) (wrap64 (x6_1 + 1)) a0_0 a0_1 a0_2 a0_3 l0_4) else (none))) else (if (((x5_1 ++ ((xA2 l0_4 x6_1).f0)) ++ (⟨#[32]⟩ : ByteArray)) ++ ((xA2 l0_4 x6_1).f1)).size + 2 ≤ 9223372036854775807 then (xAc.l0 kj24 ((((x5_1 ++ ((xA2 l0_4 x6_1).f0)) ++ (⟨#[32]⟩ : ByteArray)) ++ ((xA2 l0_4 x6_1).f1)) ++ (⟨#[59, 10]⟩ : ByteArray)) (wrap64 (x6_1 + 1)) a0_0 a0_1 a0_2 a0_3 l0_4) else (none)))) = some (r1, r2) := by rw [if_neg (show ¬ (false = true) by decide)] at H; exact H
               clear H
               have H := H1
               clear H1
               by_cases c36 : ((xA2 l0_4 x6_1).f0).toList = ([118, 111, 108, 117, 109, 101] : List UInt8)
               ·rw [if_pos c36] at H
                have c36b0 : (((xA2 l0_4 x6_1).f0).toList == ([118, 111, 108, 117, 109, 101] : List UInt8)) = true := beq_iff_eq.mpr c36
                have c36b1 : (((xA2 l0_4 x6_1).f0).toList != ([118, 111, 108, 117, 109, 101] : List UInt8)) = false := bne_eq_false_iff_eq.mpr c36
                clear c36
                by_cases c37 : (((x5_1 ++ ((xA2 l0_4 x6_1).f0)) ++ (⟨#[32]⟩ : ByteArray)) ++ ((xA2 l0_4 x6_1).f1)).size + 3 ≤ 9223372036854775807
                ·rw [if_pos c37] at H
                 have c37b0 := eq_true c37
                 have c37b1 : decide ((((x5_1 ++ ((xA2 l0_4 x6_1).f0)) ++ (⟨#[32]⟩ : ByteArray)) ++ ((xA2 l0_4 x6_1).f1)).size + 3 ≤ 9223372036854775807) = true := decide_eq_true c37
                 try have c37b2 : (9223372036854775807 < (((x5_1 ++ ((xA2 l0_4 x6_1).f0)) ++ (⟨#[32]⟩ : ByteArray)) ++ ((xA2 l0_4 x6_1).f1)).size + 3) = False := eq_false (Nat.not_lt.2 c37)
                 have c37s := c37
                 (try simp only [ByteArray.size_append, show (⟨#[32]⟩ : ByteArray).size = 1 from rfl] at c37s)
                 (try have c37u := decide_eq_true c37s)
                 (try have c37v := eq_false (Nat.not_lt.2 c37s))
                 clear c37s
                 by_cases c38 : 0 < (((xA2 l0_4 x6_1).f4).length : Int)
                 ·rw [if_pos c38] at H
                  have c38b0 : decide (0 < (((xA2 l0_4 x6_1).f4).length : Int)) = true := decide_eq_true c38
                  have c38b1 : decide (0 < ((xA2 l0_4 x6_1).f4).length) = true := decide_eq_true (by omega)
                  clear c38
                  replace H := Option.bind_eq_some_iff.mp H
                  obtain ⟨t586, A390, H⟩ := H
                  replace H : (if ((((x5_1 ++ ((xA2 l0_4 x6_1).f0)) ++ (⟨#[32]⟩ : ByteArray)) ++ ((xA2 l0_4 x6_1).f1)) ++ (⟨#[32, 61, 32]⟩ : ByteArray)).size + t586.size ≤ 9223372036854775807 then (if (((((x5_1 ++ ((xA2 l0_4 x6_1).f0)) ++ (⟨#[32]⟩ : ByteArray)) ++ ((xA2 l0_4 x6_1).f1)) ++ (⟨#[32, 61, 32]⟩ : ByteArray)) ++ t586).size + 2 ≤ 9223372036854775807 then (xAc.l0 kj24 ((((((x5_1 ++ ((xA2 l0_4 x6_1).f0)) ++ (⟨#[32]⟩ : ByteArray)) ++ ((xA2 l0_4 x6_1).f1)) ++ (⟨#[32, 61, 32]⟩ : ByteArray)) ++ t586) ++ (⟨#[59, 10]⟩ : ByteArray)) (wrap64 (x6_1 + 1)) a0_0 a0_1 a0_2 a0_3 l0_4) else (none)) else (none)) = some (r1, r2) := H
                  have A39 := Aside0.mk A390
                  clear A390
                  by_cases c40 : ((((x5_1 ++ ((xA2 l0_4 x6_1).f0)) ++ (⟨#[32]⟩ : ByteArray)) ++ ((xA2 l0_4 x6_1).f1)) ++ (⟨#[32, 61, 32]⟩ : ByteArray)).size + t586.size ≤ 9223372036854775807
                  ·rw [if_pos c40] at H
                   have c40b0 := eq_true c40
                   have c40b1 : decide (((((x5_1 ++ ((xA2 l0_4 x6_1).f0)) ++ (⟨#[32]⟩ : ByteArray)) ++ ((xA2 l0_4 x6_1).f1)) ++ (⟨#[32, 61, 32]⟩ : ByteArray)).size + t586.size ≤ 9223372036854775807) = true := decide_eq_true c40
                   try have c40b2 : (9223372036854775807 < ((((x5_1 ++ ((xA2 l0_4 x6_1).f0)) ++ (⟨#[32]⟩ : ByteArray)) ++ ((xA2 l0_4 x6_1).f1)) ++ (⟨#[32, 61, 32]⟩ : ByteArray)).size + t586.size) = False := eq_false (Nat.not_lt.2 c40)
                   have c40s := c40
                   (try simp only [ByteArray.size_append, show (⟨#[32, 61, 32]⟩ : ByteArray).size = 3 from rfl, show (⟨#[32]⟩ : ByteArray).size = 1 from rfl] at c40s)
                   (try have c40u := decide_eq_true c40s)
                   (try have c40v := eq_false (Nat.not_lt.2 c40s))
                   clear c40s
                   by_cases c41 : (((((x5_1 ++ ((xA2 l0_4 x6_1).f0)) ++ (⟨#[32]⟩ : ByteArray)) ++ ((xA2 l0_4 x6_1).f1)) ++ (⟨#[32, 61, 32]⟩ : ByteArray)) ++ t586).size + 2 ≤ 9223372036854775807
                   ·rw [if_pos c41] at H
                    have c41b0 := eq_true c41
                    have c41b1 : decide ((((((x5_1 ++ ((xA2 l0_4 x6_1).f0)) ++ (⟨#[32]⟩ : ByteArray)) ++ ((xA2 l0_4 x6_1).f1)) ++ (⟨#[32, 61, 32]⟩ : ByteArray)) ++ t586).size + 2 ≤ 9223372036854775807) = true := decide_eq_true c41
                    try have c41b2 : (9223372036854775807 < (((((x5_1 ++ ((xA2 l0_4 x6_1).f0)) ++ (⟨#[32]⟩ : ByteArray)) ++ ((xA2 l0_4 x6_1).f1)) ++ (⟨#[32, 61, 32]⟩ : ByteArray)) ++ t586).size + 2) = False := eq_false (Nat.not_lt.2 c41)
                    have c41s := c41
                    (try simp only [ByteArray.size_append, show (⟨#[32, 61, 32]⟩ : ByteArray).size = 3 from rfl, show (⟨#[32]⟩ : ByteArray).size = 1 from rfl] at c41s)
                    (try have c41u := decide_eq_true c41s)
                    (try have c41v := eq_false (Nat.not_lt.2 c41s))
                    clear c41s
                    have H' := Aside0.mk H
                    clear H
                    have hnb42 := NB581_578.out
                    have hnc42 := NB578_581.out
                    obtain ⟨hcz43_0, hcz43_1, hcz43_2, hcz43_3, hcz43_4, hfz43_0, hfz43_1, hfz43_2, hfz43_3, hfz43_4⟩ := ex5 BK581.out
                    have p585 : 0 ≤ (0 : Int) := (by omega)
                    have q585 : 0 < (((xA2 l0_4 x6_1).f4).length : Int) := of_decide_eq_true (by first | (with_reducible assumption) | assumption)
                    obtain ⟨ad585, A585_4, c585_4, e585, hx585_0, hx585_1, hx585_2, hx585_3, hx585_4, hl585_4, hi585_4⟩ := xC3 HR580_4.out 0 p585 q585
                    cases e585
                    have qi585 : (0 < ((xA2 l0_4 x6_1).f4).length) = True := eq_true (by omega)
                    (try rw [show ((0 : Int)).toNat = 0 from rfl] at hx585_0)
                    (try rw [show 0 * 5 = 0 from rfl] at hx585_0)
                    (try rw [Addr.add_zero'] at hx585_0)
                    (try rw [show ((0 : Int)).toNat = 0 from rfl] at hx585_1)
                    (try rw [show 0 * 5 = 0 from rfl] at hx585_1)
                    (try rw [Addr.add_zero'] at hx585_1)
                    (try rw [show ((0 : Int)).toNat = 0 from rfl] at hx585_2)
                    (try rw [show 0 * 5 = 0 from rfl] at hx585_2)
                    (try rw [Addr.add_zero'] at hx585_2)
                    (try rw [show ((0 : Int)).toNat = 0 from rfl] at hx585_3)
                    (try rw [show 0 * 5 = 0 from rfl] at hx585_3)
                    (try rw [Addr.add_zero'] at hx585_3)
                    (try rw [show ((0 : Int)).toNat = 0 from rfl] at hx585_4)
                    (try rw [show 0 * 5 = 0 from rfl] at hx585_4)
                    (try rw [Addr.add_zero'] at hx585_4)
                    replace hx585_0 := (HB.out.cell (World.block_lt_of_cell? w _ hx585_0)).trans hx585_0
                    replace hx585_1 := (HB.out.cell (World.block_lt_of_cell? w _ hx585_1)).trans hx585_1
                    replace hx585_2 := (HB.out.cell (World.block_lt_of_cell? w _ hx585_2)).trans hx585_2
                    replace hx585_3 := (HB.out.cell (World.block_lt_of_cell? w _ hx585_3)).trans hx585_3
                    replace hx585_4 := (HB.out.cell (World.block_lt_of_cell? w _ hx585_4)).trans hx585_4
                    have HR585_4 := Aside0.mk hi585_4
                    have HC585_4 := Aside0.mk hl585_4
                    clear hi585_4 hl585_4
                    replace p585 := eq_true p585
                    replace q585 := eq_true q585
                    go_wp2_with (first | ((with_reducible refine xAj (f := 25) rfl ?_); refine xB6 (some 62) rfl rfl Tryd.func25 (by kernel_rfl) rfl #[.agg #[.string ((xA2 ((xA2 l0_4 x6_1).f4) 0).f0), .string ((xA2 ((xA2 l0_4 x6_1).f4) 0).f1), .int .i64 ((xA2 ((xA2 l0_4 x6_1).f4) 0).f2), .int .i64 ((xA2 ((xA2 l0_4 x6_1).f4) 0).f3), .slice A585_4 ((xA2 ((xA2 l0_4 x6_1).f4) 0).f4).length c585_4]] rfl (by (try simp only [List.map_toArray, List.map_cons, List.map_nil]); first | done | rfl | (simp only [List.length_drop, List.length_take]; rfl)) ?_; (with_reducible refine (xAg.calls kj24 ((xA2 ((xA2 l0_4 x6_1).f4) 0).f0) ((xA2 ((xA2 l0_4 x6_1).f4) 0).f1) ((xA2 ((xA2 l0_4 x6_1).f4) 0).f2) ((xA2 ((xA2 l0_4 x6_1).f4) 0).f3) _ _ ((xA2 ((xA2 l0_4 x6_1).f4) 0).f4) t586 _ ?side1 ?side2 A39.out).mono ?_); (case side1 => repeat (first | exact (Kd.C_below HR585_4.out HB.out) | (with_reducible refine Kd.C_alloc ?_ _) | (with_reducible refine Kd.C_drewN ?_ _) | (with_reducible refine Kd.C_drew ?_))); (case side2 => exact HC585_4.out); rintro e w44 ⟨rfl, hb⟩; refine ⟨_, rfl, ?_⟩; have n0_ := Aside0.mk (xAt (g := gb578) (o := .cells #[.string a0_0, .string a0_1, .int .i64 a0_2, .int .i64 a0_3, .slice (some ad580) l0_4.length c0_4] 25 (0, 0)) (by (with_reducible repeat (first | refine xA5 ?_ _ | refine xA8 ?_ | refine xA4 ?_ _)); exact BK578.out) hb); have n1_ := Aside0.mk (xAt (g := gb581) (o := .cells #[.string ((xA2 l0_4 x6_1).f0), .string ((xA2 l0_4 x6_1).f1), .int .i64 ((xA2 l0_4 x6_1).f2), .int .i64 ((xA2 l0_4 x6_1).f3), .slice (some ad585) ((xA2 l0_4 x6_1).f4).length c580_4] 25 (0, 0)) (by (with_reducible repeat (first | refine xA5 ?_ _ | refine xA8 ?_ | refine xA4 ?_ _)); exact BK581.out) hb); have n2_ := Aside0.mk (xAi (by repeat (first | (with_reducible first | exact HB.out | apply xA1 | apply xA0 | apply below_drew1 | refine xA6 ?_ GE578.out | refine xA6 ?_ GE581.out) | exact HB.out)) hb); clear BK578; clear BK581; clear HB; have BK578 := n0_; have BK581 := n1_; have HB := n2_; clear n0_ n1_ n2_; (try clear hb); (try clear hb2); (try clear hk); (try clear hi)))
                    go_roundg kj24
                    case measure => have := HK1.out; have := HJ11.out; have := HJ24.out; omega
                    case rel => exact ⟨((((((x5_1 ++ ((xA2 l0_4 x6_1).f0)) ++ (⟨#[32]⟩ : ByteArray)) ++ ((xA2 l0_4 x6_1).f1)) ++ (⟨#[32, 61, 32]⟩ : ByteArray)) ++ t586) ++ (⟨#[59, 10]⟩ : ByteArray)), (wrap64 (x6_1 + 1)), (by first | rfl | (simp; done) | (simp [*]; done)), (by first | rfl | (simp; done) | (simp [*]; done)), H', ⟨by have := HK1.out; have := HJ11.out; have := HJ24.out; omega⟩, ⟨by (with_reducible repeat (first | refine xA5 ?_ _ | refine xA8 ?_ | refine xA4 ?_ _)); exact BK578.out⟩, ⟨by repeat (first | (with_reducible first | exact HB.out | apply xA1 | apply xA0 | apply below_drew1 | refine xA6 ?_ GE578.out | refine xA6 ?_ GE581.out) | exact HB.out)⟩⟩
                   ·rw [if_neg c41] at H
                    exact absurd H (by simp)
                  ·rw [if_neg c40] at H
                   exact absurd H (by simp)
                 ·rw [if_neg c38] at H
                  exact absurd H (by simp)
                ·rw [if_neg c37] at H
                 exact absurd H (by simp)
               ·rw [if_neg c36] at H
                have c36b0 : (((xA2 l0_4 x6_1).f0).toList == ([118, 111, 108, 117, 109, 101] : List UInt8)) = false := beq_eq_false_iff_ne.mpr c36
                have c36b1 : (((xA2 l0_4 x6_1).f0).toList != ([118, 111, 108, 117, 109, 101] : List UInt8)) = true := bne_iff_ne.mpr c36
                by_cases c45 : ((xA2 l0_4 x6_1).f0).toList = ([101, 120, 112, 111, 114, 116] : List UInt8)
                ·rw [if_pos c45] at H
                 have c45b0 : (((xA2 l0_4 x6_1).f0).toList == ([101, 120, 112, 111, 114, 116] : List UInt8)) = true := beq_iff_eq.mpr c45
                 have c45b1 : (((xA2 l0_4 x6_1).f0).toList != ([101, 120, 112, 111, 114, 116] : List UInt8)) = false := bne_eq_false_iff_eq.mpr c45
                 clear c45
                 by_cases c46 : ((xA2 l0_4 x6_1).f2) = 1
                 ·rw [if_pos c46] at H
                  have c46b0 : (((xA2 l0_4 x6_1).f2) == 1) = true := beq_iff_eq.mpr c46
                  have c46b1 : (((xA2 l0_4 x6_1).f2) != 1) = false := bne_eq_false_iff_eq.mpr c46
                  clear c46
                  by_cases c47 : (((x5_1 ++ ((xA2 l0_4 x6_1).f0)) ++ (⟨#[32]⟩ : ByteArray)) ++ ((xA2 l0_4 x6_1).f1)).size + 9 ≤ 9223372036854775807
                  ·rw [if_pos c47] at H
                   have c47b0 := eq_true c47
                   have c47b1 : decide ((((x5_1 ++ ((xA2 l0_4 x6_1).f0)) ++ (⟨#[32]⟩ : ByteArray)) ++ ((xA2 l0_4 x6_1).f1)).size + 9 ≤ 9223372036854775807) = true := decide_eq_true c47
                   try have c47b2 : (9223372036854775807 < (((x5_1 ++ ((xA2 l0_4 x6_1).f0)) ++ (⟨#[32]⟩ : ByteArray)) ++ ((xA2 l0_4 x6_1).f1)).size + 9) = False := eq_false (Nat.not_lt.2 c47)
                   have c47s := c47
                   (try simp only [ByteArray.size_append, show (⟨#[32]⟩ : ByteArray).size = 1 from rfl] at c47s)
                   (try have c47u := decide_eq_true c47s)
                   (try have c47v := eq_false (Nat.not_lt.2 c47s))
                   clear c47s
                   by_cases c48 : ((((x5_1 ++ ((xA2 l0_4 x6_1).f0)) ++ (⟨#[32]⟩ : ByteArray)) ++ ((xA2 l0_4 x6_1).f1)) ++ (⟨#[32, 114, 101, 97, 100, 111, 110, 108, 121]⟩ : ByteArray)).size + 2 ≤ 9223372036854775807
                   ·rw [if_pos c48] at H
                    have c48b0 := eq_true c48
                    have c48b1 : decide (((((x5_1 ++ ((xA2 l0_4 x6_1).f0)) ++ (⟨#[32]⟩ : ByteArray)) ++ ((xA2 l0_4 x6_1).f1)) ++ (⟨#[32, 114, 101, 97, 100, 111, 110, 108, 121]⟩ : ByteArray)).size + 2 ≤ 9223372036854775807) = true := decide_eq_true c48
                    try have c48b2 : (9223372036854775807 < ((((x5_1 ++ ((xA2 l0_4 x6_1).f0)) ++ (⟨#[32]⟩ : ByteArray)) ++ ((xA2 l0_4 x6_1).f1)) ++ (⟨#[32, 114, 101, 97, 100, 111, 110, 108, 121]⟩ : ByteArray)).size + 2) = False := eq_false (Nat.not_lt.2 c48)
                    have c48s := c48
                    (try simp only [ByteArray.size_append, show (⟨#[32, 114, 101, 97, 100, 111, 110, 108, 121]⟩ : ByteArray).size = 9 from rfl, show (⟨#[32]⟩ : ByteArray).size = 1 from rfl] at c48s)
                    (try have c48u := decide_eq_true c48s)
                    (try have c48v := eq_false (Nat.not_lt.2 c48s))
                    clear c48s
                    have H' := Aside0.mk H
                    clear H
                    have hnb49 := NB581_578.out
                    have hnc49 := NB578_581.out
                    obtain ⟨hcz50_0, hcz50_1, hcz50_2, hcz50_3, hcz50_4, hfz50_0, hfz50_1, hfz50_2, hfz50_3, hfz50_4⟩ := ex5 BK581.out
                    go_wp2
                    go_roundg kj24
                    case measure => have := HK1.out; have := HJ11.out; have := HJ24.out; omega
                    case rel => exact ⟨(((((x5_1 ++ ((xA2 l0_4 x6_1).f0)) ++ (⟨#[32]⟩ : ByteArray)) ++ ((xA2 l0_4 x6_1).f1)) ++ (⟨#[32, 114, 101, 97, 100, 111, 110, 108, 121]⟩ : ByteArray)) ++ (⟨#[59, 10]⟩ : ByteArray)), (wrap64 (x6_1 + 1)), (by first | rfl | (simp; done) | (simp [*]; done)), (by first | rfl | (simp; done) | (simp [*]; done)), H', ⟨by have := HK1.out; have := HJ11.out; have := HJ24.out; omega⟩, ⟨by (with_reducible repeat (first | refine xA5 ?_ _ | refine xA8 ?_ | refine xA4 ?_ _)); exact BK578.out⟩, ⟨by repeat (first | (with_reducible first | exact HB.out | apply xA1 | apply xA0 | apply below_drew1 | refine xA6 ?_ GE578.out | refine xA6 ?_ GE581.out) | exact HB.out)⟩⟩
                   ·rw [if_neg c48] at H
                    exact absurd H (by simp)
                  ·rw [if_neg c47] at H
                   exact absurd H (by simp)
                 ·rw [if_neg c46] at H
                  have c46b0 : (((xA2 l0_4 x6_1).f2) == 1) = false := beq_eq_false_iff_ne.mpr c46
                  have c46b1 : (((xA2 l0_4 x6_1).f2) != 1) = true := bne_iff_ne.mpr c46
                  by_cases c51 : (((x5_1 ++ ((xA2 l0_4 x6_1).f0)) ++ (⟨#[32]⟩ : ByteArray)) ++ ((xA2 l0_4 x6_1).f1)).size + 2 ≤ 9223372036854775807
                  ·rw [if_pos c51] at H
                   have c51b0 := eq_true c51
                   have c51b1 : decide ((((x5_1 ++ ((xA2 l0_4 x6_1).f0)) ++ (⟨#[32]⟩ : ByteArray)) ++ ((xA2 l0_4 x6_1).f1)).size + 2 ≤ 9223372036854775807) = true := decide_eq_true c51
                   try have c51b2 : (9223372036854775807 < (((x5_1 ++ ((xA2 l0_4 x6_1).f0)) ++ (⟨#[32]⟩ : ByteArray)) ++ ((xA2 l0_4 x6_1).f1)).size + 2) = False := eq_false (Nat.not_lt.2 c51)
                   have c51s := c51
                   (try simp only [ByteArray.size_append, show (⟨#[32]⟩ : ByteArray).size = 1 from rfl] at c51s)
                   (try have c51u := decide_eq_true c51s)
                   (try have c51v := eq_false (Nat.not_lt.2 c51s))
                   clear c51s
                   have H' := Aside0.mk H
                   clear H
                   have hnb52 := NB581_578.out
                   have hnc52 := NB578_581.out
                   obtain ⟨hcz53_0, hcz53_1, hcz53_2, hcz53_3, hcz53_4, hfz53_0, hfz53_1, hfz53_2, hfz53_3, hfz53_4⟩ := ex5 BK581.out
                   go_wp2
                   go_roundg kj24
                   case measure => have := HK1.out; have := HJ11.out; have := HJ24.out; omega
                   case rel => exact ⟨((((x5_1 ++ ((xA2 l0_4 x6_1).f0)) ++ (⟨#[32]⟩ : ByteArray)) ++ ((xA2 l0_4 x6_1).f1)) ++ (⟨#[59, 10]⟩ : ByteArray)), (wrap64 (x6_1 + 1)), (by first | rfl | (simp; done) | (simp [*]; done)), (by first | rfl | (simp; done) | (simp [*]; done)), H', ⟨by have := HK1.out; have := HJ11.out; have := HJ24.out; omega⟩, ⟨by (with_reducible repeat (first | refine xA5 ?_ _ | refine xA8 ?_ | refine xA4 ?_ _)); exact BK578.out⟩, ⟨by repeat (first | (with_reducible first | exact HB.out | apply xA1 | apply xA0 | apply below_drew1 | refine xA6 ?_ GE578.out | refine xA6 ?_ GE581.out) | exact HB.out)⟩⟩
                  ·rw [if_neg c51] at H
                   exact absurd H (by simp)
                ·rw [if_neg c45] at H
                 have c45b0 : (((xA2 l0_4 x6_1).f0).toList == ([101, 120, 112, 111, 114, 116] : List UInt8)) = false := beq_eq_false_iff_ne.mpr c45
                 have c45b1 : (((xA2 l0_4 x6_1).f0).toList != ([101, 120, 112, 111, 114, 116] : List UInt8)) = true := bne_iff_ne.mpr c45
                 by_cases c54 : (((x5_1 ++ ((xA2 l0_4 x6_1).f0)) ++ (⟨#[32]⟩ : ByteArray)) ++ ((xA2 l0_4 x6_1).f1)).size + 2 ≤ 9223372036854775807
                 ·rw [if_pos c54] at H
                  have c54b0 := eq_true c54
                  have c54b1 : decide ((((x5_1 ++ ((xA2 l0_4 x6_1).f0)) ++ (⟨#[32]⟩ : ByteArray)) ++ ((xA2 l0_4 x6_1).f1)).size + 2 ≤ 9223372036854775807) = true := decide_eq_true c54
                  try have c54b2 : (9223372036854775807 < (((x5_1 ++ ((xA2 l0_4 x6_1).f0)) ++ (⟨#[32]⟩ : ByteArray)) ++ ((xA2 l0_4 x6_1).f1)).size + 2) = False := eq_false (Nat.not_lt.2 c54)
                  have c54s := c54
                  (try simp only [ByteArray.size_append, show (⟨#[32]⟩ : ByteArray).size = 1 from rfl] at c54s)
                  (try have c54u := decide_eq_true c54s)
                  (try have c54v := eq_false (Nat.not_lt.2 c54s))
                  clear c54s
                  have H' := Aside0.mk H
                  clear H
                  go_wp2
                  go_roundg kj24
                  case measure => have := HK1.out; have := HJ11.out; have := HJ24.out; omega
                  case rel => exact ⟨((((x5_1 ++ ((xA2 l0_4 x6_1).f0)) ++ (⟨#[32]⟩ : ByteArray)) ++ ((xA2 l0_4 x6_1).f1)) ++ (⟨#[59, 10]⟩ : ByteArray)), (wrap64 (x6_1 + 1)), (by first | rfl | (simp; done) | (simp [*]; done)), (by first | rfl | (simp; done) | (simp [*]; done)), H', ⟨by have := HK1.out; have := HJ11.out; have := HJ24.out; omega⟩, ⟨by (with_reducible repeat (first | refine xA5 ?_ _ | refine xA8 ?_ | refine xA4 ?_ _)); exact BK578.out⟩, ⟨by repeat (first | (with_reducible first | exact HB.out | apply xA1 | apply xA0 | apply below_drew1 | refine xA6 ?_ GE578.out | refine xA6 ?_ GE581.out) | exact HB.out)⟩⟩
                 ·rw [if_neg c54] at H
                  exact absurd H (by simp)
        ·rw [if_neg c11] at H
         exact absurd H (by simp)
       ·rw [if_neg c10] at H
        exact absurd H (by simp)
      ·rw [if_neg c9] at H
       exact absurd H (by simp)
     ·rw [if_neg c8] at H
      exact absurd H (by simp)
    ·rw [if_neg c7] at H
     have c7b0 : decide (x6_1 < (l0_4.length : Int)) = false := decide_eq_false c7
     clear c7
     simp only [Option.some.injEq, Prod.mk.injEq] at H
     obtain ⟨rfl, rfl⟩ := H
     obtain ⟨hcz55_0, hcz55_1, hcz55_2, hcz55_3, hcz55_4, hfz55_0, hfz55_1, hfz55_2, hfz55_3, hfz55_4⟩ := ex5 BK578.out
     go_wp2
     go_ret2
     exact ⟨by first | rfl | (simp <;> rfl) | (simp [*] <;> rfl), by repeat (first | (with_reducible first | exact HB.out | apply xA1 | apply xA0 | apply below_drew1 | refine xA6 ?_ GE578.out) | exact HB.out)⟩
 ·replace c3 := Bool.eq_false_iff.mpr c3
  subst c3
  have H1 : (some ((⟨#[]⟩ : ByteArray), 111)) = some (r1, r2) := by rw [if_neg (show ¬ (false = true) by decide)] at H; exact H
  clear H
  have H := H1
  clear H1
  simp only [Option.some.injEq, Prod.mk.injEq] at H
  obtain ⟨rfl, rfl⟩ := H
  go_enter Tryd.func14, Tryd.ntmps14
  go_wp2_with (first | ((with_reducible refine xBq (N := 1) rfl ?_); refine xBm ?hg (N := 1) ?hd (cs := #[.string a0_0, .string a0_1, .int .i64 a0_2, .int .i64 a0_3, .slice A0_4 l0_4.length c0_4]) (t := 25) ?hr ?_; (case hd => rfl); (case hg => rfl); (case hr => first | (go_simp; done) | (go_simp; rfl)); intro gb578 hg w56 hbox hb; have n0_ := Aside0.mk (xAi (by repeat (first | (with_reducible first | exact HB.out | apply xA1 | apply xA0 | apply below_drew1) | exact HB.out)) hb); have n1_ := Aside0.mk (hbox); have n2_ := Aside0.mk ((by rw [hg]; exact (xAs (by repeat (first | (with_reducible first | exact HB.out | apply xA1 | apply xA0 | apply below_drew1) | exact HB.out))) : w.heap.size ≤ gb578)); have n3_ := Aside0.mk ((by rw [hg]; exact (xAs (by repeat (first | (with_reducible first | exact HB.out | apply xA1 | apply xA0 | apply below_drew1) | exact HB.out))) : w.heap.size ≤ gb578)); clear HB; have HB := n0_; have BK578 := n1_; have GW578 := n2_; have GE578 := n3_; clear n0_ n1_ n2_ n3_; clear hb hbox hg; obtain ⟨hcz57_0, hcz57_1, hcz57_2, hcz57_3, hcz57_4, hfz57_0, hfz57_1, hfz57_2, hfz57_3, hfz57_4⟩ := ex5 BK578.out) | ((with_reducible refine xAj (f := 16) rfl ?_); refine xB6 (some 9) rfl rfl Tryd.func16 (by kernel_rfl) rfl #[.agg #[.string a0_0, .string a0_1, .int .i64 a0_2, .int .i64 a0_3, .slice A0_4 l0_4.length c0_4]] rfl (by (try simp only [List.map_toArray, List.map_cons, List.map_nil]); first | done | rfl | (simp only [List.length_drop, List.length_take]; rfl)) ?_; (with_reducible refine (xAm.calls k a0_0 a0_1 a0_2 a0_3 _ _ l0_4 false _ ?side1 ?side2 A2.out).mono ?_); (case side1 => repeat (first | exact (Kd.C_below HR0_4.out HB.out) | (with_reducible refine Kd.C_alloc ?_ _) | (with_reducible refine Kd.C_drewN ?_ _) | (with_reducible refine Kd.C_drew ?_))); (case side2 => exact HC0_4.out); rintro e w58 ⟨rfl, hb⟩; refine ⟨_, rfl, ?_⟩; have n0_ := Aside0.mk (xAt (g := gb578) (o := .cells #[.string a0_0, .string a0_1, .int .i64 a0_2, .int .i64 a0_3, .slice A0_4 l0_4.length c0_4] 25 (0, 0)) (by (with_reducible repeat (first | refine xA5 ?_ _ | refine xA8 ?_ | refine xA4 ?_ _)); exact BK578.out) hb); have n1_ := Aside0.mk (xAi (by repeat (first | (with_reducible first | exact HB.out | apply xA1 | apply xA0 | apply below_drew1 | refine xA6 ?_ GE578.out) | exact HB.out)) hb); clear BK578; clear HB; have BK578 := n0_; have HB := n1_; clear n0_ n1_; (try clear hb); (try clear hb2); (try clear hk); (try clear hi)))
  go_ret2
  exact ⟨by first | rfl | (simp <;> rfl) | (simp [*] <;> rfl), by repeat (first | (with_reducible first | exact HB.out | apply xA1 | apply xA0 | apply below_drew1 | refine xA6 ?_ GE578.out) | exact HB.out)⟩

end Go.Proofs.YtknbfhhmjbnemaaDoor.P
end
section
namespace Go.Proofs.YtknbfhhmjbnemaaDoor.P
open Go.RowKit Go.Proofs.YtknbfhhmjbnemaaDoorW.PrintWords Go.Proofs.YtknbfhhmjbnemaaDoorW.PrintLast Go.Proofs.YtknbfhhmjbnemaaDoorW.PrintMore Go.Proofs.YtknbfhhmjbnemaaDoor.Pure

/-! figures -/
theorem xK7 : ∀ m : Nat, m < 10 → ((⟨#[48, 49, 50, 51, 52, 53, 54, 55, 56, 57]⟩ : ByteArray).extract m (m + 1)) = ⟨#[UInt8.ofNat (48 + m)]⟩ := by
 intro m hm
 apply xBr
 rw [xDj]
 have : ∀ m : Nat, m < 10 → (([48, 49, 50, 51, 52, 53, 54, 55, 56, 57] : List UInt8).drop m).take 1 = [UInt8.ofNat (48 + m)] := by decide +kernel
 exact this m hm
theorem xJ0 (n : Nat) (hn : n < 10000000000) (acc : ByteArray) (ha : acc.size ≤ 1000) (k : Nat) (h : 0 < n ∨ acc.toList = ([] : List UInt8)) : xAp.l0 (k + 1) (n : Int) acc = xAp.l0 k ((n / 10 : Nat) : Int) ((⟨#[UInt8.ofNat (48 + n % 10)]⟩ : ByteArray) ++ acc) := by
 have e1 : Int.tmod (n : Int) 10 = ((n % 10 : Nat) : Int) := (Int.ofNat_tmod n 10).symm
 have e2 : wrap64 (((n % 10 : Nat) : Int) + 1) = ((n % 10 + 1 : Nat) : Int) := by unfold wrap64; omega
 have e3 : wrap64 (Int.tdiv (n : Int) 10) = ((n / 10 : Nat) : Int) := by
  rw [show Int.tdiv (n : Int) 10 = ((n / 10 : Nat) : Int) from (Int.ofNat_tdiv n 10).symm]
  unfold wrap64; omega
 have e4 : ((⟨#[48, 49, 50, 51, 52, 53, 54, 55, 56, 57]⟩ : ByteArray).extract (n % 10) (n % 10 + 1)).size = 1 := by rw [xK7 _ (by omega)]; rfl
 rw [xAp.l0, e1, e2, e3, Int.toNat_natCast, Int.toNat_natCast, e4, xK7 _ (by omega)]
 by_cases h0 : n = 0
 ·rw [if_neg (by omega), if_pos (h.resolve_left (by omega)), if_pos (by omega), if_pos (by omega), if_pos (by omega), if_pos (by omega)]
 ·rw [if_pos (by omega), if_pos (by omega), if_pos (by omega), if_pos (by omega), if_pos (by omega)]
theorem xIj (acc : ByteArray) (k : Nat) (h : acc.toList ≠ ([] : List UInt8)) : xAp.l0 (k + 1) 0 acc = some acc := by
 rw [xAp.l0, if_neg (by decide), if_neg h]
theorem xFc (c : UInt8) (acc : ByteArray) : ((⟨#[c]⟩ : ByteArray) ++ acc).data.toList = c :: acc.data.toList := by
 rw [ByteArray.data_append]
 simp
theorem xJ1 : ∀ (d n : Nat) (acc : ByteArray) (k : Nat), n < 10 ^ d → d ≤ 10 → acc.size + d ≤ 1000 → d < k → (0 < n ∨ acc.toList ≠ ([] : List UInt8)) → xAp.l0 k (n : Int) acc = some ⟨((if n = 0 then [] else Lib.decDigits n) ++ acc.data.toList).toArray⟩
 | 0, n, acc, k, hn, hd, ha, hk, h => by
  obtain rfl : n = 0 := by simp at hn; exact hn
  obtain ⟨k, rfl⟩ : ∃ q, k = q + 1 := ⟨k - 1, by omega⟩
  exact xIj acc k (h.resolve_left (by omega))
 | d + 1, n, acc, k, hn, hd, ha, hk, h => by
  obtain ⟨k, rfl⟩ : ∃ q, k = q + 1 := ⟨k - 1, by omega⟩
  by_cases h0 : n = 0
  ·subst h0
   exact xIj acc k (h.resolve_left (by omega))
  ·have hp : ∀ d : Nat, d ≤ 10 → 10 ^ d ≤ 10000000000 := by decide
   have hs : ((⟨#[UInt8.ofNat (48 + n % 10)]⟩ : ByteArray) ++ acc).size = acc.size + 1 := by
    have := congrArg List.length (xFc (UInt8.ofNat (48 + n % 10)) acc)
    exact this
   rw [xJ0 n (Nat.lt_of_lt_of_le hn (hp _ hd)) acc (by omega) k (.inl (by omega))]
   rw [xJ1 d (n / 10) _ k (by rw [Nat.pow_succ] at hn; omega) (by omega) (by omega) (by omega) (.inr (by rw [ByteArray.toList_eq, xFc]; simp))]
   rw [xFc, if_neg h0]
   congr 2
   apply congrArg List.toArray
   conv => rhs; rw [Lib.decDigits]
   by_cases h1 : n < 10
   ·rw [dif_pos h1, if_pos (by omega), show n % 10 = n by omega]
    rfl
   ·rw [dif_neg h1, if_neg (by omega), List.append_assoc]
    rfl
theorem xFs (n : Int) (h0 : 0 ≤ n) (h1 : n < 1000000000) (k : Nat) (hk : 20 ≤ k) : xAp.f k n = some ⟨(Lib.itoa n).toArray⟩ := by
 obtain ⟨m, rfl⟩ := Int.eq_ofNat_of_zero_le h0
 unfold xAp.f
 have e : Lib.itoa (m : Int) = Lib.decDigits m := by unfold Lib.itoa; rw [if_neg (by omega), Int.toNat_natCast]
 rw [e]
 by_cases hz : m = 0
 ·subst hz
  obtain ⟨k, rfl⟩ : ∃ q, k = q + 2 := ⟨k - 2, by omega⟩
  have := xJ0 0 (by decide) (⟨#[]⟩ : ByteArray) (by decide) (k + 1) (.inr (by rw [ByteArray.toList_eq]))
  simp only [Int.natCast_zero] at this
  rw [show ((0 : Nat) : Int) = 0 from rfl, this]
  rw [show ((0 / 10 : Nat) : Int) = 0 from rfl, xIj _ _ (by rw [ByteArray.toList_eq, xFc]; simp)]
  have : Lib.decDigits 0 = [48] := by rw [Lib.decDigits, dif_pos (by decide)]; rfl
  rw [this]
  rfl
 ·rw [xJ1 9 m (⟨#[]⟩ : ByteArray) k (by omega) (by decide) (by decide) (by omega) (.inl (by omega)), if_neg hz]
  simp

/-! the text of an expression -/
/-- How many parts a tree has, as deep as k. -/
def cnF : Nat → S25 → Nat
 | 0, _ => 0
 | k + 1, n => 1 + (n.f4.map (cnF k)).sum
def xLc (c : Nat) (n : S25) : Prop := ∃ t j0, (∀ j, j0 ≤ j → xBw j n = some t ∧ xAg.f j n.f0 n.f1 n.f2 n.f3 n.f4 = some ⟨t.toArray⟩) ∧ t.length + 2 ≤ 300 * c
theorem xCo (a : ByteArray) : a.data.toList.length = a.size := rfl
theorem xCp (a b : ByteArray) : (a ++ b).data.toList = a.data.toList ++ b.data.toList := by rw [ByteArray.data_append]; simp
theorem xG3 {a0 a1 : ByteArray} {a2 a3 : Int} {L : List S25} (c : S25 → Nat) (hL : L.length ≤ 1000000) (h : ∀ x ∈ L, xLc (c x) x) :
  ∀ (d i : Nat), i + d = L.length → ∃ u j0, (∀ j, j0 ≤ j → sepW (xBw j) (decide (i = 0)) (L.drop i) = some u) ∧ u.length ≤ 300 * ((L.drop i).map c).sum ∧
   ∀ acc : ByteArray, acc.size + u.length ≤ 1000000000 → ∀ k, j0 ≤ k → xAg.l0 k acc (i : Int) a0 a1 a2 a3 L = some ⟨(acc.data.toList ++ u ++ [41]).toArray⟩
 | 0, i, hi => by
  have hd : L.drop i = [] := List.drop_eq_nil_iff.2 (by omega)
  refine ⟨[], 1, fun j _ => by rw [hd]; rfl, by simp, fun acc ha k hk => ?_⟩
  obtain ⟨k, rfl⟩ : ∃ q, k = q + 1 := ⟨k - 1, by omega⟩
  rw [xAg.l0, if_neg (by omega), if_pos (by simp at ha; omega)]
  congr 1
  apply xBr
  rw [xCp]
  simp
 | d + 1, i, hi => by
  obtain ⟨t, j1, h1, hl1⟩ := h _ (xE1 (i := i) (by omega))
  obtain ⟨u, j2, h2, hl2, h3⟩ := xG3 (a0 := a0) (a1 := a1) (a2 := a2) (a3 := a3) c hL h d (i + 1) (by omega)
  have hdr := xFr L i (by omega)
  have w2 : wrap64 ((i : Int) + 1) = ((i + 1 : Nat) : Int) := by unfold wrap64; omega
  have e0 : decide (i + 1 = 0) = false := decide_eq_false (by omega)
  rw [e0] at h2
  have ht : (⟨t.toArray⟩ : ByteArray).size = t.length := rfl
  refine ⟨(if decide (i = 0) = true then [] else [44, 32]) ++ t ++ u, j1 + j2 + 1, fun j hj => ?_, ?_, fun acc ha k hk => ?_⟩
  ·rw [hdr, sepW, (h1 j (by omega)).1, Option.bind_some, h2 j (by omega)]
   rfl
  ·rw [hdr, List.map_cons, List.sum_cons]
   simp only [List.length_append]
   split <;> simp only [List.length_cons, List.length_nil] <;> omega
  ·obtain ⟨k, rfl⟩ : ∃ q, k = q + 1 := ⟨k - 1, by omega⟩
   simp only [List.length_append] at ha
   by_cases hi0 : i = 0
   ·rw [if_pos (decide_eq_true hi0)] at ha ⊢
    rw [xAg.l0, if_pos (by omega), if_neg (by omega), if_pos (by omega), (h1 k (by omega)).2, Option.bind_some, if_pos (by rw [ht]; omega), w2]
    have hs : (acc ++ (⟨t.toArray⟩ : ByteArray)).size = acc.size + t.length := by rw [ByteArray.size_append, ht]
    rw [h3 _ (by rw [hs]; omega) k (by omega), xCp]
    simp
   ·rw [if_neg (by simpa using hi0)] at ha ⊢
    simp only [List.length_cons, List.length_nil] at ha
    have hs0 : (acc ++ (⟨#[44, 32]⟩ : ByteArray)).size = acc.size + 2 := by rw [ByteArray.size_append]; rfl
    have hs : (acc ++ (⟨#[44, 32]⟩ : ByteArray) ++ (⟨t.toArray⟩ : ByteArray)).size = acc.size + 2 + t.length := by rw [ByteArray.size_append, hs0, ht]
    rw [xAg.l0, if_pos (by omega), if_pos (by omega), if_pos (by omega), if_pos (by omega), (h1 k (by omega)).2, Option.bind_some, if_pos (by rw [hs0, ht]; omega), w2]
    rw [h3 _ (by rw [hs]; omega) k (by omega), xCp, xCp]
    simp
theorem xKr (f : S25 → Nat) : ∀ (l : List S25) (x : S25), x ∈ l → f x ≤ (l.map f).sum
 | y :: l, x, h => by
  rw [List.map_cons, List.sum_cons]
  rcases List.mem_cons.1 h with e | e
  ·rw [e]; omega
  ·have := xKr f l x e
   omega
theorem xHa : ∀ (d : Nat) (n : S25), TXd d n → Sm n → cnF d n ≤ 300 → xLc (cnF d n) n
 | 0, n, h, _, _ => h.elim
 | d + 1, n, h, hsm, hc => by
  have hc1 : 1 ≤ cnF (d + 1) n := by simp only [cnF]; omega
  have hb : n.f4.length ≤ 1000000 ∧ -9223372036854775808 ≤ n.f2 ∧ n.f2 ≤ 9223372036854775807 := ⟨hsm.len, hsm.num⟩
  rcases h with ⟨h0, h1⟩ | ⟨h0, h1, h2⟩ | ⟨h0, hl, hall⟩
  ·refine ⟨n.f1.data.toList, 2, fun j hj => ?_, by rw [xCo]; omega⟩
   obtain ⟨j, rfl⟩ : ∃ q, j = q + 2 := ⟨j - 2, by omega⟩
   constructor
   ·simp only [xBw]
    rw [if_pos hb, if_pos (by rcases h0 with h | h <;> rw [h] <;> simp only [ByteArray.toList_eq] <;> decide)]
   ·rw [xAg.f]
    have e : ∀ y : ByteArray, xAg.j0 (j + 1) y true n.f0 n.f1 n.f2 n.f3 n.f4 = some n.f1 := fun y => by rw [xAg.j0, if_pos rfl]
    rcases h0 with h | h
    ·rw [if_pos (by rw [h]; simp only [ByteArray.toList_eq]), show (n.f0.toList == ([117, 115, 101] : List UInt8)) = true by rw [h]; simp only [ByteArray.toList_eq]; rfl]
     exact e _
    ·rw [if_neg (by rw [h]; simp only [ByteArray.toList_eq]; decide), show (n.f0.toList == ([110, 97, 109, 101] : List UInt8)) = true by rw [h]; simp only [ByteArray.toList_eq]; rfl]
     exact e _
  ·refine ⟨Lib.itoa n.f2, 22, fun j hj => ?_, ?_⟩
   ·obtain ⟨j, rfl⟩ : ∃ q, j = q + 2 := ⟨j - 2, by omega⟩
    constructor
    ·simp only [xBw]
     rw [if_pos hb, if_neg (by rw [h0]; simp only [ByteArray.toList_eq]; decide), if_pos (by rw [h0]; simp only [ByteArray.toList_eq])]
    ·rw [xAg.f, if_neg (by rw [h0]; simp only [ByteArray.toList_eq]; decide), show (n.f0.toList == ([110, 97, 109, 101] : List UInt8)) = false by rw [h0]; simp only [ByteArray.toList_eq]; rfl, xAg.j0, if_neg (by decide), if_pos (by rw [h0]; simp only [ByteArray.toList_eq]), xFs n.f2 h1 h2 _ (by omega)]
     rfl
   ·have := (xH1 n.f2.toNat).2
    rw [← xHu n.f2 h1 h2, xK6] at this
    omega
  ·have hkid : ∀ x ∈ n.f4, cnF d x ≤ (n.f4.map (cnF d)).sum := fun x hx => xKr _ _ x hx
   have hsum : cnF (d + 1) n = 1 + (n.f4.map (cnF d)).sum := rfl
   obtain ⟨u, j0, hu, hul, hr⟩ := xG3 (a0 := n.f0) (a1 := n.f1) (a2 := n.f2) (a3 := n.f3) (cnF d) hl (fun x hx => xHa d x (hall x hx) (hsm.mem hx) (by have := hkid x hx; omega)) n.f4.length 0 (by omega)
   rw [List.drop_zero] at hu hul
   have hw : n.f0.size ≤ 9 := by rcases h0 with h | h | h | h | h | h | h <;> rw [h] <;> decide
   refine ⟨n.f0.data.toList ++ [40] ++ u ++ [41], j0 + 3, fun j hj => ?_, ?_⟩
   ·obtain ⟨j, rfl⟩ : ∃ q, j = q + 1 := ⟨j - 1, by omega⟩
    constructor
    ·have := hu j (by omega)
     rw [show decide ((0 : Nat) = 0) = true from rfl] at this
     simp only [xBw, this]
     rw [if_pos hb]
     rcases h0 with h | h | h | h | h | h | h <;> rw [h] <;> (simp only [ByteArray.toList_eq]; rfl)
    ·obtain ⟨j, rfl⟩ : ∃ q, j = q + 1 := ⟨j - 1, by omega⟩
     have hs : (n.f0 ++ (⟨#[40]⟩ : ByteArray)).size = n.f0.size + 1 := by rw [ByteArray.size_append]; rfl
     have e1 : ¬ n.f0.toList = ([117, 115, 101] : List UInt8) := by rcases h0 with h | h | h | h | h | h | h <;> rw [h] <;> simp only [ByteArray.toList_eq] <;> decide
     have e2 : (n.f0.toList == ([110, 97, 109, 101] : List UInt8)) = false := by rcases h0 with h | h | h | h | h | h | h <;> rw [h] <;> simp only [ByteArray.toList_eq] <;> rfl
     have e3 : ¬ n.f0.toList = ([110, 117, 109] : List UInt8) := by rcases h0 with h | h | h | h | h | h | h <;> rw [h] <;> simp only [ByteArray.toList_eq] <;> decide
     have e4 : ¬ n.f0.toList = ([104, 101, 120] : List UInt8) := by rcases h0 with h | h | h | h | h | h | h <;> rw [h] <;> simp only [ByteArray.toList_eq] <;> decide
     rw [xAg.f, if_neg e1, e2, xAg.j0, if_neg (by decide), if_neg e3, if_neg e4, if_pos (by omega)]
     have := hr (n.f0 ++ (⟨#[40]⟩ : ByteArray)) (by rw [hs]; omega) j (by omega)
     rw [show ((0 : Nat) : Int) = 0 from rfl, xCp] at this
     exact this
   ·simp only [List.length_append, List.length_cons, List.length_nil, xCo]
    omega

/-! what a right statement looks like -/
theorem xKx {s : ByteArray} {k : Nat} (hk : 5000 ≤ k) (h : xBz.f k s = some true) : s.size ≤ 129 := by
 unfold xBz.f at h
 split at h
 case isFalse => cases h
 rw [xF8 _ k hk] at h
 cases hs : scan (xAl ((⟨#[36]⟩ : ByteArray) ++ s)) with
 | error e =>
  rw [hs] at h
  simp only [told, Option.bind_some] at h
  rw [if_neg (xHg hs)] at h
  cases h
 | ok T =>
  rw [hs] at h
  simp only [told, Option.bind_some] at h
  rw [if_pos trivial] at h
  split at h
  case isFalse => cases h
  rename_i h1
  rw [if_pos (by omega)] at h
  split at h
  case isFalse => cases h
  rename_i h2
  simp only [Option.some.injEq, beq_iff_eq] at h
  have hm : xB8 T 0 ∈ T := by
   cases T with
   | nil => simp at h1
   | cons t T => exact List.mem_cons_self
  have hg := xHf hs _ hm
  have h4 := (xHw hg).2
  rw [h2, show txt 2 (xAl (xB8 T 0).f1) (xB8 T 0).f2 = 36 :: xAl (xB8 T 0).f1 from rfl, List.length_cons, xAz] at h4
  rw [ByteArray.toList_eq, ByteArray.toList_eq] at h
  have h5 := congrArg List.length h
  have e1 : (xB8 T 0).f1.data.toList.length = (xB8 T 0).f1.size := rfl
  have e2 : s.data.toList.length = s.size := rfl
  omega
def SX (n : S25) : Prop := n.f1.size ≤ 129 ∧ (((n.f0 = ⟨#[100, 101, 118, 105, 99, 101]⟩ ∨ n.f0 = ⟨#[106, 111, 117, 114, 110, 97, 108]⟩) ∧ 0 ≤ n.f2 ∧ n.f2 < 1000000000) ∨ (n.f0 = ⟨#[101, 120, 112, 111, 114, 116]⟩ ∧ (n.f2 = 0 ∨ n.f2 = 1)) ∨
 ((n.f0 = ⟨#[107, 101, 121]⟩ ∨ n.f0 = ⟨#[114, 111, 111, 116]⟩) ∧ n.f4.length = 1 ∧ (xA2 n.f4 0).f0 = ⟨#[104, 101, 120]⟩ ∧ (xA2 n.f4 0).f1.size ≤ 129) ∨ (n.f0 = ⟨#[118, 111, 108, 117, 109, 101]⟩ ∧ n.f4.length = 1 ∧ TXd 13 (xA2 n.f4 0)))
theorem st_more {k : Nat} {a0 a1 : ByteArray} {a2 a3 : Int} {L : List S25} {r : Bool} (h : xAa.f k a0 a1 a2 a3 L = some r) (j : Nat) (hj : k ≤ j) : xAa.f j a0 a1 a2 a3 L = some r := by
 have := LeO.rounds (f := fun j => xAa.f j a0 a1 a2 a3 L) (fun j => xAa.mono _ _ _ _ _ j) k (j - k) r h
 rwa [show k + (j - k) = j by omega] at this
theorem st_inv {n : S25} (hn : Sm n) {k : Nat} (h : xAa.f k n.f0 n.f1 n.f2 n.f3 n.f4 = some true) : SX n := by
 have h := st_more h (k + 5005) (by omega)
 unfold xAa.f at h
 obtain ⟨b, hb, h⟩ := Option.bind_eq_some_iff.1 h
 cases b with
 | false => rw [if_neg (by decide)] at h; cases h
 | true =>
  rw [if_pos rfl] at h
  refine ⟨xGh (by omega) hb, ?_⟩
  obtain ⟨x, hx⟩ : ∃ x : Bool, x = (if n.f0.toList = ([100, 101, 118, 105, 99, 101] : List UInt8) then (n.f0.toList == ([100, 101, 118, 105, 99, 101] : List UInt8)) else (n.f0.toList == ([106, 111, 117, 114, 110, 97, 108] : List UInt8))) := ⟨_, rfl⟩
  have h : xAa.j0 (k + 5005) n.f0 x n.f0 n.f1 n.f2 n.f3 n.f4 = some true := by
   rw [hx]
   split at h
   ·rename_i hd; rw [if_pos hd]; exact h
   ·rename_i hd; rw [if_neg hd]; exact h
  rw [show k + 5005 = (k + 5004) + 1 from rfl, xAa.j0] at h
  cases x with
  | true =>
   rw [if_pos rfl] at h
   split at h
   case isFalse => cases h
   unfold xBt.f at h
   split at h
   case isFalse => cases h
   simp only [Option.bind_some, Option.some.injEq, decide_eq_true_eq] at h
   refine .inl ⟨?_, by omega, by omega⟩
   by_cases hd : n.f0.toList = ([100, 101, 118, 105, 99, 101] : List UInt8)
   ·exact .inl (xF0 hd)
   ·rw [if_neg hd] at hx
    exact .inr (xF0 (beq_iff_eq.1 hx.symm))
  | false =>
   rw [if_neg (by decide)] at h
   split at h
   ·rename_i he
    split at h
    case isFalse => cases h
    refine .inr (.inl ⟨xF0 he, ?_⟩)
    split at h
    ·rename_i h2; exact .inl h2
    ·simp only [Option.some.injEq, beq_iff_eq] at h
     exact .inr h
   ·have hj1 : ∀ y, xAa.j1 (k + 5004) y n.f0 n.f1 n.f2 n.f3 n.f4 = some true → y = false := by
     intro y hy
     cases y with
     | false => rfl
     | true => rw [show k + 5004 = (k + 5003) + 1 from rfl, xAa.j1, if_pos rfl] at hy; cases hy
    split at h
    case isFalse => have := hj1 _ h; cases this
    have hlen := hj1 _ h
    rw [hlen] at h
    have hl1 : n.f4.length = 1 := by simp only [bne_eq_false_iff_eq] at hlen; omega
    have hm : xA2 n.f4 ((0 : Nat) : Int) ∈ n.f4 := xE1 (by omega)
    rw [show k + 5004 = (k + 5003) + 1 from rfl, xAa.j1, if_neg (by decide), if_pos (by omega)] at h
    have hj2 : ∀ y, xAa.j2 (k + 5003) y n.f0 n.f1 n.f2 n.f3 n.f4 (xA2 n.f4 0).f0 (xA2 n.f4 0).f1 (xA2 n.f4 0).f2 (xA2 n.f4 0).f3 (xA2 n.f4 0).f4 = some true → (y = true ∧ (xA2 n.f4 0).f0 = ⟨#[104, 101, 120]⟩ ∧ (xA2 n.f4 0).f1.size ≤ 129) ∨ (n.f0 = ⟨#[118, 111, 108, 117, 109, 101]⟩ ∧ TXd 13 (xA2 n.f4 0)) := by
     intro y hy
     rw [show k + 5003 = (k + 5002) + 1 from rfl, xAa.j2] at hy
     cases y with
     | true =>
      rw [if_pos rfl] at hy
      split at hy
      case isFalse => cases hy
      rename_i hh
      split at hy
      case isFalse => cases hy
      split at hy
      case isFalse => cases hy
      obtain ⟨c, hc, hy⟩ := Option.bind_eq_some_iff.1 hy
      cases hy
      exact .inl ⟨rfl, xF0 hh, xKx (by omega) hc⟩
     | false =>
      rw [if_neg (by decide)] at hy
      split at hy
      case isFalse => cases hy
      rename_i hv
      obtain ⟨c, hc, hy⟩ := Option.bind_eq_some_iff.1 hy
      cases hy
      exact .inr ⟨xF0 hv, x_inv 12 1 (by decide) (by decide) _ (hn.mem hm) _ hc⟩
    split at h
    ·rename_i hk
     rcases hj2 _ h with ⟨_, h1, h2⟩ | ⟨h1, h2⟩
     ·exact .inr (.inr (.inl ⟨.inl (xF0 hk), hl1, h1, h2⟩))
     ·exact .inr (.inr (.inr ⟨h1, hl1, h2⟩))
    ·rcases hj2 _ h with ⟨h0, h1, h2⟩ | ⟨h1, h2⟩
     ·exact .inr (.inr (.inl ⟨.inr (xF0 (beq_iff_eq.1 h0)), hl1, h1, h2⟩))
     ·exact .inr (.inr (.inr ⟨h1, hl1, h2⟩))

/-! the text of a statement -/
/-- The document's loop makes this step. -/
def xK0 (t : List UInt8) (j0 : Nat) (L : List S25) (i : Nat) : Prop := ∀ (a0 a1 : ByteArray) (a2 a3 : Int) (acc acc' : ByteArray) (r : ByteArray × Int) (K : Nat), acc.size + t.length ≤ 2000000000 → acc'.data.toList = acc.data.toList ++ t → (∀ k, K ≤ k → xAc.l0 k acc' ((i + 1 : Nat) : Int) a0 a1 a2 a3 L = some r) → ∀ k, K + j0 ≤ k → xAc.l0 k acc (i : Int) a0 a1 a2 a3 L = some r
theorem xGw {L : List S25} {i : Nat} (hi : i < L.length) {a0 a1 : ByteArray} {a2 a3 : Int} {acc : ByteArray} {n : S25} (hn : xA2 L (i : Int) = n) (h0 : n.f0.size ≤ 9) (h1 : n.f1.size ≤ 129) (ha : acc.size ≤ 2000000000) (k : Nat) :
  xAc.l0 (k + 1) acc (i : Int) a0 a1 a2 a3 L = xAc.j1 k (acc ++ n.f0 ++ (⟨#[32]⟩ : ByteArray) ++ n.f1) (i : Int) n.f0 (if n.f0.toList = ([100, 101, 118, 105, 99, 101] : List UInt8) then (n.f0.toList == ([100, 101, 118, 105, 99, 101] : List UInt8)) else (n.f0.toList == ([106, 111, 117, 114, 110, 97, 108] : List UInt8))) a0 a1 a2 a3 L n.f0 n.f1 n.f2 n.f3 n.f4 := by
 have s1 : (acc ++ n.f0).size = acc.size + n.f0.size := ByteArray.size_append ..
 have s2 : (acc ++ n.f0 ++ (⟨#[32]⟩ : ByteArray)).size = acc.size + n.f0.size + 1 := by rw [ByteArray.size_append, s1]; rfl
 rw [xAc.l0, if_pos (by omega), if_pos (by omega), hn, if_pos (by omega), if_pos (by omega), if_pos (by omega)]
 split <;> rfl
theorem pst_num {L : List S25} {i : Nat} (hi : i < L.length) (hL : L.length ≤ 1000000) {n : S25} (hn : xA2 L (i : Int) = n) (hsm : Sm n) (h1 : n.f1.size ≤ 129) (hw : n.f0 = ⟨#[100, 101, 118, 105, 99, 101]⟩ ∨ n.f0 = ⟨#[106, 111, 117, 114, 110, 97, 108]⟩) (h2 : 0 ≤ n.f2) (h3 : n.f2 < 1000000000) :
  ∃ t j0, (∀ j, j0 ≤ j → xBw j n = some t) ∧ t.length ≤ 300 ∧ xK0 t j0 L i := by
 have hd := (xH1 n.f2.toNat).2
 rw [← xHu n.f2 h2 h3, xK6] at hd
 have h0 : n.f0.size ≤ 9 := by rcases hw with h | h <;> rw [h] <;> decide
 have w2 : wrap64 ((i : Int) + 1) = ((i + 1 : Nat) : Int) := by unfold wrap64; omega
 refine ⟨n.f0.data.toList ++ [32] ++ n.f1.data.toList ++ [32] ++ Lib.itoa n.f2 ++ [59, 10], 30, fun j hj => ?_, ?_, ?_⟩
 ·obtain ⟨j, rfl⟩ : ∃ q, j = q + 1 := ⟨j - 1, by omega⟩
  simp only [xBw]
  rw [if_pos ⟨hsm.len, hsm.num⟩]
  rcases hw with e | e <;> rw [e] <;> (simp only [ByteArray.toList_eq]; rfl)
 ·simp only [List.length_append, List.length_cons, List.length_nil, xCo]
  omega
 ·intro a0 a1 a2 a3 acc acc' r K ha he hr k hk
  obtain ⟨k, rfl⟩ : ∃ q, k = q + 2 := ⟨k - 2, by omega⟩
  simp only [List.length_append, List.length_cons, List.length_nil, xCo] at ha
  rw [xGw hi hn h0 h1 (by omega)]
  have ex : (if n.f0.toList = ([100, 101, 118, 105, 99, 101] : List UInt8) then (n.f0.toList == ([100, 101, 118, 105, 99, 101] : List UInt8)) else (n.f0.toList == ([106, 111, 117, 114, 110, 97, 108] : List UInt8))) = true := by
   rcases hw with e | e <;> rw [e] <;> simp only [ByteArray.toList_eq] <;> rfl
  have s1 : (acc ++ n.f0 ++ (⟨#[32]⟩ : ByteArray) ++ n.f1).size = acc.size + n.f0.size + 1 + n.f1.size := by rw [ByteArray.size_append, ByteArray.size_append, ByteArray.size_append]; rfl
  have s2 : (acc ++ n.f0 ++ (⟨#[32]⟩ : ByteArray) ++ n.f1 ++ (⟨#[32]⟩ : ByteArray)).size = acc.size + n.f0.size + 1 + n.f1.size + 1 := by rw [ByteArray.size_append, s1]; rfl
  have s3 : (⟨(Lib.itoa n.f2).toArray⟩ : ByteArray).size = (Lib.itoa n.f2).length := rfl
  have s4 : (acc ++ n.f0 ++ (⟨#[32]⟩ : ByteArray) ++ n.f1 ++ (⟨#[32]⟩ : ByteArray) ++ (⟨(Lib.itoa n.f2).toArray⟩ : ByteArray)).size = acc.size + n.f0.size + 1 + n.f1.size + 1 + (Lib.itoa n.f2).length := by rw [ByteArray.size_append, s2, s3]
  rw [ex, xAc.j1, if_pos rfl, if_pos (by omega), xFs n.f2 h2 h3 _ (by omega), Option.bind_some, if_pos (by rw [s2, s3]; omega), if_pos (by rw [s4]; omega), w2]
  rw [← hr k (by omega)]
  congr 1
  apply xBr
  rw [he]
  simp only [xCp, List.append_assoc]

/-! the text of a statement, of the other kinds -/
theorem pst_exp {L : List S25} {i : Nat} (hi : i < L.length) (hL : L.length ≤ 1000000) {n : S25} (hn : xA2 L (i : Int) = n) (hsm : Sm n) (h1 : n.f1.size ≤ 129) (hw : n.f0 = ⟨#[101, 120, 112, 111, 114, 116]⟩) (h2 : n.f2 = 0 ∨ n.f2 = 1) :
  ∃ t j0, (∀ j, j0 ≤ j → xBw j n = some t) ∧ t.length ≤ 300 ∧ xK0 t j0 L i := by
 have h0 : n.f0.size ≤ 9 := by rw [hw]; decide
 have w2 : wrap64 ((i : Int) + 1) = ((i + 1 : Nat) : Int) := by unfold wrap64; omega
 refine ⟨[101, 120, 112, 111, 114, 116, 32] ++ n.f1.data.toList ++ (if n.f2 = 1 then [32, 114, 101, 97, 100, 111, 110, 108, 121] else []) ++ [59, 10], 30, fun j hj => ?_, ?_, ?_⟩
 ·obtain ⟨j, rfl⟩ : ∃ q, j = q + 1 := ⟨j - 1, by omega⟩
  simp only [xBw]
  rw [if_pos ⟨hsm.len, hsm.num⟩, hw]
  simp only [ByteArray.toList_eq]
  rfl
 ·split <;> simp only [List.length_append, List.length_cons, List.length_nil, xCo] <;> omega
 ·intro a0 a1 a2 a3 acc acc' r K ha he hr k hk
  obtain ⟨k, rfl⟩ : ∃ q, k = q + 3 := ⟨k - 3, by omega⟩
  have ha : acc.size ≤ 2000000000 := by omega
  rw [xGw hi hn h0 h1 ha]
  have ex : (if n.f0.toList = ([100, 101, 118, 105, 99, 101] : List UInt8) then (n.f0.toList == ([100, 101, 118, 105, 99, 101] : List UInt8)) else (n.f0.toList == ([106, 111, 117, 114, 110, 97, 108] : List UInt8))) = false := by
   rw [hw]; simp only [ByteArray.toList_eq]; rfl
  have s1 : (acc ++ n.f0 ++ (⟨#[32]⟩ : ByteArray) ++ n.f1).size = acc.size + n.f0.size + 1 + n.f1.size := by rw [ByteArray.size_append, ByteArray.size_append, ByteArray.size_append]; rfl
  have e1 : ¬ n.f0.toList = ([107, 101, 121] : List UInt8) := by rw [hw]; simp only [ByteArray.toList_eq]; decide
  have e2 : (n.f0.toList == ([114, 111, 111, 116] : List UInt8)) = false := by rw [hw]; simp only [ByteArray.toList_eq]; rfl
  have e3 : ¬ n.f0.toList = ([118, 111, 108, 117, 109, 101] : List UInt8) := by rw [hw]; simp only [ByteArray.toList_eq]; decide
  have e4 : n.f0.toList = ([101, 120, 112, 111, 114, 116] : List UInt8) := by rw [hw]; simp only [ByteArray.toList_eq]
  have el : n.f0.data.toList = [101, 120, 112, 111, 114, 116] := by rw [hw]
  rw [ex, xAc.j1, if_neg (by decide), if_neg e1, e2, xAc.j2, if_neg (by decide), if_neg e3, if_pos e4]
  have s2 : (acc ++ n.f0 ++ (⟨#[32]⟩ : ByteArray) ++ n.f1 ++ (⟨#[32, 114, 101, 97, 100, 111, 110, 108, 121]⟩ : ByteArray)).size = acc.size + n.f0.size + 1 + n.f1.size + 9 := by rw [ByteArray.size_append, s1]; rfl
  rcases h2 with h2 | h2
  ·rw [if_neg (by omega)] at he
   rw [if_neg (by omega), if_pos (by omega), w2, ← hr k (by omega)]
   congr 1
   apply xBr
   rw [he]
   simp only [xCp, List.append_assoc, el]
   rfl
  ·rw [if_pos h2] at he
   rw [if_pos h2, if_pos (by omega), if_pos (by omega), w2, ← hr k (by omega)]
   congr 1
   apply xBr
   rw [he]
   simp only [xCp, List.append_assoc, el]
   rfl

theorem hex_text {x : S25} (hsm : Sm x) (h0 : x.f0 = ⟨#[104, 101, 120]⟩) (h1 : x.f1.size ≤ 129) : xLc 1 x := by
 refine ⟨36 :: x.f1.data.toList, 2, fun j hj => ?_, by simp only [List.length_cons, xCo]; omega⟩
 obtain ⟨j, rfl⟩ : ∃ q, j = q + 2 := ⟨j - 2, by omega⟩
 constructor
 ·simp only [xBw]
  rw [if_pos ⟨hsm.len, hsm.num⟩, h0]
  simp only [ByteArray.toList_eq]
  rfl
 ·rw [xAg.f, if_neg (by rw [h0]; simp only [ByteArray.toList_eq]; decide), show (x.f0.toList == ([110, 97, 109, 101] : List UInt8)) = false by rw [h0]; simp only [ByteArray.toList_eq]; rfl, xAg.j0, if_neg (by decide), if_neg (by rw [h0]; simp only [ByteArray.toList_eq]; decide), if_pos (by rw [h0]; simp only [ByteArray.toList_eq]), if_pos (by omega)]
  congr 1
theorem pst_kid {L : List S25} {i : Nat} (hi : i < L.length) (hL : L.length ≤ 1000000) {n : S25} (hn : xA2 L (i : Int) = n) (hsm : Sm n) (h1 : n.f1.size ≤ 129) (hw : n.f0 = ⟨#[107, 101, 121]⟩ ∨ n.f0 = ⟨#[114, 111, 111, 116]⟩) (hl : n.f4.length = 1) {c : Nat} (hx : xLc c (xA2 n.f4 0)) (hc : c ≤ 1000) :
  ∃ t j0, (∀ j, j0 ≤ j → xBw j n = some t) ∧ t.length ≤ 300 + 300 * c ∧ xK0 t j0 L i := by
 obtain ⟨tx, j1, hj1, hlx⟩ := hx
 have h0 : n.f0.size ≤ 9 := by rcases hw with h | h <;> rw [h] <;> decide
 have w2 : wrap64 ((i : Int) + 1) = ((i + 1 : Nat) : Int) := by unfold wrap64; omega
 have hh : ∀ j, j1 ≤ j → xIh (xBw j) n.f4 = some tx := by
  intro j hj
  have := (hj1 j hj).1
  cases hq : n.f4 with
  | nil => rw [hq] at hl; cases hl
  | cons y M => rw [hq] at this; exact this
 refine ⟨n.f0.data.toList ++ [32] ++ n.f1.data.toList ++ [32] ++ tx ++ [59, 10], j1 + 30, fun j hj => ?_, ?_, ?_⟩
 ·obtain ⟨j, rfl⟩ : ∃ q, j = q + 1 := ⟨j - 1, by omega⟩
  simp only [xBw, hh j (by omega)]
  rw [if_pos ⟨hsm.len, hsm.num⟩]
  rcases hw with e | e <;> rw [e] <;> (simp only [ByteArray.toList_eq]; rfl)
 ·simp only [List.length_append, List.length_cons, List.length_nil, xCo]
  omega
 ·intro a0 a1 a2 a3 acc acc' r K ha he hr k hk
  obtain ⟨k, rfl⟩ : ∃ q, k = q + 3 := ⟨k - 3, by omega⟩
  simp only [List.length_append, List.length_cons, List.length_nil, xCo] at ha
  rw [xGw hi hn h0 h1 (by omega)]
  have ex : (if n.f0.toList = ([100, 101, 118, 105, 99, 101] : List UInt8) then (n.f0.toList == ([100, 101, 118, 105, 99, 101] : List UInt8)) else (n.f0.toList == ([106, 111, 117, 114, 110, 97, 108] : List UInt8))) = false := by
   rcases hw with e | e <;> rw [e] <;> simp only [ByteArray.toList_eq] <;> rfl
  have s1 : (acc ++ n.f0 ++ (⟨#[32]⟩ : ByteArray) ++ n.f1).size = acc.size + n.f0.size + 1 + n.f1.size := by rw [ByteArray.size_append, ByteArray.size_append, ByteArray.size_append]; rfl
  have s2 : (acc ++ n.f0 ++ (⟨#[32]⟩ : ByteArray) ++ n.f1 ++ (⟨#[32]⟩ : ByteArray)).size = acc.size + n.f0.size + 1 + n.f1.size + 1 := by rw [ByteArray.size_append, s1]; rfl
  have s3 : (⟨tx.toArray⟩ : ByteArray).size = tx.length := rfl
  have s4 : (acc ++ n.f0 ++ (⟨#[32]⟩ : ByteArray) ++ n.f1 ++ (⟨#[32]⟩ : ByteArray) ++ (⟨tx.toArray⟩ : ByteArray)).size = acc.size + n.f0.size + 1 + n.f1.size + 1 + tx.length := by rw [ByteArray.size_append, s2, s3]
  have hj2 : xAc.j2 (k + 1) (acc ++ n.f0 ++ (⟨#[32]⟩ : ByteArray) ++ n.f1) (i : Int) n.f0 true a0 a1 a2 a3 L n.f0 n.f1 n.f2 n.f3 n.f4 = some r := by
   rw [xAc.j2, if_pos rfl, if_pos (by omega), if_pos (by omega), (hj1 k (by omega)).2, Option.bind_some, if_pos (by rw [s2, s3]; omega), if_pos (by rw [s4]; omega), w2]
   rw [← hr k (by omega)]
   congr 1
   apply xBr
   rw [he]
   simp only [xCp, List.append_assoc]
  rw [ex, xAc.j1, if_neg (by decide)]
  rcases hw with e | e
  ·rw [if_pos (by rw [e]; simp only [ByteArray.toList_eq]), show (n.f0.toList == ([107, 101, 121] : List UInt8)) = true by rw [e]; simp only [ByteArray.toList_eq]; rfl]
   exact hj2
  ·rw [if_neg (by rw [e]; simp only [ByteArray.toList_eq]; decide), show (n.f0.toList == ([114, 111, 111, 116] : List UInt8)) = true by rw [e]; simp only [ByteArray.toList_eq]; rfl]
   exact hj2

theorem pst_vol {L : List S25} {i : Nat} (hi : i < L.length) (hL : L.length ≤ 1000000) {n : S25} (hn : xA2 L (i : Int) = n) (hsm : Sm n) (h1 : n.f1.size ≤ 129) (hw : n.f0 = ⟨#[118, 111, 108, 117, 109, 101]⟩) (hl : n.f4.length = 1) {c : Nat} (hx : xLc c (xA2 n.f4 0)) (hc : c ≤ 1000) :
  ∃ t j0, (∀ j, j0 ≤ j → xBw j n = some t) ∧ t.length ≤ 300 + 300 * c ∧ xK0 t j0 L i := by
 obtain ⟨tx, j1, hj1, hlx⟩ := hx
 have h0 : n.f0.size ≤ 9 := by rw [hw]; decide
 have w2 : wrap64 ((i : Int) + 1) = ((i + 1 : Nat) : Int) := by unfold wrap64; omega
 have hh : ∀ j, j1 ≤ j → xIh (xBw j) n.f4 = some tx := by
  intro j hj
  have := (hj1 j hj).1
  cases hq : n.f4 with
  | nil => rw [hq] at hl; cases hl
  | cons y M => rw [hq] at this; exact this
 refine ⟨[118, 111, 108, 117, 109, 101, 32] ++ n.f1.data.toList ++ [32, 61, 32] ++ tx ++ [59, 10], j1 + 30, fun j hj => ?_, ?_, ?_⟩
 ·obtain ⟨j, rfl⟩ : ∃ q, j = q + 1 := ⟨j - 1, by omega⟩
  simp only [xBw, hh j (by omega)]
  rw [if_pos ⟨hsm.len, hsm.num⟩]
  rw [hw]
  simp only [ByteArray.toList_eq]
  rfl
 ·simp only [List.length_append, List.length_cons, List.length_nil, xCo]
  omega
 ·intro a0 a1 a2 a3 acc acc' r K ha he hr k hk
  obtain ⟨k, rfl⟩ : ∃ q, k = q + 3 := ⟨k - 3, by omega⟩
  simp only [List.length_append, List.length_cons, List.length_nil, xCo] at ha
  have hsz : n.f0.size = 6 := by rw [hw]; rfl
  rw [xGw hi hn h0 h1 (by omega)]
  have ex : (if n.f0.toList = ([100, 101, 118, 105, 99, 101] : List UInt8) then (n.f0.toList == ([100, 101, 118, 105, 99, 101] : List UInt8)) else (n.f0.toList == ([106, 111, 117, 114, 110, 97, 108] : List UInt8))) = false := by
   rw [hw]; simp only [ByteArray.toList_eq]; rfl
  have s1 : (acc ++ n.f0 ++ (⟨#[32]⟩ : ByteArray) ++ n.f1).size = acc.size + n.f0.size + 1 + n.f1.size := by rw [ByteArray.size_append, ByteArray.size_append, ByteArray.size_append]; rfl
  have s2 : (acc ++ n.f0 ++ (⟨#[32]⟩ : ByteArray) ++ n.f1 ++ (⟨#[32, 61, 32]⟩ : ByteArray)).size = acc.size + n.f0.size + 1 + n.f1.size + 3 := by rw [ByteArray.size_append, s1]; rfl
  have s3 : (⟨tx.toArray⟩ : ByteArray).size = tx.length := rfl
  have s4 : (acc ++ n.f0 ++ (⟨#[32]⟩ : ByteArray) ++ n.f1 ++ (⟨#[32, 61, 32]⟩ : ByteArray) ++ (⟨tx.toArray⟩ : ByteArray)).size = acc.size + n.f0.size + 1 + n.f1.size + 3 + tx.length := by rw [ByteArray.size_append, s2, s3]
  have hj2 : xAc.j2 (k + 1) (acc ++ n.f0 ++ (⟨#[32]⟩ : ByteArray) ++ n.f1) (i : Int) n.f0 false a0 a1 a2 a3 L n.f0 n.f1 n.f2 n.f3 n.f4 = some r := by
   rw [xAc.j2, if_neg (by decide), if_pos (by rw [hw]; simp only [ByteArray.toList_eq]), if_pos (by omega), if_pos (by omega), (hj1 k (by omega)).2, Option.bind_some, if_pos (by rw [s2, s3]; omega), if_pos (by rw [s4]; omega), w2]
   rw [← hr k (by omega)]
   congr 1
   apply xBr
   rw [he]
   have el : n.f0.data.toList = [118, 111, 108, 117, 109, 101] := by rw [hw]
   simp only [xCp, List.append_assoc, el]
   rfl
  rw [ex, xAc.j1, if_neg (by decide)]
  rw [if_neg (by rw [hw]; simp only [ByteArray.toList_eq]; decide), show (n.f0.toList == ([114, 111, 111, 116] : List UInt8)) = false by rw [hw]; simp only [ByteArray.toList_eq]; rfl]
  exact hj2

/-! the text of a file -/
theorem xGe {L : List S25} {a0 a1 : ByteArray} {a2 a3 : Int} (c : S25 → Nat) (hL : L.length ≤ 1000000) (h : ∀ i, i < L.length → ∃ t j0, (∀ j, j0 ≤ j → xBw j (xA2 L (i : Int)) = some t) ∧ t.length ≤ 300 * c (xA2 L (i : Int)) ∧ xK0 t j0 L i) :
  ∀ (d i : Nat), i + d = L.length → ∃ u j0, (∀ j, j0 ≤ j → catW (xBw j) (L.drop i) = some u) ∧ u.length ≤ 300 * ((L.drop i).map c).sum ∧
   ∀ acc : ByteArray, acc.size + u.length ≤ 1000000000 → ∀ k, j0 ≤ k → xAc.l0 k acc (i : Int) a0 a1 a2 a3 L = some (⟨(acc.data.toList ++ u).toArray⟩, 0)
 | 0, i, hi => by
  have hd : L.drop i = [] := List.drop_eq_nil_iff.2 (by omega)
  refine ⟨[], 1, fun j _ => by rw [hd]; rfl, by simp, fun acc ha k hk => ?_⟩
  obtain ⟨k, rfl⟩ : ∃ q, k = q + 1 := ⟨k - 1, by omega⟩
  rw [xAc.l0, if_neg (by omega)]
  congr 2
  apply xBr
  simp
 | d + 1, i, hi => by
  obtain ⟨t, j1, h1, hl1, hst⟩ := h i (by omega)
  obtain ⟨u, j2, h2, hl2, h3⟩ := xGe (a0 := a0) (a1 := a1) (a2 := a2) (a3 := a3) c hL h d (i + 1) (by omega)
  have hdr := xFr L i (by omega)
  refine ⟨t ++ u, j1 + j2, fun j hj => ?_, ?_, fun acc ha k hk => ?_⟩
  ·rw [hdr, catW, h1 j (by omega), Option.bind_some, h2 j (by omega)]
   rfl
  ·rw [hdr, List.map_cons, List.sum_cons, List.length_append]
   omega
  ·rw [List.length_append] at ha
   have ht : (⟨t.toArray⟩ : ByteArray).size = t.length := rfl
   have hs : (acc ++ (⟨t.toArray⟩ : ByteArray)).size = acc.size + t.length := by rw [ByteArray.size_append, ht]
   have := hst a0 a1 a2 a3 acc (acc ++ (⟨t.toArray⟩ : ByteArray)) _ j2 (by omega) (by rw [xCp]) (h3 _ (by rw [hs]; omega)) k (by omega)
   rw [this, xCp]
   simp

/-! the print of a tree -/
theorem pst_all {L : List S25} {i : Nat} (hi : i < L.length) (hL : L.length ≤ 1000000) (hsm : Sm (xA2 L (i : Int))) (hsx : SX (xA2 L (i : Int))) (hc : cnF 14 (xA2 L (i : Int)) ≤ 300) :
  ∃ t j0, (∀ j, j0 ≤ j → xBw j (xA2 L (i : Int)) = some t) ∧ t.length ≤ 300 * cnF 14 (xA2 L (i : Int)) ∧ xK0 t j0 L i := by
 generalize hn : xA2 L (i : Int) = n at *
 have hc1 : cnF 14 n = 1 + (n.f4.map (cnF 13)).sum := rfl
 have hone : n.f4.length = 1 → cnF 14 n = 1 + cnF 13 (xA2 n.f4 0) := by
  intro hl
  rw [hc1]
  cases hq : n.f4 with
  | nil => rw [hq] at hl; cases hl
  | cons y M =>
   rw [hq] at hl
   obtain rfl : M = [] := by simpa using hl
   simp
   rfl
 have hmem : n.f4.length = 1 → xA2 n.f4 0 ∈ n.f4 := fun hl => xE1 (i := 0) (by omega)
 obtain ⟨h1, h⟩ := hsx
 rcases h with ⟨hw, h2, h3⟩ | ⟨hw, h2⟩ | ⟨hw, hl, h2, h3⟩ | ⟨hw, hl, h2⟩
 ·obtain ⟨t, j0, e1, e2, e3⟩ := pst_num hi hL hn hsm h1 hw h2 h3
  exact ⟨t, j0, e1, by omega, e3⟩
 ·obtain ⟨t, j0, e1, e2, e3⟩ := pst_exp hi hL hn hsm h1 hw h2
  exact ⟨t, j0, e1, by omega, e3⟩
 ·have hx := hex_text (hsm.mem (hmem hl)) h2 h3
  obtain ⟨t, j0, e1, e2, e3⟩ := pst_kid hi hL hn hsm h1 hw hl hx (by decide)
  have h4 : 1 ≤ cnF 13 (xA2 n.f4 0) := by simp only [cnF]; omega
  exact ⟨t, j0, e1, by have := hone hl; omega, e3⟩
 ·have h4 := hone hl
  have hx := xHa 13 _ h2 (hsm.mem (hmem hl)) (by omega)
  obtain ⟨t, j0, e1, e2, e3⟩ := pst_vol hi hL hn hsm h1 hw hl hx (by omega)
  exact ⟨t, j0, e1, by omega, e3⟩

/-! a right file's statements are right -/
theorem xK9 {L : List S25} (hL : L.length ≤ 1000000) : ∀ (k i : Nat), xAy.l0 k L (L.length : Int) (i : Int) = some true → ∀ j : Nat, i ≤ j → j < L.length → ∃ k', xAa.f k' (xA2 L (j : Int)).f0 (xA2 L (j : Int)).f1 (xA2 L (j : Int)).f2 (xA2 L (j : Int)).f3 (xA2 L (j : Int)).f4 = some true
 | 0, i, h => by rw [xAy.l0] at h; cases h
 | k + 1, i, h => by
  intro j hij hj
  rw [xAy.l0, if_pos (by omega), if_pos (by omega), if_pos (by omega)] at h
  have w2 : wrap64 ((i : Int) + 1) = ((i + 1 : Nat) : Int) := by unfold wrap64; omega
  obtain ⟨t, ht, h2⟩ := Option.bind_eq_some_iff.1 h
  cases t with
  | false => rw [if_neg (by decide)] at h2; cases h2
  | true =>
   rw [if_pos rfl, w2] at h2
   by_cases he : j = i
   ·subst he; exact ⟨k, ht⟩
   ·exact xK9 hL k (i + 1) h2 j (by omega) hj

/-! Print, the program's and the document's -/
theorem xJj {n : S25} (hn : Sm n) (hc : cnF 15 n ≤ 300) : ∃ (b : Bool) (r : ByteArray × Int) (K : Nat), ∀ k, K ≤ k → xAy.f k n.f0 n.f1 n.f2 n.f3 n.f4 = some b ∧ xAm.f k n.f0 n.f1 n.f2 n.f3 n.f4 = some b ∧ xFj k n = some r ∧ xAc.f k n.f0 n.f1 n.f2 n.f3 n.f4 = some r := by
 obtain ⟨b, K, hr⟩ := xJe hn
 cases b with
 | false =>
  refine ⟨false, (⟨#[]⟩, 111), K, fun k hk => ⟨(hr k hk).1, (hr k hk).2, ?_, ?_⟩⟩
  ·unfold xFj; rw [(hr k hk).1]; rfl
  ·unfold xAc.f; rw [(hr k hk).2]; rfl
 | true =>
  have h1 := (hr (K + 2) (by omega)).1
  unfold xAy.f at h1
  have hj : ∀ x, xAy.j0 (K + 2) x n.f0 n.f1 n.f2 n.f3 n.f4 = some true → xAy.l0 (K + 1) n.f4 (n.f4.length : Int) ((0 : Nat) : Int) = some true := by
   intro x hx
   rw [xAy.j0] at hx
   split at hx
   ·cases hx
   ·exact hx
  split at h1
  case isFalse => rw [xAy.j0, if_pos rfl] at h1; cases h1
  rename_i hf
  have hl0 : xAy.l0 (K + 1) n.f4 (n.f4.length : Int) ((0 : Nat) : Int) = some true := by
   split at h1
   ·exact hj _ h1
   ·exact hj _ h1
  have hc1 : cnF 15 n = 1 + (n.f4.map (cnF 14)).sum := rfl
  obtain ⟨u, j0, hu, hul, hp⟩ := xGe (a0 := n.f0) (a1 := n.f1) (a2 := n.f2) (a3 := n.f3) (cnF 14) hn.len (fun i hi => by
   obtain ⟨k', hk'⟩ := xK9 hn.len _ _ hl0 i (by omega) hi
   have hm := xE1 hi
   exact pst_all hi hn.len (hn.mem hm) (st_inv (hn.mem hm) hk') (by have := xKr (cnF 14) _ _ hm; omega)) n.f4.length 0 (by omega)
  rw [List.drop_zero] at hu hul
  refine ⟨true, (⟨u.toArray⟩, 0), K + j0 + 2, fun k hk => ⟨(hr k (by omega)).1, (hr k (by omega)).2, ?_, ?_⟩⟩
  ·obtain ⟨k, rfl⟩ : ∃ q, k = q + 1 := ⟨k - 1, by omega⟩
   have hw : xBw (k + 1) n = some u := by
    have e0 := xF0 hf
    simp only [xBw, hu k (by omega)]
    rw [if_pos ⟨hn.len, hn.num⟩, e0]
    simp only [ByteArray.toList_eq]
    rfl
   unfold xFj
   rw [(hr (k + 1) (by omega)).1, Option.bind_some, if_pos rfl, hw, Option.bind_some, if_pos (by omega)]
  ·unfold xAc.f
   rw [(hr k (by omega)).2, Option.bind_some, if_pos rfl]
   exact hp (⟨#[]⟩ : ByteArray) (by show 0 + u.length ≤ 1000000000; omega) k (by omega)
end Go.Proofs.YtknbfhhmjbnemaaDoor.P
end
section
namespace Go.Proofs.YtknbfhhmjbnemaaDoor.P
open Go.RowKit Go.Proofs.YtknbfhhmjbnemaaDoorW.PrintWords Go.Proofs.YtknbfhhmjbnemaaDoorW.PrintLast Go.Proofs.YtknbfhhmjbnemaaDoorW.PrintMore
attribute [local go_sem] xB9 xBe

/-! ### xAw: function 12 -/
mutual
def xAw.l0 : Nat → Int → Int → Int → ByteArray → ByteArray → Int → Int → List (S25) → Option (Int)
 | 0, _, _, _, _, _, _, _, _ => none
 | k + 1, x1, x5, x6, x531000, x531001, x531002, x531003, x531004 => if x6 < (x531004.length : Int) then (if x5 ≤ x1 then (if 0 ≤ x6 then ((xAw.f k ((xA2 x531004 x6).f0) ((xA2 x531004 x6).f1) ((xA2 x531004 x6).f2) ((xA2 x531004 x6).f3) ((xA2 x531004 x6).f4) (wrap64 (x1 - x5))).bind fun t532 => (xAw.l0 k x1 (wrap64 (x5 + t532)) (wrap64 (x6 + 1)) x531000 x531001 x531002 x531003 x531004)) else (none)) else (some x5)) else (some x5)
def xAw.f : Nat → ByteArray → ByteArray → Int → Int → List (S25) → Int → Option (Int)
 | 0, _, _, _, _, _, _ => none
 | k + 1, a0_0, a0_1, a0_2, a0_3, l0_4, a1 => xAw.l0 k a1 1 0 a0_0 a0_1 a0_2 a0_3 l0_4
end
set_option maxHeartbeats 8000000 in
set_option maxRecDepth 100000 in
theorem xAw.calls (k : Nat) : ∀ (a0_0 : ByteArray) (a0_1 : ByteArray) (a0_2 : Int) (a0_3 : Int) (A0_4 : Option Addr) (c0_4 : Nat) (l0_4 : List (S25)) (a1 : Int) (r : Int) (w : World) (hr0_4 : Kd.C k25 w A0_4 l0_4.length l0_4) (hc0_4 : l0_4.length ≤ c0_4) (h : xAw.f k a0_0 a0_1 a0_2 a0_3 l0_4 a1 = some r),
  Calls Tryd.prog 12 #[.agg #[.string a0_0, .string a0_1, .int .i64 a0_2, .int .i64 a0_3, .slice A0_4 l0_4.length c0_4], .int .i64 a1] w fun e w' => e = .returned (.int .i64 r) ∧ Below w.heap.size w w' := by
 induction k using Nat.strongRecOn with
 | _ k ih =>
 intro a0_0 a0_1 a0_2 a0_3 A0_4 c0_4 l0_4 a1 r w hr0_4 hc0_4 h
 cases k with
 | zero => exact absurd h (by simp [xAw.f])
 | succ k =>
 simp only [xAw.f] at h
 have hu25 := Tryd.underlying25
 have HR0_4 := Aside0.mk hr0_4
 have HC0_4 := Aside0.mk hc0_4
 clear hr0_4 hc0_4
 have HB := Aside0.mk (Below.refl w.heap.size w)
 have H : (xAw.l0 k a1 1 0 a0_0 a0_1 a0_2 a0_3 l0_4) = some r := h
 clear h
 have H' := Aside0.mk H
 clear H
 go_enter Tryd.func12, Tryd.ntmps12
 go_wp2_with (first | ((with_reducible refine xBq (N := 2) rfl ?_); refine xBm ?hg (N := 2) ?hd (cs := #[.string a0_0, .string a0_1, .int .i64 a0_2, .int .i64 a0_3, .slice A0_4 l0_4.length c0_4]) (t := 25) ?hr ?_; (case hd => rfl); (case hg => rfl); (case hr => first | (go_simp; done) | (go_simp; rfl)); intro gb530 hg w3 hbox hb; have n0_ := Aside0.mk (xAi (by repeat (first | (with_reducible first | exact HB.out | apply xA1 | apply xA0 | apply below_drew1) | exact HB.out)) hb); have n1_ := Aside0.mk (hbox); have n2_ := Aside0.mk ((by rw [hg]; exact (xAs (by repeat (first | (with_reducible first | exact HB.out | apply xA1 | apply xA0 | apply below_drew1) | exact HB.out))) : w.heap.size ≤ gb530)); have n3_ := Aside0.mk ((by rw [hg]; exact (xAs (by repeat (first | (with_reducible first | exact HB.out | apply xA1 | apply xA0 | apply below_drew1) | exact HB.out))) : w.heap.size ≤ gb530)); clear HB; have HB := n0_; have BK530 := n1_; have GW530 := n2_; have GE530 := n3_; clear n0_ n1_ n2_ n3_; clear hb hbox hg))
 go_loopg [5, 6] k (fun kq v5 v6 w' => ∃ (x5_1 : Int) (x6_1 : Int), v5 = .int .i64 x5_1 ∧ v6 = .int .i64 x6_1 ∧ Aside0 (xAw.l0 kq a1 x5_1 x6_1 a0_0 a0_1 a0_2 a0_3 l0_4 = some r) ∧ Aside0 (kq ≤ k) ∧ Aside0 (w'.heap[gb530]? = some (.cells #[.string a0_0, .string a0_1, .int .i64 a0_2, .int .i64 a0_3, (.slice A0_4 l0_4.length c0_4)] 25 (0, 0))) ∧ Aside0 (Below w.heap.size w w'))
 case atStart => exact ⟨(1), (0), (by first | rfl | (simp; done) | (simp [*]; done)), (by first | rfl | (simp; done) | (simp [*]; done)), H', ⟨Nat.le_refl _⟩, ⟨by (with_reducible repeat (first | refine xA5 ?_ _ | refine xA8 ?_ | refine xA4 ?_ _)); exact BK530.out⟩, ⟨by repeat (first | (with_reducible first | exact HB.out | apply xA1 | apply xA0 | apply below_drew1 | refine xA6 ?_ GE530.out) | exact HB.out)⟩⟩
 case round =>
  clear H'
  try clear c1
  try clear p2
  obtain ⟨x5_1, x6_1, rfl, rfl, HA, HK1, BK530, HB⟩ := hrel
  cases gk with
  | zero => exact absurd HA.out (by simp [xAw.l0])
  | succ k1 =>
   have H := HA.out
   clear HA
   simp only [xAw.l0] at H
   by_cases c4 : x6_1 < (l0_4.length : Int)
   ·rw [if_pos c4] at H
    have c4b0 : decide (x6_1 < (l0_4.length : Int)) = true := decide_eq_true c4
    clear c4
    by_cases c5 : x5_1 ≤ a1
    ·rw [if_pos c5] at H
     have c5b0 : decide (x5_1 ≤ a1) = true := decide_eq_true c5
     clear c5
     by_cases c6 : 0 ≤ x6_1
     ·rw [if_pos c6] at H
      have c6b0 : decide (0 ≤ x6_1) = true := decide_eq_true c6
      clear c6
      replace H := Option.bind_eq_some_iff.mp H
      obtain ⟨t532, A70, H⟩ := H
      replace H : (xAw.l0 k1 a1 (wrap64 (x5_1 + t532)) (wrap64 (x6_1 + 1)) a0_0 a0_1 a0_2 a0_3 l0_4) = some r := H
      have A7 := Aside0.mk A70
      clear A70
      have H' := Aside0.mk H
      clear H
      obtain ⟨hcz8_0, hcz8_1, hcz8_2, hcz8_3, hcz8_4, hfz8_0, hfz8_1, hfz8_2, hfz8_3, hfz8_4⟩ := ex5 BK530.out
      have p531 : 0 ≤ (x6_1 : Int) := of_decide_eq_true (by first | (with_reducible assumption) | assumption)
      have q531 : x6_1 < (l0_4.length : Int) := of_decide_eq_true (by first | (with_reducible assumption) | assumption)
      obtain ⟨ad531, A531_4, c531_4, e531, hx531_0, hx531_1, hx531_2, hx531_3, hx531_4, hl531_4, hi531_4⟩ := xC3 HR0_4.out x6_1 p531 q531
      cases e531
      replace hx531_0 := (HB.out.cell (World.block_lt_of_cell? w _ hx531_0)).trans hx531_0
      replace hx531_1 := (HB.out.cell (World.block_lt_of_cell? w _ hx531_1)).trans hx531_1
      replace hx531_2 := (HB.out.cell (World.block_lt_of_cell? w _ hx531_2)).trans hx531_2
      replace hx531_3 := (HB.out.cell (World.block_lt_of_cell? w _ hx531_3)).trans hx531_3
      replace hx531_4 := (HB.out.cell (World.block_lt_of_cell? w _ hx531_4)).trans hx531_4
      have HR531_4 := Aside0.mk hi531_4
      have HC531_4 := Aside0.mk hl531_4
      clear hi531_4 hl531_4
      replace p531 := eq_true p531
      replace q531 := eq_true q531
      go_wp2_with (first | ((with_reducible refine xAj (f := 12) rfl ?_); refine xB6 (some 28) rfl rfl Tryd.func12 (by kernel_rfl) rfl #[.agg #[.string ((xA2 l0_4 x6_1).f0), .string ((xA2 l0_4 x6_1).f1), .int .i64 ((xA2 l0_4 x6_1).f2), .int .i64 ((xA2 l0_4 x6_1).f3), .slice A531_4 ((xA2 l0_4 x6_1).f4).length c531_4], .int .i64 (wrap64 (a1 - x5_1))] rfl (by (try simp only [List.map_toArray, List.map_cons, List.map_nil]); first | done | rfl | (simp only [List.length_drop, List.length_take]; rfl)) ?_; (with_reducible refine (ih k1 (by have := HK1.out; omega) ((xA2 l0_4 x6_1).f0) ((xA2 l0_4 x6_1).f1) ((xA2 l0_4 x6_1).f2) ((xA2 l0_4 x6_1).f3) _ _ ((xA2 l0_4 x6_1).f4) (wrap64 (a1 - x5_1)) t532 _ ?side1 ?side2 A7.out).mono ?_); (case side1 => repeat (first | exact (Kd.C_below HR531_4.out HB.out) | (with_reducible refine Kd.C_alloc ?_ _) | (with_reducible refine Kd.C_drewN ?_ _) | (with_reducible refine Kd.C_drew ?_))); (case side2 => exact HC531_4.out); rintro e w9 ⟨rfl, hb⟩; refine ⟨_, rfl, ?_⟩; have n0_ := Aside0.mk (xAt (g := gb530) (o := .cells #[.string a0_0, .string a0_1, .int .i64 a0_2, .int .i64 a0_3, .slice (some ad531) l0_4.length c0_4] 25 (0, 0)) (by (with_reducible repeat (first | refine xA5 ?_ _ | refine xA8 ?_ | refine xA4 ?_ _)); exact BK530.out) hb); have n1_ := Aside0.mk (xAi (by repeat (first | (with_reducible first | exact HB.out | apply xA1 | apply xA0 | apply below_drew1 | refine xA6 ?_ GE530.out) | exact HB.out)) hb); clear BK530; clear HB; have BK530 := n0_; have HB := n1_; clear n0_ n1_; (try clear hb); (try clear hb2); (try clear hk); (try clear hi)))
      go_roundg k1
      case measure => have := HK1.out; omega
      case rel => exact ⟨(wrap64 (x5_1 + t532)), (wrap64 (x6_1 + 1)), (by first | rfl | (simp; done) | (simp [*]; done)), (by first | rfl | (simp; done) | (simp [*]; done)), H', ⟨by have := HK1.out; omega⟩, ⟨by (with_reducible repeat (first | refine xA5 ?_ _ | refine xA8 ?_ | refine xA4 ?_ _)); exact BK530.out⟩, ⟨by repeat (first | (with_reducible first | exact HB.out | apply xA1 | apply xA0 | apply below_drew1 | refine xA6 ?_ GE530.out) | exact HB.out)⟩⟩
     ·rw [if_neg c6] at H
      exact absurd H (by simp)
    ·rw [if_neg c5] at H
     have c5b0 : decide (x5_1 ≤ a1) = false := decide_eq_false c5
     clear c5
     obtain rfl := Option.some.inj H
     obtain ⟨hcz10_0, hcz10_1, hcz10_2, hcz10_3, hcz10_4, hfz10_0, hfz10_1, hfz10_2, hfz10_3, hfz10_4⟩ := ex5 BK530.out
     go_wp2
     go_ret
     exact ⟨by first | rfl | (simp <;> rfl) | (simp [*] <;> rfl), by repeat (first | (with_reducible first | exact HB.out | apply xA1 | apply xA0 | apply below_drew1 | refine xA6 ?_ GE530.out) | exact HB.out)⟩
   ·rw [if_neg c4] at H
    have c4b0 : decide (x6_1 < (l0_4.length : Int)) = false := decide_eq_false c4
    clear c4
    obtain rfl := Option.some.inj H
    obtain ⟨hcz11_0, hcz11_1, hcz11_2, hcz11_3, hcz11_4, hfz11_0, hfz11_1, hfz11_2, hfz11_3, hfz11_4⟩ := ex5 BK530.out
    go_wp2
    go_ret
    exact ⟨by first | rfl | (simp <;> rfl) | (simp [*] <;> rfl), by repeat (first | (with_reducible first | exact HB.out | apply xA1 | apply xA0 | apply below_drew1 | refine xA6 ?_ GE530.out) | exact HB.out)⟩

end Go.Proofs.YtknbfhhmjbnemaaDoor.P
end
section
namespace Go.Proofs.YtknbfhhmjbnemaaDoor.P
open Go.RowKit Go.Proofs.YtknbfhhmjbnemaaDoorW.PrintWords Go.Proofs.YtknbfhhmjbnemaaDoorW.PrintLast Go.Proofs.YtknbfhhmjbnemaaDoorW.PrintMore Go.Proofs.YtknbfhhmjbnemaaDoor.Pure

/-! how many parts a tree has -/
def wdF : Nat → S25 → Prop
 | 0, _ => True
 | k + 1, n => n.f4.length ≤ 300 ∧ ∀ x ∈ n.f4, wdF k x
def Parts (n : S25) (left : Int) : Prop := ∃ (r : Int) (K : Nat), (∀ k, K ≤ k → xAw.f k n.f0 n.f1 n.f2 n.f3 n.f4 left = some r) ∧ 1 ≤ r ∧ r ≤ left + 1 ∧ (r ≤ left → ∀ j, (cnF j n : Int) ≤ r ∧ wdF j n)
theorem xGf {L : List S25} {a0 a1 : ByteArray} {a2 a3 : Int} {left : Int} (hl : 0 ≤ left ∧ left ≤ 300) (h : ∀ x ∈ L, ∀ l, 0 ≤ l → l ≤ 300 → Parts x l) :
  ∀ (d i : Nat) (p : Int), i + d = L.length → (i : Int) + 1 ≤ p → p ≤ left + 1 → ∃ (r : Int) (K : Nat), (∀ k, K ≤ k → xAw.l0 k left p (i : Int) a0 a1 a2 a3 L = some r) ∧ p ≤ r ∧ r ≤ left + 1 ∧ (r ≤ left → (L.length : Int) + 1 ≤ r ∧ ∀ j, p + (((L.drop i).map (cnF j)).sum : Int) ≤ r ∧ ∀ x ∈ L.drop i, wdF j x)
 | 0, i, p, hi, hp, hq => by
  have hd : L.drop i = [] := List.drop_eq_nil_iff.2 (by omega)
  refine ⟨p, 1, fun k hk => ?_, by omega, hq, fun hr => ⟨by omega, fun j => ⟨by rw [hd]; simp, fun x hx => by rw [hd] at hx; cases hx⟩⟩⟩
  obtain ⟨k, rfl⟩ : ∃ q, k = q + 1 := ⟨k - 1, by omega⟩
  rw [xAw.l0, if_neg (by omega)]
 | d + 1, i, p, hi, hp, hq => by
  by_cases hpl : p ≤ left
  case neg =>
   refine ⟨p, 1, fun k hk => ?_, by omega, hq, fun hr => absurd hr hpl⟩
   obtain ⟨k, rfl⟩ : ∃ q, k = q + 1 := ⟨k - 1, by omega⟩
   rw [xAw.l0, if_pos (by omega), if_neg hpl]
  obtain ⟨t, K1, h1, ht1, ht2, ht3⟩ := h _ (xE1 (i := i) (by omega)) (left - p) (by omega) (by omega)
  obtain ⟨r, K2, h2, hr1, hr2, hr3⟩ := xGf (a0 := a0) (a1 := a1) (a2 := a2) (a3 := a3) hl h d (i + 1) (p + t) (by omega) (by omega) (by omega)
  have w1 : wrap64 (left - p) = left - p := by unfold wrap64; omega
  have w2 : wrap64 (p + t) = p + t := by unfold wrap64; omega
  have w3 : wrap64 ((i : Int) + 1) = ((i + 1 : Nat) : Int) := by unfold wrap64; omega
  refine ⟨r, K1 + K2 + 1, fun k hk => ?_, by omega, hr2, fun hr => ?_⟩
  ·obtain ⟨k, rfl⟩ : ∃ q, k = q + 1 := ⟨k - 1, by omega⟩
   rw [xAw.l0, if_pos (by omega), if_pos hpl, if_pos (by omega), w1, h1 k (by omega), Option.bind_some, w2, w3]
   exact h2 k (by omega)
  ·obtain ⟨q1, q2⟩ := hr3 hr
   have hdr := xFr L i (by omega)
   refine ⟨q1, fun j => ?_⟩
   obtain ⟨q3, q4⟩ := q2 j
   obtain ⟨q5, q6⟩ := ht3 (by omega) j
   rw [hdr, List.map_cons, List.sum_cons]
   refine ⟨by omega, fun x hx => ?_⟩
   rcases List.mem_cons.1 hx with e | e
   ·rw [e]; exact q6
   ·exact q4 x e
theorem xHo : ∀ (s : Nat) (n : S25), SizeOf.sizeOf n ≤ s → ∀ left, 0 ≤ left → left ≤ 300 → Parts n left
 | 0, n, hs, _, _, _ => by cases n; simp at hs
 | s + 1, n, hs, left, h0, h1 => by
  obtain ⟨r, K, h2, h3, h4, h5⟩ := xGf (a0 := n.f0) (a1 := n.f1) (a2 := n.f2) (a3 := n.f3) (L := n.f4) ⟨h0, h1⟩ (fun x hx l hl0 hl1 => xHo s x (by have := xJc hx; omega) l hl0 hl1) n.f4.length 0 1 (by omega) (by omega) (by omega)
  refine ⟨r, K + 1, fun k hk => ?_, by omega, h4, fun hr j => ?_⟩
  ·obtain ⟨k, rfl⟩ : ∃ q, k = q + 1 := ⟨k - 1, by omega⟩
   rw [xAw.f]
   exact h2 k (by omega)
  ·obtain ⟨h6, h7⟩ := h5 hr
   cases j with
   | zero => exact ⟨by simp only [cnF]; omega, trivial⟩
   | succ j =>
    obtain ⟨h8, h9⟩ := h7 j
    rw [List.drop_zero] at h8 h9
    exact ⟨by simp only [cnF]; omega, by omega, h9⟩
end Go.Proofs.YtknbfhhmjbnemaaDoor.P
end
section
namespace Go.Proofs.YtknbfhhmjbnemaaDoor.P
open Go.RowKit Go.Deep Go.Proofs.YtknbfhhmjbnemaaDoorW.PrintWords Go.Proofs.YtknbfhhmjbnemaaDoorW.PrintLast Go.Proofs.YtknbfhhmjbnemaaDoorW.PrintMore Go.Proofs.YtknbfhhmjbnemaaDoor.Pure

/-! an argument that is a tree: its cells, its texts' sizes -/
def szd : Nat → S25 → Prop
 | 0, _ => True
 | k + 1, n => n.f0.size ≤ 140737488351232 ∧ n.f1.size ≤ 140737488351232 ∧ (-9223372036854775808 ≤ n.f2 ∧ n.f2 ≤ 9223372036854775807) ∧ ∀ x ∈ n.f4, szd k x
def Szd (n : S25) : Prop := ∀ k, szd k n
theorem sm_of {n : S25} (h : Szd n) (hw : ∀ j, wdF j n) : Sm n := by
 intro k
 have h1 := h k
 have h2 := hw k
 clear h hw
 induction k generalizing n with
 | zero => trivial
 | succ k ih =>
  obtain ⟨a, b, c, d⟩ := h1
  obtain ⟨e, f⟩ := h2
  exact ⟨a, b, by omega, c, fun x hx => ih (d x hx) (f x hx)⟩
theorem cellsTN : Tryd.prog.cellsOf 25 = 5 := by kernel_rfl
theorem xL4 : Tryd.prog.cellsOf 9 = 1 := by kernel_rfl
theorem xL5 : Tryd.prog.cellsOf 3 = 1 := by kernel_rfl
theorem cellsTR : Tryd.prog.cellsOf 23 = 1 := by kernel_rfl
theorem add_addN (a : Addr) (m j : Nat) : (a.add m).add j = a.add (m + j) := by
 unfold Addr.add
 by_cases h1 : m = 0
 ·subst h1; simp
 ·by_cases h2 : j = 0
  ·subst h2; simp [h1]
  ·have : ¬ m + j = 0 := by omega
   simp [h1, h2, Nat.add_assoc]
theorem xG2 {H : Type} {P : Program} {e : TypeId} : ∀ {l : List (DataW H)} {d : DataW H}, d ∈ l → ∀ n ∈ d.weights P e, n ∈ DataW.weightsAll P e l
 | d0 :: l, d, h, n, hn => by
  simp only [DataW.weightsAll, List.mem_append]
  rcases List.mem_cons.1 h with rfl | h
  ·exact Or.inl hn
  ·exact Or.inr (xG2 h n hn)
 | [], _, h, _, _ => by cases h
theorem xIi {cs : List Value} {n : Nat} {v : Value} (h : (cs.drop n).take 1 = [v]) : cs[n]? = some v := by
 have := congrArg (fun l : List Value => l[0]?) h
 simpa [List.getElem?_take, List.getElem?_drop] using this
theorem list5 {cs : List Value} (hl : cs.length = 5) {a b c d e : Value} (h0 : cs[0]? = some a) (h1 : cs[1]? = some b) (h2 : cs[2]? = some c) (h3 : cs[3]? = some d) (h4 : cs[4]? = some e) : cs = [a, b, c, d, e] := by
 match cs, hl with
 | [_, _, _, _, _], _ => simp_all
instance : Inhabited S25 := ⟨z25⟩
section
variable {H : Type} {enc : TypeId × Value → H} {w : World}
theorem op_rowN {α : Type} [Inhabited α] (d : Kd α) {t e : TypeId} (ht : Tryd.prog.underlying t = some (.slice e)) (hsz : Tryd.prog.cellsOf e = d.sz) (Q : α → Prop) {fuel : Nat}
  (hop : ∀ n, n < fuel → ∀ (cs : List Value) (x : DataW H × List MemPlace), DataW.trod enc Tryd.prog w 0 (fun _ => true) true n e cs = some x → (∀ m ∈ x.1.weights Tryd.prog e, m ≤ reachBytes) → ∃ a, d.K w a cs ∧ Q a)
  {cs : List Value} {x : DataW H × List MemPlace} (h : DataW.trod enc Tryd.prog w 0 (fun _ => true) true fuel t cs = some x) (hw : ∀ m ∈ x.1.weights Tryd.prog t, m ≤ reachBytes) :
  ∃ (A : Option Addr) (c : Nat) (xs : List α), cs = [.slice A xs.length c] ∧ xs.length ≤ c ∧ c ≤ 9223372036854775807 ∧ Kd.C d w A xs.length xs ∧ ∀ a ∈ xs, Q a := by
 rcases DataW.trod_slice ht h with ⟨hv, _⟩ | ⟨a, len, cap, elems, rest, n, hfu, hv, hx, hb, hl, hm, hlen, hel, _, _⟩
 ·exact ⟨none, 0, [], hv, Nat.le_refl _, by omega, ⟨rfl, by simp, fun h => absurd h (Nat.lt_irrefl 0)⟩, fun a ha => by cases ha⟩
 ·have hm' : cap ≤ 9223372036854775807 := by simpa [maxLen] using hm
  rw [hx] at hw
  have each : ∀ i, i < len → ∃ q : α, ∃ cs', (d.K w q cs' ∧ Q q) ∧ ∀ j u, cs'[j]? = some u → w.cell? (a.add (i * d.sz + j)) = some u := by
   intro i hi
   have key := hel i hi
   rw [List.getElem?_eq_getElem (by omega)] at key
   obtain ⟨cs', h1, h2⟩ := Option.bind_eq_some_iff.1 key
   obtain ⟨q, hq⟩ := hop n (by omega) _ _ h2 (fun m hmm => hw m (by
    simp only [DataW.weights, ht]
    exact List.mem_cons_of_mem _ (List.mem_append_left _ (xG2 (List.mem_map.2 ⟨_, List.getElem_mem _, rfl⟩) m hmm))))
   obtain ⟨_, hlen', hcell⟩ := World.cells?_some h1
   refine ⟨q, cs', hq, fun j u hj => ?_⟩
   have hjl : j < cs'.length := (List.getElem?_eq_some_iff.1 hj).1
   have := hcell j (by omega)
   rw [hsz, add_addN] at this
   rw [this, hj]
  obtain ⟨q, hq⟩ := choose_lt each
  have hlq : ((List.range len).map q).length = len := by rw [List.length_map, List.length_range]
  refine ⟨some a, cap, (List.range len).map q, by rw [hlq]; exact hv, by rw [hlq]; exact hl, hm', ⟨rfl, by rw [hlq]; omega, fun _ => ⟨a, rfl, fun j p hj => ?_⟩⟩, fun y hy => ?_⟩
  ·have hjl : j < len := by
    have := (List.getElem?_eq_some_iff.1 hj).1
    omega
   obtain rfl : q j = p := by
    rw [List.getElem?_map, List.getElem?_range hjl] at hj
    exact Option.some.inj hj
   obtain ⟨cs', hk, hc⟩ := hq j hjl
   exact ⟨cs', d.K_len hk.1, hk.1, hc⟩
  ·obtain ⟨i, hi, rfl⟩ := List.mem_map.1 hy
   obtain ⟨_, hk, _⟩ := hq i (List.mem_range.1 hi)
   exact hk.2
theorem xKn : ∀ (f fuel : Nat), fuel ≤ f → ∀ (cs : List Value) (x : DataW H × List MemPlace), DataW.trod enc Tryd.prog w 0 (fun _ => true) true fuel 25 cs = some x → (∀ m ∈ x.1.weights Tryd.prog 25, m ≤ reachBytes) → ∃ a, k25.K w a cs ∧ Szd a
 | f, fuel, hf, cs, x, h, hw => by
  obtain ⟨xs, n, hfu, hx, hl, hlen, hfl⟩ := DataW.trod_struct Tryd.underlying25 h
  rw [cellsTN] at hl
  match f, hf with
  | 0, hf => omega
  | f + 1, hf =>
  have at_ : ∀ i : Nat, i < 5 → ∃ y, xs[i]? = some y := fun i hi => ⟨_, List.getElem?_eq_getElem (by rw [hlen]; exact hi)⟩
  have row1 : ∀ {s : List Value} {v : Value} {i : Nat}, s = [v] → s = (cs.drop i).take 1 → cs[i]? = some v := fun h1 h2 => xIi (h2.symm.trans h1)
  obtain ⟨y0, z0⟩ := at_ 0 (by decide)
  obtain ⟨y1, z1⟩ := at_ 1 (by decide)
  obtain ⟨y2, z2⟩ := at_ 2 (by decide)
  obtain ⟨y3, z3⟩ := at_ 3 (by decide)
  obtain ⟨y4, z4⟩ := at_ 4 (by decide)
  have h0 := (hfl 0 _ rfl).trans z0
  have h1 := (hfl 1 _ rfl).trans z1
  have h2 := (hfl 2 _ rfl).trans z2
  have h3 := (hfl 3 _ rfl).trans z3
  have h4 := (hfl 4 _ rfl).trans z4
  have hwt : ∀ (i : Nat) (t : TypeId) y, ([9, 9, 3, 3, 23] : List TypeId)[i]? = some t → xs[i]? = some y → ∀ m ∈ y.1.weights Tryd.prog t, m ≤ reachBytes := by
   intro i t y ht hy m hm
   refine hw m ?_
   rw [hx]
   simp only [DataW.weights, Tryd.underlying25]
   exact DataW.weights_mem_each (j := i) (t := t) (d := y.1) ht (by rw [List.getElem?_map, hy]; rfl) m hm
  obtain ⟨s0, e0, d0, _⟩ := DataW.trod_string Tryd.underlying9 h0
  obtain ⟨s1, e1, d1, _⟩ := DataW.trod_string Tryd.underlying9 h1
  obtain ⟨m2, e2, d2, hr2⟩ := DataW.trod_int Tryd.underlying3 h2
  obtain ⟨m3, e3, d3, _⟩ := DataW.trod_int Tryd.underlying3 h3
  obtain ⟨A, c, L, g4, k4, _, C4, Q4⟩ := op_rowN k25 (Q := Szd) (by kernel_rfl) (by kernel_rfl) (fun n' hn' cs' x' h' hw' => xKn f n' (by omega) cs' x' h' hw') h4 (hwt 4 _ y4 rfl z4)
  have b0 : s0.size ≤ reachBytes := hwt 0 _ y0 rfl z0 _ (by rw [d0]; simp only [DataW.weights]; exact List.mem_singleton.2 rfl)
  have b1 : s1.size ≤ reachBytes := hwt 1 _ y1 rfl z1 _ (by rw [d1]; simp only [DataW.weights]; exact List.mem_singleton.2 rfl)
  have b2 : -9223372036854775808 ≤ m2 ∧ m2 ≤ 9223372036854775807 := by
   have this := hr2
   simp only [Lit.wf, Bool.and_eq_true, decide_eq_true_eq] at this
   have e1 : IntKind.min .i64 = -9223372036854775808 := by decide
   have e2 : IntKind.max .i64 = 9223372036854775807 := by decide
   rw [e1, e2] at this
   exact this
  have c0 : cs[0]? = some (.string s0) := row1 e0 (by show (cs.drop 0).take (Tryd.prog.cellsOf 9) = _; rw [xL4])
  have c1 : cs[1]? = some (.string s1) := row1 e1 (by show (cs.drop 1).take (Tryd.prog.cellsOf 9) = _; rw [xL4])
  have c2 : cs[2]? = some (.int .i64 m2) := row1 e2 (by show (cs.drop 2).take (Tryd.prog.cellsOf 3) = _; rw [xL5])
  have c3 : cs[3]? = some (.int .i64 m3) := row1 e3 (by show (cs.drop 3).take (Tryd.prog.cellsOf 3) = _; rw [xL5])
  have c4 : cs[4]? = some (.slice A L.length c) := row1 g4 (by show (cs.drop 4).take (Tryd.prog.cellsOf 23) = _; rw [cellsTR])
  rw [list5 hl c0 c1 c2 c3 c4]
  refine ⟨⟨s0, s1, m2, m3, L⟩, k25_mk w ⟨s0, s1, m2, m3, L⟩ k4 C4, fun k => ?_⟩
  cases k with
  | zero => trivial
  | succ k => exact ⟨b0, b1, b2, fun y hy => Q4 y hy k⟩
theorem open_tree {v : Value} {d : DataW H} {ps : List MemPlace} (h : DataW.Trod enc Tryd.prog w 0 (fun _ => true) true 25 v d ps) (hw : ∀ m ∈ d.weights Tryd.prog 25, m ≤ reachBytes) (hs : ∃ cs : Array Value, v = .agg cs) :
  ∃ (n : S25) (A : Option Addr) (c : Nat), v = .agg #[.string n.f0, .string n.f1, .int .i64 n.f2, .int .i64 n.f3, .slice A n.f4.length c] ∧ n.f4.length ≤ c ∧ Kd.C k25 w A n.f4.length n.f4 ∧ Szd n := by
 obtain ⟨fuel, hn⟩ := h
 obtain ⟨ag, rfl⟩ := hs
 obtain ⟨n, hK, hS⟩ := xKn fuel fuel (Nat.le_refl _) _ _ hn hw
 obtain ⟨A, c, e, hc, hC⟩ := k25_open hK
 refine ⟨n, A, c, ?_, hc, hC, hS⟩
 have hc : (Value.agg ag).cells = ag := rfl
 rw [hc] at e
 rw [show ag = #[.string n.f0, .string n.f1, .int .i64 n.f2, .int .i64 n.f3, .slice A n.f4.length c] from by rw [← Array.toArray_toList (xs := ag), e]]
end
end Go.Proofs.YtknbfhhmjbnemaaDoor.P
end
