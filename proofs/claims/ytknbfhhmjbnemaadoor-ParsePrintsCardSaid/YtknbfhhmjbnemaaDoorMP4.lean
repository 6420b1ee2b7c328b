/- Proved here, for this seat's claims: what the functions that the laws reach compute: the texts of this work, one behind the other, laid by a program of this session. Conditions: none beside the statement's own. -/
import Derived.Test.YtknbfhhmjbnemaaDoorMP1
import Derived.Test.YtknbfhhmjbnemaaDoorMP2
import Derived.Test.YtknbfhhmjbnemaaDoorMP3
import Derived.Test.YtknbfhhmjbnemaaDoorRows
import Derived.WalkKit
import Derived.ProofKit
import Derived.OpenShut
import Derived.ShutString
import Derived.ChangeOld
import Derived.Below
import Derived.SizedLaws
import Derived.HandedShaped
import Derived.LaidMore
import Derived.Lib.LaidTab
import Derived.Stop.Joined
set_option linter.unusedVariables false
set_option linter.unusedSimpArgs false
section
namespace Go.Proofs.YtknbfhhmjbnemaaDoor.P
open Go.RowKit Go.Proofs.YtknbfhhmjbnemaaDoorW.PrintWords Go.Proofs.YtknbfhhmjbnemaaDoorW.PrintLast Go.Proofs.YtknbfhhmjbnemaaDoorW.PrintMore
attribute [local go_sem] xB9 xBe

/-! ### xAy: function 15 -/
mutual
def xAy.j0 : Nat → Bool → ByteArray → ByteArray → Int → Int → List (S25) → Option (Bool)
 | 0, _, _, _, _, _, _ => none
 | k + 1, x17, x177000, x177001, x177002, x177003, x177004 => if x17 = true then (some false) else (xAy.l0 k x177004 (x177004.length : Int) 0)
def xAy.l0 : Nat → List (S25) → Int → Int → Option (Bool)
 | 0, _, _, _ => none
 | k + 1, x19, x20, x21 => if x21 < x20 then (if 0 ≤ x21 then (if x21 < (x19.length : Int) then ((xAa.f k ((xA2 x19 x21).f0) ((xA2 x19 x21).f1) ((xA2 x19 x21).f2) ((xA2 x19 x21).f3) ((xA2 x19 x21).f4)).bind fun t179 => (if t179 = true then (xAy.l0 k x19 x20 (wrap64 (x21 + 1))) else (some false))) else (none)) else (none)) else (some true)
end
def xAy.f (k : Nat) (a0_0 : ByteArray) (a0_1 : ByteArray) (a0_2 : Int) (a0_3 : Int) (l0_4 : List (S25)) : Option (Bool) := if a0_0.toList = ([102, 105, 108, 101] : List UInt8) then (if a0_1.toList = ([] : List UInt8) then (xAy.j0 k (a0_2 != 0) a0_0 a0_1 a0_2 a0_3 l0_4) else (xAy.j0 k true a0_0 a0_1 a0_2 a0_3 l0_4)) else (xAy.j0 k true a0_0 a0_1 a0_2 a0_3 l0_4)
set_option maxHeartbeats 8000000 in
set_option maxRecDepth 100000 in
theorem xAy.calls (k : Nat) (a0_0 : ByteArray) (a0_1 : ByteArray) (a0_2 : Int) (a0_3 : Int) (A0_4 : Option Addr) (c0_4 : Nat) (l0_4 : List (S25)) (r : Bool) (w : World) (hr0_4 : Kd.C k25 w A0_4 l0_4.length l0_4) (hc0_4 : l0_4.length ≤ c0_4) (h : xAy.f k a0_0 a0_1 a0_2 a0_3 l0_4 = some r) (m_ : Int) (hm_ : w.cell? ⟨0, 0, none⟩ = some (.int .i64 m_)) :
  Calls Tryd.prog 15 #[.agg #[.string a0_0, .string a0_1, .int .i64 a0_2, .int .i64 a0_3, .slice A0_4 l0_4.length c0_4]] w fun e w' => e = .returned (.bool r) ∧ Below w.heap.size w w' := by
 have hmA_ := Aside0.mk hm_
 clear hm_
 have hu25 := Tryd.underlying25
 have HR0_4 := Aside0.mk hr0_4
 have HC0_4 := Aside0.mk hc0_4
 clear hr0_4 hc0_4
 have HB := Aside0.mk (Below.refl w.heap.size w)
 have H : (if a0_0.toList = ([102, 105, 108, 101] : List UInt8) then (if a0_1.toList = ([] : List UInt8) then (xAy.j0 k (a0_2 != 0) a0_0 a0_1 a0_2 a0_3 l0_4) else (xAy.j0 k true a0_0 a0_1 a0_2 a0_3 l0_4)) else (xAy.j0 k true a0_0 a0_1 a0_2 a0_3 l0_4)) = some r := h
 clear h
 have HC2 := Aside0.mk H
 clear H
 go_enter Tryd.func15, Tryd.ntmps15
 go_upto_region 1 with (first | ((with_reducible refine xBq (N := 1) rfl ?_); refine xBm ?hg (N := 1) ?hd (cs := #[.string a0_0, .string a0_1, .int .i64 a0_2, .int .i64 a0_3, .slice A0_4 l0_4.length c0_4]) (t := 25) ?hr ?_; (case hd => rfl); (case hg => rfl); (case hr => first | (go_simp; done) | (go_simp; rfl)); intro gb176 hg w3 hbox hb; have n0_ := Aside0.mk (xAi (by repeat (first | (with_reducible first | exact HB.out | apply xA1 | apply xA0 | apply below_drew1) | exact HB.out)) hb); have n1_ := Aside0.mk (hbox); have n2_ := Aside0.mk ((by rw [hg]; exact (xAs (by repeat (first | (with_reducible first | exact HB.out | apply xA1 | apply xA0 | apply below_drew1) | exact HB.out))) : w.heap.size ≤ gb176)); have n3_ := Aside0.mk ((by rw [hg]; exact (xAs (by repeat (first | (with_reducible first | exact HB.out | apply xA1 | apply xA0 | apply below_drew1) | exact HB.out))) : w.heap.size ≤ gb176)); clear HB; have HB := n0_; have BK176 := n1_; have GW176 := n2_; have GE176 := n3_; clear n0_ n1_ n2_ n3_; clear hb hbox hg))
 (try simp only [Act.put, List.setIfInBounds_toArray, List.set_cons_zero, List.set_cons_succ])
 go_cut [17] (fun v17 wc => ∃ (kq : Nat) (x17_1 : Bool), v17 = .bool x17_1 ∧ Aside0 (xAy.j0 kq x17_1 a0_0 a0_1 a0_2 a0_3 l0_4 = some r) ∧ Aside0 (kq ≤ k) ∧ Aside0 (wc.heap[gb176]? = some (.cells #[.string a0_0, .string a0_1, .int .i64 a0_2, .int .i64 a0_3, (.slice A0_4 l0_4.length c0_4)] 25 (0, 0))) ∧ Aside0 (Below w.heap.size w wc))
 case first =>
  have H := HC2.out
  clear HC2
  by_cases c4 : a0_0.toList = ([102, 105, 108, 101] : List UInt8)
  ·rw [if_pos c4] at H
   have c4b0 : (a0_0.toList == ([102, 105, 108, 101] : List UInt8)) = true := beq_iff_eq.mpr c4
   have c4b1 : (a0_0.toList != ([102, 105, 108, 101] : List UInt8)) = false := bne_eq_false_iff_eq.mpr c4
   clear c4
   (first | rw [c4b0] | (simp only [xB0, xB1]; rw [c4b0]) | skip)
   by_cases c5 : a0_1.toList = ([] : List UInt8)
   ·rw [if_pos c5] at H
    have c5b0 : (a0_1.toList == ([] : List UInt8)) = true := beq_iff_eq.mpr c5
    have c5b1 : (a0_1.toList != ([] : List UInt8)) = false := bne_eq_false_iff_eq.mpr c5
    clear c5
    have H' := Aside0.mk H
    clear H
    obtain ⟨hcz6_0, hcz6_1, hcz6_2, hcz6_3, hcz6_4, hfz6_0, hfz6_1, hfz6_2, hfz6_3, hfz6_4⟩ := ex5 BK176.out
    go_wp2
    go_meet
    case rel => exact ⟨_, ((a0_2 != 0)), (by first | rfl | (simp; done) | (simp [*]; done)), H', ⟨by first | omega | exact Nat.le_refl _⟩, ⟨by (with_reducible repeat (first | refine xA5 ?_ _ | refine xA8 ?_ | refine xA4 ?_ _)); exact BK176.out⟩, ⟨by repeat (first | (with_reducible first | exact HB.out | apply xA1 | apply xA0 | apply below_drew1 | refine xA6 ?_ GE176.out) | exact HB.out)⟩⟩
   ·rw [if_neg c5] at H
    have c5b0 : (a0_1.toList == ([] : List UInt8)) = false := beq_eq_false_iff_ne.mpr c5
    have c5b1 : (a0_1.toList != ([] : List UInt8)) = true := bne_iff_ne.mpr c5
    have H' := Aside0.mk H
    clear H
    obtain ⟨hcz7_0, hcz7_1, hcz7_2, hcz7_3, hcz7_4, hfz7_0, hfz7_1, hfz7_2, hfz7_3, hfz7_4⟩ := ex5 BK176.out
    go_wp2
    go_meet
    case rel => exact ⟨_, (true), (by first | rfl | (simp; done) | (simp [*]; done)), H', ⟨by first | omega | exact Nat.le_refl _⟩, ⟨by (with_reducible repeat (first | refine xA5 ?_ _ | refine xA8 ?_ | refine xA4 ?_ _)); exact BK176.out⟩, ⟨by repeat (first | (with_reducible first | exact HB.out | apply xA1 | apply xA0 | apply below_drew1 | refine xA6 ?_ GE176.out) | exact HB.out)⟩⟩
  ·rw [if_neg c4] at H
   have c4b0 : (a0_0.toList == ([102, 105, 108, 101] : List UInt8)) = false := beq_eq_false_iff_ne.mpr c4
   have c4b1 : (a0_0.toList != ([102, 105, 108, 101] : List UInt8)) = true := bne_iff_ne.mpr c4
   (first | rw [c4b0] | (simp only [xB0, xB1]; rw [c4b0]) | skip)
   have H' := Aside0.mk H
   clear H
   obtain ⟨hcz8_0, hcz8_1, hcz8_2, hcz8_3, hcz8_4, hfz8_0, hfz8_1, hfz8_2, hfz8_3, hfz8_4⟩ := ex5 BK176.out
   go_wp2
   go_meet
   case rel => exact ⟨_, (true), (by first | rfl | (simp; done) | (simp [*]; done)), H', ⟨by first | omega | exact Nat.le_refl _⟩, ⟨by (with_reducible repeat (first | refine xA5 ?_ _ | refine xA8 ?_ | refine xA4 ?_ _)); exact BK176.out⟩, ⟨by repeat (first | (with_reducible first | exact HB.out | apply xA1 | apply xA0 | apply below_drew1 | refine xA6 ?_ GE176.out) | exact HB.out)⟩⟩
 case rest =>
  clear HC2
  try clear c1
  try clear p2
  try clear c4
  try clear c4b0
  try clear c4b1
  try clear c5
  try clear c5b0
  try clear c5b1
  try clear hcz6_0 hcz6_1 hcz6_2 hcz6_3 hcz6_4
  try clear hcz7_0 hcz7_1 hcz7_2 hcz7_3 hcz7_4
  try clear hcz8_0 hcz8_1 hcz8_2 hcz8_3 hcz8_4
  try clear hfz6_0 hfz6_1 hfz6_2 hfz6_3 hfz6_4
  try clear hfz7_0 hfz7_1 hfz7_2 hfz7_3 hfz7_4
  try clear hfz8_0 hfz8_1 hfz8_2 hfz8_3 hfz8_4
  obtain ⟨kq, x17_1, rfl, HA, HJ1, BK176, HB⟩ := hcut
  cases kq with
  | zero => exact absurd HA.out (by simp [xAy.j0])
  | succ kj1 =>
   have H := HA.out
   clear HA
   simp only [xAy.j0] at H
   by_cases c9 : x17_1 = true
   ·subst c9
    have H1 : (some false) = some r := by rw [if_pos rfl] at H; exact H
    clear H
    have H := H1
    clear H1
    obtain rfl := Option.some.inj H
    go_wp2
    go_ret
    exact ⟨by first | rfl | (simp <;> rfl) | (simp [*] <;> rfl), by repeat (first | (with_reducible first | exact HB.out | apply xA1 | apply xA0 | apply below_drew1 | refine xA6 ?_ GE176.out) | exact HB.out)⟩
   ·replace c9 := Bool.eq_false_iff.mpr c9
    subst c9
    have H1 : (xAy.l0 kj1 l0_4 (l0_4.length : Int) 0) = some r := by rw [if_neg (show ¬ (false = true) by decide)] at H; exact H
    clear H
    have H := H1
    clear H1
    have H' := Aside0.mk H
    clear H
    obtain ⟨hcz10_0, hcz10_1, hcz10_2, hcz10_3, hcz10_4, hfz10_0, hfz10_1, hfz10_2, hfz10_3, hfz10_4⟩ := ex5 BK176.out
    go_wp2
    go_loopg [21] kj1 (fun kq v21 w' => ∃ (x21_2 : Int), v21 = .int .i64 x21_2 ∧ Aside0 (xAy.l0 kq l0_4 (l0_4.length : Int) x21_2 = some r) ∧ Aside0 (kq ≤ kj1) ∧ Aside0 (w'.heap[gb176]? = some (.cells #[.string a0_0, .string a0_1, .int .i64 a0_2, .int .i64 a0_3, (.slice A0_4 l0_4.length c0_4)] 25 (0, 0))) ∧ Aside0 (Below w.heap.size w w'))
    case atStart => exact ⟨(0), (by first | rfl | (simp; done) | (simp [*]; done)), H', ⟨Nat.le_refl _⟩, ⟨by (with_reducible repeat (first | refine xA5 ?_ _ | refine xA8 ?_ | refine xA4 ?_ _)); exact BK176.out⟩, ⟨by repeat (first | (with_reducible first | exact HB.out | apply xA1 | apply xA0 | apply below_drew1 | refine xA6 ?_ GE176.out) | exact HB.out)⟩⟩
    case round =>
     clear H'
     try clear c1
     try clear p2
     try clear c4
     try clear c4b0
     try clear c4b1
     try clear c5
     try clear c5b0
     try clear c5b1
     try clear c9
     try clear hcz10_0 hcz10_1 hcz10_2 hcz10_3 hcz10_4
     try clear hcz6_0 hcz6_1 hcz6_2 hcz6_3 hcz6_4
     try clear hcz7_0 hcz7_1 hcz7_2 hcz7_3 hcz7_4
     try clear hcz8_0 hcz8_1 hcz8_2 hcz8_3 hcz8_4
     try clear hfz10_0 hfz10_1 hfz10_2 hfz10_3 hfz10_4
     try clear hfz6_0 hfz6_1 hfz6_2 hfz6_3 hfz6_4
     try clear hfz7_0 hfz7_1 hfz7_2 hfz7_3 hfz7_4
     try clear hfz8_0 hfz8_1 hfz8_2 hfz8_3 hfz8_4
     try clear p2
     obtain ⟨x21_2, rfl, HA, HK2, BK176, HB⟩ := hrel
     cases gk with
     | zero => exact absurd HA.out (by simp [xAy.l0])
     | succ k2 =>
      have H := HA.out
      clear HA
      simp only [xAy.l0] at H
      by_cases c11 : x21_2 < (l0_4.length : Int)
      ·rw [if_pos c11] at H
       have c11b0 : decide (x21_2 < (l0_4.length : Int)) = true := decide_eq_true c11
       clear c11
       by_cases c12 : 0 ≤ x21_2
       ·rw [if_pos c12] at H
        have c12b0 : decide (0 ≤ x21_2) = true := decide_eq_true c12
        clear c12
        by_cases c13 : x21_2 < (l0_4.length : Int)
        ·rw [if_pos c13] at H
         have c13b0 : decide (x21_2 < (l0_4.length : Int)) = true := decide_eq_true c13
         clear c13
         replace H := Option.bind_eq_some_iff.mp H
         obtain ⟨t179, A140, H⟩ := H
         replace H : (if t179 = true then (xAy.l0 k2 l0_4 (l0_4.length : Int) (wrap64 (x21_2 + 1))) else (some false)) = some r := H
         have A14 := Aside0.mk A140
         clear A140
         by_cases c15 : t179 = true
         ·subst c15
          have H1 : (xAy.l0 k2 l0_4 (l0_4.length : Int) (wrap64 (x21_2 + 1))) = some r := by rw [if_pos rfl] at H; exact H
          clear H
          have H := H1
          clear H1
          have H' := Aside0.mk H
          clear H
          have p177 : 0 ≤ (x21_2 : Int) := of_decide_eq_true (by first | (with_reducible assumption) | assumption)
          have q177 : x21_2 < (l0_4.length : Int) := of_decide_eq_true (by first | (with_reducible assumption) | assumption)
          obtain ⟨ad177, A177_4, c177_4, e177, hx177_0, hx177_1, hx177_2, hx177_3, hx177_4, hl177_4, hi177_4⟩ := xC3 HR0_4.out x21_2 p177 q177
          cases e177
          replace hx177_0 := (HB.out.cell (World.block_lt_of_cell? w _ hx177_0)).trans hx177_0
          replace hx177_1 := (HB.out.cell (World.block_lt_of_cell? w _ hx177_1)).trans hx177_1
          replace hx177_2 := (HB.out.cell (World.block_lt_of_cell? w _ hx177_2)).trans hx177_2
          replace hx177_3 := (HB.out.cell (World.block_lt_of_cell? w _ hx177_3)).trans hx177_3
          replace hx177_4 := (HB.out.cell (World.block_lt_of_cell? w _ hx177_4)).trans hx177_4
          have HR177_4 := Aside0.mk hi177_4
          have HC177_4 := Aside0.mk hl177_4
          clear hi177_4 hl177_4
          replace p177 := eq_true p177
          replace q177 := eq_true q177
          go_wp2_with (first | ((with_reducible refine xBq (N := 4) rfl ?_); refine xBm ?hg (N := 4) ?hd (cs := #[.string (⟨#[]⟩ : ByteArray), .string (⟨#[]⟩ : ByteArray), .int .i64 0, .int .i64 0, .slice none 0 0]) (t := 25) ?hr ?_; (case hd => rfl); (case hg => rfl); (case hr => first | (go_simp; done) | (go_simp; rfl)); intro gb178 hg w16 hbox hb; have n0_ := Aside0.mk (xAt (g := gb176) (o := .cells #[.string a0_0, .string a0_1, .int .i64 a0_2, .int .i64 a0_3, .slice (some ad177) l0_4.length c0_4] 25 (0, 0)) (by (with_reducible repeat (first | refine xA5 ?_ _ | refine xA8 ?_ | refine xA4 ?_ _)); exact BK176.out) hb); have n1_ := Aside0.mk (xAi (by repeat (first | (with_reducible first | exact HB.out | apply xA1 | apply xA0 | apply below_drew1 | refine xA6 ?_ GE176.out) | exact HB.out)) hb); have n2_ := Aside0.mk (hbox); have n3_ := Aside0.mk ((by rw [hg]; exact (xAs (by repeat (first | (with_reducible first | exact HB.out | apply xA1 | apply xA0 | apply below_drew1 | refine xA6 ?_ GE176.out) | exact HB.out))) : w.heap.size ≤ gb178)); have n4_ := Aside0.mk ((by rw [hg]; exact (xAs (by repeat (first | (with_reducible first | exact HB.out | apply xA1 | apply xA0 | apply below_drew1 | refine xA6 ?_ GE176.out) | exact HB.out))) : w.heap.size ≤ gb178)); have n5_ := Aside0.mk ((by rw [hg]; exact Nat.ne_of_lt (xBx (g := gb176) (o := .cells #[.string a0_0, .string a0_1, .int .i64 a0_2, .int .i64 a0_3, .slice (some ad177) l0_4.length c0_4] 25 (0, 0)) (by (with_reducible repeat (first | refine xA5 ?_ _ | refine xA8 ?_ | refine xA4 ?_ _)); exact BK176.out)) : gb176 ≠ gb178)); have n6_ := Aside0.mk ((by rw [hg]; exact Nat.ne_of_gt (xBx (g := gb176) (o := .cells #[.string a0_0, .string a0_1, .int .i64 a0_2, .int .i64 a0_3, .slice (some ad177) l0_4.length c0_4] 25 (0, 0)) (by (with_reducible repeat (first | refine xA5 ?_ _ | refine xA8 ?_ | refine xA4 ?_ _)); exact BK176.out)) : gb178 ≠ gb176)); clear BK176; clear HB; have BK176 := n0_; have HB := n1_; have BK178 := n2_; have GW178 := n3_; have GE178 := n4_; have NB176_178 := n5_; have NB178_176 := n6_; clear n0_ n1_ n2_ n3_ n4_ n5_ n6_; clear hb hbox hg; have hnb17 := NB178_176.out; have hnc17 := NB176_178.out; obtain ⟨hcz18_0, hcz18_1, hcz18_2, hcz18_3, hcz18_4, hfz18_0, hfz18_1, hfz18_2, hfz18_3, hfz18_4⟩ := ex5 BK178.out) | ((with_reducible refine xAj (f := 26) rfl ?_); refine xB6 (some 26) rfl rfl Tryd.func26 (by kernel_rfl) rfl #[.agg #[.string ((xA2 l0_4 x21_2).f0), .string ((xA2 l0_4 x21_2).f1), .int .i64 ((xA2 l0_4 x21_2).f2), .int .i64 ((xA2 l0_4 x21_2).f3), .slice A177_4 ((xA2 l0_4 x21_2).f4).length c177_4]] rfl (by (try simp only [List.map_toArray, List.map_cons, List.map_nil]); first | done | rfl | (simp only [List.length_drop, List.length_take]; rfl)) ?_; (with_reducible refine (xAa.calls k2 ((xA2 l0_4 x21_2).f0) ((xA2 l0_4 x21_2).f1) ((xA2 l0_4 x21_2).f2) ((xA2 l0_4 x21_2).f3) _ _ ((xA2 l0_4 x21_2).f4) true _ ?side1 ?side2 A14.out m_ (by first | (with_reducible exact hmA_.out) | exact xC4 hmA_.out (by repeat (first | (with_reducible first | exact HB.out | apply xA1 | apply xA0 | apply below_drew1 | refine xA6 ?_ GE176.out | refine xA6 ?_ GE178.out) | exact HB.out)) | (repeat (first | exact hmA_.out | refine xBu ?_ | refine mlen_drew ?_)))).mono ?_); (case side1 => exact Kd.C_below HR177_4.out (by repeat (first | (with_reducible first | exact HB.out | apply xA1 | apply xA0 | apply below_drew1 | refine xA6 ?_ GE176.out | refine xA6 ?_ GE178.out) | exact HB.out))); (case side2 => exact HC177_4.out); rintro e w19 ⟨rfl, hb⟩; refine ⟨_, rfl, ?_⟩; have n0_ := Aside0.mk (xAt (g := gb176) (o := .cells #[.string a0_0, .string a0_1, .int .i64 a0_2, .int .i64 a0_3, .slice (some ad177) l0_4.length c0_4] 25 (0, 0)) (by (with_reducible repeat (first | refine xA5 ?_ _ | refine xA8 ?_ | refine xA4 ?_ _)); refine xAk ?_ NB176_178.out _; (with_reducible repeat (first | refine xA5 ?_ _ | refine xA8 ?_ | refine xA4 ?_ _)); refine xAk ?_ NB176_178.out _; (with_reducible repeat (first | refine xA5 ?_ _ | refine xA8 ?_ | refine xA4 ?_ _)); refine xAk ?_ NB176_178.out _; (with_reducible repeat (first | refine xA5 ?_ _ | refine xA8 ?_ | refine xA4 ?_ _)); refine xAk ?_ NB176_178.out _; (with_reducible repeat (first | refine xA5 ?_ _ | refine xA8 ?_ | refine xA4 ?_ _)); refine xAk ?_ NB176_178.out _; (with_reducible repeat (first | refine xA5 ?_ _ | refine xA8 ?_ | refine xA4 ?_ _)); exact BK176.out) hb); have n1_ := Aside0.mk (xAt (g := gb178) (o := .cells #[.string ((xA2 l0_4 x21_2).f0), .string ((xA2 l0_4 x21_2).f1), .int .i64 ((xA2 l0_4 x21_2).f2), .int .i64 ((xA2 l0_4 x21_2).f3), .slice A177_4 ((xA2 l0_4 x21_2).f4).length c177_4] 25 (0, 0)) (by (with_reducible repeat (first | refine xA5 ?_ _ | refine xA8 ?_ | refine xA4 ?_ _)); refine xAh (cs := #[.string ((xA2 l0_4 x21_2).f0), .string ((xA2 l0_4 x21_2).f1), .int .i64 ((xA2 l0_4 x21_2).f2), .int .i64 ((xA2 l0_4 x21_2).f3), .slice none 0 0]) ?_ 4 _ rfl; (with_reducible repeat (first | refine xA5 ?_ _ | refine xA8 ?_ | refine xA4 ?_ _)); refine xAh (cs := #[.string ((xA2 l0_4 x21_2).f0), .string ((xA2 l0_4 x21_2).f1), .int .i64 ((xA2 l0_4 x21_2).f2), .int .i64 0, .slice none 0 0]) ?_ 3 _ rfl; (with_reducible repeat (first | refine xA5 ?_ _ | refine xA8 ?_ | refine xA4 ?_ _)); refine xAh (cs := #[.string ((xA2 l0_4 x21_2).f0), .string ((xA2 l0_4 x21_2).f1), .int .i64 0, .int .i64 0, .slice none 0 0]) ?_ 2 _ rfl; (with_reducible repeat (first | refine xA5 ?_ _ | refine xA8 ?_ | refine xA4 ?_ _)); refine xAh (cs := #[.string ((xA2 l0_4 x21_2).f0), .string (⟨#[]⟩ : ByteArray), .int .i64 0, .int .i64 0, .slice none 0 0]) ?_ 1 _ rfl; (with_reducible repeat (first | refine xA5 ?_ _ | refine xA8 ?_ | refine xA4 ?_ _)); refine xAh (cs := #[.string (⟨#[]⟩ : ByteArray), .string (⟨#[]⟩ : ByteArray), .int .i64 0, .int .i64 0, .slice none 0 0]) ?_ 0 _ rfl; (with_reducible repeat (first | refine xA5 ?_ _ | refine xA8 ?_ | refine xA4 ?_ _)); exact BK178.out) hb); have n2_ := Aside0.mk (xAi (by repeat (first | (with_reducible first | exact HB.out | apply xA1 | apply xA0 | apply below_drew1 | refine xA6 ?_ GE176.out | refine xA6 ?_ GE178.out) | exact HB.out)) hb); clear BK176; clear BK178; clear HB; have BK176 := n0_; have BK178 := n1_; have HB := n2_; clear n0_ n1_ n2_; (try clear hb); (try clear hb2); (try clear hk); (try clear hi)))
          go_roundg k2
          case measure => have := HJ1.out; have := HK2.out; omega
          case rel => exact ⟨(wrap64 (x21_2 + 1)), (by first | rfl | (simp; done) | (simp [*]; done)), H', ⟨by have := HJ1.out; have := HK2.out; omega⟩, ⟨by (with_reducible repeat (first | refine xA5 ?_ _ | refine xA8 ?_ | refine xA4 ?_ _)); exact BK176.out⟩, ⟨by repeat (first | (with_reducible first | exact HB.out | apply xA1 | apply xA0 | apply below_drew1 | refine xA6 ?_ GE176.out | refine xA6 ?_ GE178.out) | exact HB.out)⟩⟩
         ·replace c15 := Bool.eq_false_iff.mpr c15
          subst c15
          have H1 : (some false) = some r := by rw [if_neg (show ¬ (false = true) by decide)] at H; exact H
          clear H
          have H := H1
          clear H1
          obtain rfl := Option.some.inj H
          have p177 : 0 ≤ (x21_2 : Int) := of_decide_eq_true (by first | (with_reducible assumption) | assumption)
          have q177 : x21_2 < (l0_4.length : Int) := of_decide_eq_true (by first | (with_reducible assumption) | assumption)
          obtain ⟨ad177, A177_4, c177_4, e177, hx177_0, hx177_1, hx177_2, hx177_3, hx177_4, hl177_4, hi177_4⟩ := xC3 HR0_4.out x21_2 p177 q177
          cases e177
          replace hx177_0 := (HB.out.cell (World.block_lt_of_cell? w _ hx177_0)).trans hx177_0
          replace hx177_1 := (HB.out.cell (World.block_lt_of_cell? w _ hx177_1)).trans hx177_1
          replace hx177_2 := (HB.out.cell (World.block_lt_of_cell? w _ hx177_2)).trans hx177_2
          replace hx177_3 := (HB.out.cell (World.block_lt_of_cell? w _ hx177_3)).trans hx177_3
          replace hx177_4 := (HB.out.cell (World.block_lt_of_cell? w _ hx177_4)).trans hx177_4
          have HR177_4 := Aside0.mk hi177_4
          have HC177_4 := Aside0.mk hl177_4
          clear hi177_4 hl177_4
          replace p177 := eq_true p177
          replace q177 := eq_true q177
          go_wp2_with (first | ((with_reducible refine xBq (N := 4) rfl ?_); refine xBm ?hg (N := 4) ?hd (cs := #[.string (⟨#[]⟩ : ByteArray), .string (⟨#[]⟩ : ByteArray), .int .i64 0, .int .i64 0, .slice none 0 0]) (t := 25) ?hr ?_; (case hd => rfl); (case hg => rfl); (case hr => first | (go_simp; done) | (go_simp; rfl)); intro gb178 hg w20 hbox hb; have n0_ := Aside0.mk (xAt (g := gb176) (o := .cells #[.string a0_0, .string a0_1, .int .i64 a0_2, .int .i64 a0_3, .slice (some ad177) l0_4.length c0_4] 25 (0, 0)) (by (with_reducible repeat (first | refine xA5 ?_ _ | refine xA8 ?_ | refine xA4 ?_ _)); exact BK176.out) hb); have n1_ := Aside0.mk (xAi (by repeat (first | (with_reducible first | exact HB.out | apply xA1 | apply xA0 | apply below_drew1 | refine xA6 ?_ GE176.out) | exact HB.out)) hb); have n2_ := Aside0.mk (hbox); have n3_ := Aside0.mk ((by rw [hg]; exact (xAs (by repeat (first | (with_reducible first | exact HB.out | apply xA1 | apply xA0 | apply below_drew1 | refine xA6 ?_ GE176.out) | exact HB.out))) : w.heap.size ≤ gb178)); have n4_ := Aside0.mk ((by rw [hg]; exact (xAs (by repeat (first | (with_reducible first | exact HB.out | apply xA1 | apply xA0 | apply below_drew1 | refine xA6 ?_ GE176.out) | exact HB.out))) : w.heap.size ≤ gb178)); have n5_ := Aside0.mk ((by rw [hg]; exact Nat.ne_of_lt (xBx (g := gb176) (o := .cells #[.string a0_0, .string a0_1, .int .i64 a0_2, .int .i64 a0_3, .slice (some ad177) l0_4.length c0_4] 25 (0, 0)) (by (with_reducible repeat (first | refine xA5 ?_ _ | refine xA8 ?_ | refine xA4 ?_ _)); exact BK176.out)) : gb176 ≠ gb178)); have n6_ := Aside0.mk ((by rw [hg]; exact Nat.ne_of_gt (xBx (g := gb176) (o := .cells #[.string a0_0, .string a0_1, .int .i64 a0_2, .int .i64 a0_3, .slice (some ad177) l0_4.length c0_4] 25 (0, 0)) (by (with_reducible repeat (first | refine xA5 ?_ _ | refine xA8 ?_ | refine xA4 ?_ _)); exact BK176.out)) : gb178 ≠ gb176)); clear BK176; clear HB; have BK176 := n0_; have HB := n1_; have BK178 := n2_; have GW178 := n3_; have GE178 := n4_; have NB176_178 := n5_; have NB178_176 := n6_; clear n0_ n1_ n2_ n3_ n4_ n5_ n6_; clear hb hbox hg; have hnb21 := NB178_176.out; have hnc21 := NB176_178.out; obtain ⟨hcz22_0, hcz22_1, hcz22_2, hcz22_3, hcz22_4, hfz22_0, hfz22_1, hfz22_2, hfz22_3, hfz22_4⟩ := ex5 BK178.out) | ((with_reducible refine xAj (f := 26) rfl ?_); refine xB6 (some 26) rfl rfl Tryd.func26 (by kernel_rfl) rfl #[.agg #[.string ((xA2 l0_4 x21_2).f0), .string ((xA2 l0_4 x21_2).f1), .int .i64 ((xA2 l0_4 x21_2).f2), .int .i64 ((xA2 l0_4 x21_2).f3), .slice A177_4 ((xA2 l0_4 x21_2).f4).length c177_4]] rfl (by (try simp only [List.map_toArray, List.map_cons, List.map_nil]); first | done | rfl | (simp only [List.length_drop, List.length_take]; rfl)) ?_; (with_reducible refine (xAa.calls k2 ((xA2 l0_4 x21_2).f0) ((xA2 l0_4 x21_2).f1) ((xA2 l0_4 x21_2).f2) ((xA2 l0_4 x21_2).f3) _ _ ((xA2 l0_4 x21_2).f4) false _ ?side1 ?side2 A14.out m_ (by first | (with_reducible exact hmA_.out) | exact xC4 hmA_.out (by repeat (first | (with_reducible first | exact HB.out | apply xA1 | apply xA0 | apply below_drew1 | refine xA6 ?_ GE176.out | refine xA6 ?_ GE178.out) | exact HB.out)) | (repeat (first | exact hmA_.out | refine xBu ?_ | refine mlen_drew ?_)))).mono ?_); (case side1 => exact Kd.C_below HR177_4.out (by repeat (first | (with_reducible first | exact HB.out | apply xA1 | apply xA0 | apply below_drew1 | refine xA6 ?_ GE176.out | refine xA6 ?_ GE178.out) | exact HB.out))); (case side2 => exact HC177_4.out); rintro e w23 ⟨rfl, hb⟩; refine ⟨_, rfl, ?_⟩; have n0_ := Aside0.mk (xAt (g := gb176) (o := .cells #[.string a0_0, .string a0_1, .int .i64 a0_2, .int .i64 a0_3, .slice (some ad177) l0_4.length c0_4] 25 (0, 0)) (by (with_reducible repeat (first | refine xA5 ?_ _ | refine xA8 ?_ | refine xA4 ?_ _)); refine xAk ?_ NB176_178.out _; (with_reducible repeat (first | refine xA5 ?_ _ | refine xA8 ?_ | refine xA4 ?_ _)); refine xAk ?_ NB176_178.out _; (with_reducible repeat (first | refine xA5 ?_ _ | refine xA8 ?_ | refine xA4 ?_ _)); refine xAk ?_ NB176_178.out _; (with_reducible repeat (first | refine xA5 ?_ _ | refine xA8 ?_ | refine xA4 ?_ _)); refine xAk ?_ NB176_178.out _; (with_reducible repeat (first | refine xA5 ?_ _ | refine xA8 ?_ | refine xA4 ?_ _)); refine xAk ?_ NB176_178.out _; (with_reducible repeat (first | refine xA5 ?_ _ | refine xA8 ?_ | refine xA4 ?_ _)); exact BK176.out) hb); have n1_ := Aside0.mk (xAt (g := gb178) (o := .cells #[.string ((xA2 l0_4 x21_2).f0), .string ((xA2 l0_4 x21_2).f1), .int .i64 ((xA2 l0_4 x21_2).f2), .int .i64 ((xA2 l0_4 x21_2).f3), .slice A177_4 ((xA2 l0_4 x21_2).f4).length c177_4] 25 (0, 0)) (by (with_reducible repeat (first | refine xA5 ?_ _ | refine xA8 ?_ | refine xA4 ?_ _)); refine xAh (cs := #[.string ((xA2 l0_4 x21_2).f0), .string ((xA2 l0_4 x21_2).f1), .int .i64 ((xA2 l0_4 x21_2).f2), .int .i64 ((xA2 l0_4 x21_2).f3), .slice none 0 0]) ?_ 4 _ rfl; (with_reducible repeat (first | refine xA5 ?_ _ | refine xA8 ?_ | refine xA4 ?_ _)); refine xAh (cs := #[.string ((xA2 l0_4 x21_2).f0), .string ((xA2 l0_4 x21_2).f1), .int .i64 ((xA2 l0_4 x21_2).f2), .int .i64 0, .slice none 0 0]) ?_ 3 _ rfl; (with_reducible repeat (first | refine xA5 ?_ _ | refine xA8 ?_ | refine xA4 ?_ _)); refine xAh (cs := #[.string ((xA2 l0_4 x21_2).f0), .string ((xA2 l0_4 x21_2).f1), .int .i64 0, .int .i64 0, .slice none 0 0]) ?_ 2 _ rfl; (with_reducible repeat (first | refine xA5 ?_ _ | refine xA8 ?_ | refine xA4 ?_ _)); refine xAh (cs := #[.string ((xA2 l0_4 x21_2).f0), .string (⟨#[]⟩ : ByteArray), .int .i64 0, .int .i64 0, .slice none 0 0]) ?_ 1 _ rfl; (with_reducible repeat (first | refine xA5 ?_ _ | refine xA8 ?_ | refine xA4 ?_ _)); refine xAh (cs := #[.string (⟨#[]⟩ : ByteArray), .string (⟨#[]⟩ : ByteArray), .int .i64 0, .int .i64 0, .slice none 0 0]) ?_ 0 _ rfl; (with_reducible repeat (first | refine xA5 ?_ _ | refine xA8 ?_ | refine xA4 ?_ _)); exact BK178.out) hb); have n2_ := Aside0.mk (xAi (by repeat (first | (with_reducible first | exact HB.out | apply xA1 | apply xA0 | apply below_drew1 | refine xA6 ?_ GE176.out | refine xA6 ?_ GE178.out) | exact HB.out)) hb); clear BK176; clear BK178; clear HB; have BK176 := n0_; have BK178 := n1_; have HB := n2_; clear n0_ n1_ n2_; (try clear hb); (try clear hb2); (try clear hk); (try clear hi)))
          go_ret
          exact ⟨by first | rfl | (simp <;> rfl) | (simp [*] <;> rfl), by repeat (first | (with_reducible first | exact HB.out | apply xA1 | apply xA0 | apply below_drew1 | refine xA6 ?_ GE176.out | refine xA6 ?_ GE178.out) | exact HB.out)⟩
        ·rw [if_neg c13] at H
         exact absurd H (by simp)
       ·rw [if_neg c12] at H
        exact absurd H (by simp)
      ·rw [if_neg c11] at H
       have c11b0 : decide (x21_2 < (l0_4.length : Int)) = false := decide_eq_false c11
       clear c11
       obtain rfl := Option.some.inj H
       go_wp2
       go_ret
       exact ⟨by first | rfl | (simp <;> rfl) | (simp [*] <;> rfl), by repeat (first | (with_reducible first | exact HB.out | apply xA1 | apply xA0 | apply below_drew1 | refine xA6 ?_ GE176.out) | exact HB.out)⟩

end Go.Proofs.YtknbfhhmjbnemaaDoor.P
end
section
namespace Go.Proofs.YtknbfhhmjbnemaaDoor.P
open Go.RowKit Go.Proofs.YtknbfhhmjbnemaaDoorW.PrintWords Go.Proofs.YtknbfhhmjbnemaaDoorW.PrintLast Go.Proofs.YtknbfhhmjbnemaaDoorW.PrintMore

theorem xJ6 (k : Nat) (ih : WrOk k) : WrOk (k + 1) := by
 intro w0 w b n A c l t hI h hlen
 rw [xBw] at h
 by_cases hb : n.f4.length ≤ 1000000 ∧ -9223372036854775808 ≤ n.f2 ∧ n.f2 ≤ 9223372036854775807
 case neg => rw [if_neg hb] at h; cases h
 rw [if_pos hb] at h
 obtain ⟨h4, h2⟩ := hb
 by_cases h0 : n.f0.toList = ([117, 115, 101] : List UInt8) ∨ n.f0.toList = ([110, 97, 109, 101] : List UInt8)
 ·rw [if_pos h0] at h
  have h := (Option.some.inj h).symm
  rcases h0 with h0 | h0
  ·exact wr_use k ih w0 w b n A c l t hI h2 h4 h0 h hlen
  ·exact wr_name k ih w0 w b n A c l t hI h2 h4 h0 h hlen
 rw [if_neg h0] at h
 by_cases h1 : n.f0.toList = ([110, 117, 109] : List UInt8)
 ·rw [if_pos h1] at h
  exact wr_num k ih w0 w b n A c l t hI h2 h4 h1 (Option.some.inj h).symm hlen
 rw [if_neg h1] at h
 by_cases h3 : n.f0.toList = ([104, 101, 120] : List UInt8)
 ·rw [if_pos h3] at h
  exact wr_hex k ih w0 w b n A c l t hI h2 h4 h3 (Option.some.inj h).symm hlen
 rw [if_neg h3] at h
 by_cases h5 : n.f0.toList = ([102, 105, 108, 101] : List UInt8)
 ·rw [if_pos h5] at h
  exact wr_file k ih w0 w b n A c l t hI h2 h4 h5 h hlen
 rw [if_neg h5] at h
 by_cases h6 : n.f0.toList = ([100, 101, 118, 105, 99, 101] : List UInt8) ∨ n.f0.toList = ([106, 111, 117, 114, 110, 97, 108] : List UInt8)
 ·rw [if_pos h6] at h
  have h := (Option.some.inj h).symm
  rcases h6 with h6 | h6
  ·exact xK4 k ih w0 w b n A c l t hI h2 h4 h6 h hlen
  ·exact xJ7 k ih w0 w b n A c l t hI h2 h4 h6 h hlen
 rw [if_neg h6] at h
 by_cases h7 : n.f0.toList = ([107, 101, 121] : List UInt8) ∨ n.f0.toList = ([114, 111, 111, 116] : List UInt8)
 ·rw [if_pos h7] at h
  obtain ⟨tx, hx, ht⟩ := Option.bind_eq_some_iff.1 h
  have ht := (Option.some.inj ht).symm
  rcases h7 with h7 | h7
  ·exact wr_key k ih w0 w b n A c l t hI h2 h4 h7 tx hx ht hlen
  ·exact wr_root k ih w0 w b n A c l t hI h2 h4 h7 tx hx ht hlen
 rw [if_neg h7] at h
 by_cases h8 : n.f0.toList = ([118, 111, 108, 117, 109, 101] : List UInt8)
 ·rw [if_pos h8] at h
  obtain ⟨tx, hx, ht⟩ := Option.bind_eq_some_iff.1 h
  exact xK2 k ih w0 w b n A c l t hI h2 h4 h8 tx hx (Option.some.inj ht).symm hlen
 rw [if_neg h8] at h
 by_cases h9 : n.f0.toList = ([101, 120, 112, 111, 114, 116] : List UInt8)
 ·rw [if_pos h9] at h
  have h := (Option.some.inj h).symm
  by_cases hf : n.f2 = 1
  ·rw [if_pos hf] at h
   exact xJ8 k ih w0 w b n A c l t hI h2 h4 h9 (by simpa using hf) h hlen
  ·rw [if_neg hf] at h
   exact xJ9 k ih w0 w b n A c l t hI h2 h4 h9 (by simpa using hf) h hlen
 rw [if_neg h9] at h
 obtain ⟨tx, hx, ht⟩ := Option.bind_eq_some_iff.1 h
 exact xK3 k ih w0 w b n A c l t hI h2 h4 (fun e => h0 (.inl e)) (fun e => h0 (.inr e)) h1 h3 h5 (fun e => h6 (.inl e)) (fun e => h6 (.inr e)) (fun e => h7 (.inl e)) (fun e => h7 (.inr e)) h8 h9 tx hx (Option.some.inj ht).symm hlen
theorem xH7 : ∀ k, WrOk k
 | 0 => fun w0 w b n A c l t hI h hlen => by simp [xBw] at h
 | k + 1 => xJ6 k (xH7 k)
/-- What Print hands back. -/
def xFj (k : Nat) (n : S25) : Option (ByteArray × Int) := (xAy.f k n.f0 n.f1 n.f2 n.f3 n.f4).bind fun r => if r = true then (xBw k n).bind fun t => if t.length ≤ 1000000000 then some (⟨t.toArray⟩, 0) else none else some (⟨#[]⟩, 111)
theorem bld_new (W : World) : Bld W.heap.size W.heap.size [] (W.alloc (.cells #[.pointer none, .slice none 0 0] 52 (0, 0))) :=
 .inl ⟨Nat.le_refl _, .slice none 0 0, xBn _ _, ⟨rfl, .inl ⟨rfl, rfl⟩⟩, by simp [Value.ownBlock]⟩
theorem xHb {w w1 : World} (h : Lib.TabIs Tryd.prog w "internal/strconv.uint64pow10" .u64 Lib.pow10Tab) (hb : Below w.heap.size w w1) : ∀ w', Below w1.heap.size w1 w' → Lib.TabIs Tryd.prog w' "internal/strconv.uint64pow10" .u64 Lib.pow10Tab :=
 fun w' h' => Lib.tabBelow_of_tabIs h w' (xC5 hb hb.size h')
set_option maxHeartbeats 4000000 in
set_option maxRecDepth 100000 in
theorem xIa (k : Nat) (n : S25) (A : Option Addr) (c : Nat) (s : ByteArray) (er m : Int) (w : World) (hc : n.f4.length ≤ c) (hC : Kd.C k25 w A n.f4.length n.f4) (hm : w.cell? ⟨0, 0, none⟩ = some (.int .i64 m)) (ht : Lib.TabIs Tryd.prog w "internal/strconv.uint64pow10" .u64 Lib.pow10Tab) (h : xFj k n = some (s, er)) :
  Calls Tryd.prog 13 #[xBg n A c] w fun e w' => e = .returned (.tuple #[.string s, .int .i64 er]) ∧ Below w.heap.size w w' := by
 unfold xFj at h
 obtain ⟨rb, hr, h⟩ := Option.bind_eq_some_iff.1 h
 have hu25 := Tryd.underlying25
 have hu52 := Tryd.underlying52
 unfold xBg
 have HB0 := Aside0.mk (show Below w.heap.size w (w.alloc (.cells #[.string n.f0, .string n.f1, .int .i64 n.f2, .int .i64 n.f3, .slice A n.f4.length c] 25 (0, 0))) from xA1 (Below.refl _ _) _)
 have NB0 := Aside0.mk (xBn w (.cells #[.string n.f0, .string n.f1, .int .i64 n.f2, .int .i64 n.f3, .slice A n.f4.length c] 25 (0, 0)))
 have HCC := Aside0.mk hC
 have HC := Aside0.mk hc
 have HM := Aside0.mk hm
 have HT := Aside0.mk ht
 have HR := Aside0.mk hr
 have HH := Aside0.mk h
 clear hC hc hm ht hr h
 cases rb with
 | false =>
  go_enter Tryd.func13, Tryd.ntmps13
  go_wp2_with (go_at_call 15; (with_reducible refine (xAy.calls k _ _ _ _ A c _ false _ (Kd.C_below HCC.out HB0.out) HC.out HR.out m (xAq HB0.out HM.out)).mono ?_); rintro e w1 ⟨rfl, h1⟩; have H1 := Aside0.mk h1; clear h1)
  have hh := HH.out
  simp only [Bool.false_eq_true, if_false, Option.some.injEq, Prod.mk.injEq] at hh
  obtain ⟨rfl, rfl⟩ := hh
  go_ret2
  exact ⟨rfl, xC5 HB0.out HB0.out.size H1.out⟩
 | true =>
  have hh := HH.out
  clear HH
  rw [if_pos rfl] at hh
  obtain ⟨t, hw, hh⟩ := Option.bind_eq_some_iff.1 hh
  split at hh
  case isFalse => cases hh
  rename_i hl
  simp only [Option.some.injEq, Prod.mk.injEq] at hh
  obtain ⟨rfl, rfl⟩ := hh
  have HW := Aside0.mk hw
  have HL := Aside0.mk hl
  clear hw hl
  go_enter Tryd.func13, Tryd.ntmps13
  go_upto_region 3 with (go_at_call 15; (with_reducible refine (xAy.calls k _ _ _ _ A c _ true _ (Kd.C_below HCC.out HB0.out) HC.out HR.out m (xAq HB0.out HM.out)).mono ?_); rintro e w1 ⟨rfl, h1⟩; have HB1 := Aside0.mk (xC5 HB0.out HB0.out.size h1); have NB1 := Aside0.mk (xAt NB0.out h1); clear h1)
  have HB2 := Aside0.mk (xA1 (Below.refl w1.heap.size w1) (.cells #[.pointer none, .slice none 0 0] 52 (0, 0)))
  have NB2 := Aside0.mk (xA4 NB1.out (.cells #[.pointer none, .slice none 0 0] 52 (0, 0)))
  have HBL := Aside0.mk (bld_new w1)
  have hcall := xH7 k w1 _ w1.heap.size n A c [] t ⟨HB2.out, HBL.out, HC.out, Kd.C_below HCC.out HB1.out, xHb HT.out HB1.out⟩ HW.out (by simpa using HL.out)
  unfold xBg at hcall
  have HCALL := Aside0.mk hcall
  clear hcall
  go_upto_region 4 with (fail)
  generalize World.alloc w1 (.cells #[.pointer none, .slice none 0 0] 52 (0, 0)) = W2 at *
  obtain ⟨c0, c1, c2, c3, c4⟩ := ey5 NB2.out
  go_wp2_with (first | (go_at_call 22; (with_reducible refine HCALL.out.mono ?_); rintro e w3 ⟨rfl, h1, h2⟩; have H3 := Aside0.mk (show Lib.IsBuilderF 52 5 w1.heap.size w1.heap.size (Lib.byteCells ([] ++ t)) w3 from h1); have F3 := Aside0.mk h2; clear h1 h2) | (go_at_call 23; (refine (Tryd.Builder_String_any_f w1.heap.size w1.heap.size ([] ++ t) w3 H3.out (Nat.le_trans HB2.out.size F3.out.1.size)).mono ?_); rintro e w4 ⟨rfl, _, h1⟩; have H4 := Aside0.mk h1; clear h1))
  go_ret2
  exact ⟨rfl, xC5 HB1.out HB1.out.size ((HB2.out.trans F3.out.1).trans H4.out)⟩

abbrev FILE : ByteArray := ⟨#[102, 105, 108, 101]⟩
def xId : Except PErr (List S25 × List S60) → S25 × Int × Int
 | .ok (L, _) => (⟨FILE, ⟨#[]⟩, 0, 0, L⟩, 0, -1)
 | .error x => (z25, x.1, x.2)
/-- What Parse hands back. -/
def xIv (k : Nat) (s : ByteArray) : Option (S25 × Int × Int) :=
 (xB4.f k s).bind fun x => if x.2.1 = 0 then (xGb k x.1 s.size []).bind fun r => some (xId r) else some (z25, x.2.1, x.2.2)
theorem xIc (k : Nat) (s : ByteArray) (n : S25) (er at_ m : Int) (w : World) (hm : w.cell? ⟨0, 0, none⟩ = some (.int .i64 m)) (h : xIv k s = some (n, er, at_)) :
  Calls Tryd.prog 9 #[.string s] w (xIu w n er at_) := by
 unfold xIv at h
 obtain ⟨⟨T, e, p⟩, hs, h⟩ := Option.bind_eq_some_iff.1 h
 by_cases he : e = 0
 ·subst he
  rw [if_pos rfl] at h
  obtain ⟨r, hr, h⟩ := Option.bind_eq_some_iff.1 h
  have h1 := xJr k k s T p m r w hm hs hr
  have h := Option.some.inj h
  rcases r with x | ⟨L, T'⟩
  ·simp only [xId, Prod.mk.injEq] at h
   obtain ⟨rfl, rfl, rfl⟩ := h
   exact h1
  ·simp only [xId, Prod.mk.injEq] at h
   obtain ⟨rfl, rfl, rfl⟩ := h
   exact h1
 ·rw [if_neg he] at h
  simp only [Option.some.injEq, Prod.mk.injEq] at h
  obtain ⟨rfl, rfl, rfl⟩ := h
  exact xIb k s T e p w hs he
/-- A node's box, and what it leads to. -/
structure NodeB (W : World) (b : Nat) (n : S25) (A : Option Addr) (c : Nat) : Prop where
 blk : W.heap[b]? = some (.cells #[.string n.f0, .string n.f1, .int .i64 n.f2, .int .i64 n.f3, .slice A n.f4.length c] 25 (0, 0))
 hc : n.f4.length ≤ c
 hC : Kd.C k25 W A n.f4.length n.f4
theorem NodeB.below {W W1 : World} {b : Nat} {n : S25} {A : Option Addr} {c : Nat} (h : NodeB W b n A c) (hb : Below W.heap.size W W1) : NodeB W1 b n A c := ⟨xAt h.blk hb, h.hc, Kd.C_below h.hC hb⟩
theorem NodeB.new {W : World} {n : S25} {A : Option Addr} {c : Nat} (hc : n.f4.length ≤ c) (hC : Kd.C k25 W A n.f4.length n.f4) : NodeB (W.alloc (.cells #[.string n.f0, .string n.f1, .int .i64 n.f2, .int .i64 n.f3, .slice A n.f4.length c] 25 (0, 0))) W.heap.size n A c :=
 ⟨xBn _ _, hc, Kd.C_alloc hC _⟩
/-- The same as the walk wants it. -/
theorem xJq (k : Nat) (s : ByteArray) (n : S25) (er at_ m : Int) (w : World) (hm : w.cell? ⟨0, 0, none⟩ = some (.int .i64 m)) (h : xIv k s = some (n, er, at_)) :
  Calls Tryd.prog 9 #[.string s] w fun e w' => ∃ A c, e = .returned (.tuple #[.agg #[.string n.f0, .string n.f1, .int .i64 n.f2, .int .i64 n.f3, .slice A n.f4.length c], .int .i64 er, .int .i64 at_]) ∧ n.f4.length ≤ c ∧ Kd.C k25 w' A n.f4.length n.f4 ∧ Below w.heap.size w w' :=
 (xIc k s n er at_ m w hm h).mono fun e w' ⟨v, he, hN, hb⟩ => by
  obtain ⟨A, c, rfl⟩ := Kd.N_slice hN
  have h1 := Kd.N_reads' hN
  exact ⟨A, c, he, h1.2.1, h1.2.2, hb⟩
abbrev ALIVE : ByteArray := ⟨#[118, 111, 108, 117, 109, 101, 32, 118, 61, 109, 105, 114, 114, 111, 114, 40, 97, 44, 98, 41, 59]⟩
abbrev ALIVE2 : ByteArray := ⟨#[118, 111, 108, 117, 109, 101, 32, 118, 32, 61, 32, 109, 105, 114, 114, 111, 114, 40, 97, 44, 32, 98, 41, 59, 10]⟩
def xI1 : S25 := ⟨FILE, ⟨#[]⟩, 0, 0, [⟨⟨#[118, 111, 108, 117, 109, 101]⟩, ⟨#[118]⟩, 0, 0, [⟨⟨#[109, 105, 114, 114, 111, 114]⟩, ⟨#[]⟩, 0, 9, [⟨⟨#[117, 115, 101]⟩, ⟨#[97]⟩, 0, 16, []⟩, ⟨⟨#[117, 115, 101]⟩, ⟨#[98]⟩, 0, 18, []⟩]⟩]⟩]⟩
theorem xIn : xIv 60 ALIVE = some (xI1, 0, -1) := by kernel_rfl
theorem xIm : xFj 60 xI1 = some (ALIVE2, 0) := by kernel_rfl
def TabW (w : World) : Prop := Lib.TabIs Tryd.prog w "internal/strconv.uint64pow10" .u64 Lib.pow10Tab
theorem TabW.below {w w1 : World} (h : TabW w) (hb : Below w.heap.size w w1) : TabW w1 := xHb h (Below.refl _ _) w1 hb
theorem xGc (k : Nat) (n : S25) (A : Option Addr) (c : Nat) (s : ByteArray) (er m : Int) (w : World) (hc : n.f4.length ≤ c) (hC : Kd.C k25 w A n.f4.length n.f4) (hm : w.cell? ⟨0, 0, none⟩ = some (.int .i64 m)) (ht : TabW w) (h : xFj k n = some (s, er)) :
  Calls Tryd.prog 13 #[.agg #[.string n.f0, .string n.f1, .int .i64 n.f2, .int .i64 n.f3, .slice A n.f4.length c]] w fun e w' => e = .returned (.tuple #[.string s, .int .i64 er]) ∧ Below w.heap.size w w' := xIa k n A c s er m w hc hC hm ht h
set_option maxHeartbeats 4000000 in
set_option maxRecDepth 100000 in
theorem xFu (m : Int) (w : World) (hm : w.cell? ⟨0, 0, none⟩ = some (.int .i64 m)) (ht : TabW w) :
  Calls Tryd.prog 8 #[] w fun e w' => e = .returned (.bool true) ∧ Below w.heap.size w w' := by
 have hu25 := Tryd.underlying25
 have HM := Aside0.mk hm
 have HT := Aside0.mk ht
 clear hm ht
 go_enter Tryd.func8, Tryd.ntmps8
 go_upto_region 2 with (go_at_call 9; (with_reducible refine (xJq 60 ALIVE xI1 0 (-1) m w HM.out xIn).mono ?_); rintro e w1 ⟨A, c, rfl, h1, h2, h3⟩; have H1 := Aside0.mk h1; have H2 := Aside0.mk h2; have H3 := Aside0.mk h3; clear h1 h2 h3)
 generalize hW : World.alloc w1 _ = W1
 have HN := Aside0.mk (show NodeB W1 w1.heap.size xI1 A c from by rw [← hW]; exact NodeB.new H1.out H2.out)
 have HB := Aside0.mk (show Below w.heap.size w W1 from by rw [← hW]; exact xA1 H3.out _)
 clear hW
 obtain ⟨c0, c1, c2, c3, c4⟩ := ey5 HN.out.blk
 have hcall := Aside0.mk (xGc 60 xI1 A c ALIVE2 0 m W1 HN.out.hc HN.out.hC (xAq HB.out HM.out) (HT.out.below HB.out) xIm)
 go_wp2_with (go_at_call 13; (refine hcall.out.mono ?_); rintro e w2 ⟨rfl, h1⟩; have H4 := Aside0.mk h1; clear h1)
 go_ret
 exact ⟨rfl, xC5 HB.out HB.out.size H4.out⟩

/-! plain laws of the parser: what it hands on, and what it leaves -/
abbrev G (α : Type) := List S60 → Int → PR α
def er (t : S60) : Int × ByteArray × Int := (t.f0, t.f1, t.f2)
def ern : Nat → S25 → S25
 | 0, _ => z25
 | k + 1, n => ⟨n.f0, n.f1, n.f2, 0, n.f4.map (ern k)⟩
/-- The same trees, but for their places. -/
def En (n m : S25) : Prop := ∀ k, ern k n = ern k m
def El (l m : List S25) : Prop := ∀ k, l.map (ern k) = m.map (ern k)
def Et (t u : S60) : Prop := er t = er u
/-- What is left is an end of what was given; a fault stands at the head of such an end. -/
def Mono {α : Type} (g : G α) : Prop := ∀ T en, (∀ a T', g T en = some (.ok (a, T')) → T' <:+ T) ∧ (∀ x, g T en = some (.error x) → ∃ S, S <:+ T ∧ x.2 = xCa S en)
/-- Something is taken. -/
def Cons {α : Type} (g : G α) : Prop := ∀ T en a T', g T en = some (.ok (a, T')) → T'.length < T.length
def bd {α β : Type} (g : G α) (h : α → G β) : G β := fun T en => pbd (g T en) fun a T1 => h a T1 en
section
variable {α β : Type} {g g' : G α} {h h' : α → G β}
end
/-- What is read of tokens V, whatever stands behind them, is read of tokens alike. -/
def Sim {α : Type} (b : Bool) (Ra : α → α → Prop) (g g' : G α) : Prop :=
 ∀ V V' R R' en en' a T', V.map er = V'.map er → g (V ++ R) en = some (.ok (a, T')) → (R.length < T'.length ∨ b = true ∧ R.length ≤ T'.length) →
  ∃ a' V2 V2', T' = V2 ++ R ∧ V2.map er = V2'.map er ∧ g' (V' ++ R') en' = some (.ok (a', V2' ++ R')) ∧ Ra a a'
/-- A fault ahead of at. -/
def FE {α : Type} (g g' : G α) : Prop :=
 ∀ V R R' en en' at_ x, (∀ t ∈ R, at_ ≤ t.f3) → at_ ≤ en → g (V ++ R) en = some (.error x) → x.2 < at_ → g' (V ++ R') en' = some (.error x)
section
variable {α β : Type} {g g' : G α} {h h' : α → G β} {Ra : α → α → Prop} {Rb : β → β → Prop} {b : Bool}
end
/-! the leaves -/
def gret {α : Type} (a : α) : G α := fun T _ => some (.ok (a, T))
def xGy (s : ByteArray) : G Unit := fun T en => some (xF4 T en s)
def gtake (may : S60 → Option Bool) : G S60 := fun T en => xJi may T en
def gof (k : Int) : G S60 := fun T en => pof T en k

def gite {α : Type} (c : Prop) [Decidable c] (f g : G α) : G α := fun T en => if c then f T en else g T en
section
variable {α : Type} {c : Prop} [Decidable c] {f g f' g' : G α} {Ra : α → α → Prop} {b : Bool}
end
def xGz (k : Nat) (nest : Int) : G S25 := fun T en => pexpr k T en nest
def xGj (k : Nat) (nest : Int) (acc : List S25) : G (List S25) := fun T en => pexprs k T en nest acc
def guse : G S25 := bd (gof 0) fun t => gret ⟨(⟨#[117, 115, 101]⟩ : ByteArray), t.f1, 0, t.f3, []⟩
def gbr (k : Nat) (w : ByteArray) (nest : Int) (first : S25) : G (List S25) :=
 gite (w.toList = ([108, 105, 110, 101, 97, 114] : List UInt8)) (bd (xGy CM) fun _ => bd (gof 1) fun a => bd (xGy CM) fun _ => bd (gof 1) fun b => gret ([first] ++ [pnumN a] ++ [pnumN b]))
 (gite (w.toList = ([115, 110, 97, 112, 115, 104, 111, 116] : List UInt8)) (bd (xGy CM) fun _ => bd (xGz k (nest + 1)) fun a => bd (xGy CM) fun _ => bd (gof 1) fun b => gret ([first] ++ [a] ++ [pnumN b]))
 (gite (w.toList = ([99, 114, 121, 112, 116] : List UInt8) ∨ w.toList = ([105, 110, 116, 101, 103, 114, 105, 116, 121] : List UInt8) ∨ w.toList = ([118, 101, 114, 105, 116, 121] : List UInt8)) (bd (xGy CM) fun _ => bd (gof 0) fun a => gret ([first] ++ [xGd a]))
 (xGj k nest [first])))
def gT (k : Nat) (w : ByteArray) (p : Int) (nest : Int) : G S25 := bd (xGy LP) fun _ => bd (xGz k (nest + 1)) fun first => bd (gbr k w nest first) fun L => bd (xGy RP) fun _ => gret ⟨w, ⟨#[]⟩, 0, p, L⟩
section
variable (k : Nat) (ihm : ∀ nest, Mono (xGz k nest)) (ihc : ∀ nest, Cons (xGz k nest)) (ihms : ∀ nest acc, Mono (xGj k nest acc))
include ihm ihms
end
section
variable (k : Nat) (ih : ∀ nest, Sim true En (xGz k nest) (xGz k nest)) (ihs : ∀ nest acc acc', El acc acc' → Sim false El (xGj k nest acc) (xGj k nest acc'))
include ih ihs
end

section
variable (k : Nat) (ihf : ∀ nest, FE (xGz k nest) (xGz k nest)) (ihfs : ∀ nest acc acc', El acc acc' → FE (xGj k nest acc) (xGj k nest acc'))
include ihf ihfs
end
/-! statements -/
def gro : G (Int × List S25) := fun T en => if pis T RO = true then some (.ok ((1, []), T.tail)) else some (.ok ((0, []), T))
def Rnl (a b : Int × List S25) : Prop := a.1 = b.1 ∧ El a.2 b.2
def gval (k : Nat) (w : ByteArray) : G (Int × List S25) :=
 gite (w.toList = ([100, 101, 118, 105, 99, 101] : List UInt8) ∨ w.toList = ([106, 111, 117, 114, 110, 97, 108] : List UInt8)) (bd (gof 1) fun a => gret (a.f2, []))
 (gite (w.toList = ([107, 101, 121] : List UInt8) ∨ w.toList = ([114, 111, 111, 116] : List UInt8)) (bd (gof 2) fun a => gret (0, [phexN a]))
 (gite (w.toList = ([118, 111, 108, 117, 109, 101] : List UInt8)) (bd (xGy EQ) fun _ => bd (xGz k 1) fun a => gret (0, [a]))
 (gite (w.toList = ([101, 120, 112, 111, 114, 116] : List UInt8)) gro (gret (0, [])))))
def gtail (k : Nat) (w nm : ByteArray) (pl : Int) : G S25 := bd (gval k w) fun nl => bd (xGy SC) fun _ => gret ⟨w, nm, nl.1, pl, nl.2⟩
theorem LeO.rounds {α : Type} {f : Nat → Option α} (h : ∀ k, LeO (f k) (f (k + 1))) (j : Nat) : ∀ d, LeO (f j) (f (j + d))
 | 0 => LeO.refl _
 | d + 1 => fun r hr => h (j + d) r (LeO.rounds h j d r hr)
end Go.Proofs.YtknbfhhmjbnemaaDoor.P
end
section
namespace Go.Proofs.YtknbfhhmjbnemaaDoor.Pure
open Go.RowKit Go.Proofs.YtknbfhhmjbnemaaDoor.P Go.Proofs.YtknbfhhmjbnemaaDoorW.PrintWords Go.Proofs.YtknbfhhmjbnemaaDoorW.PrintLast


/-! ### what the scanner does, over lists of bytes -/
def xCy (c : Int) : Bool := c == 9 || c == 10 || c == 13 || c == 32
/-- What is left behind blanks and notes; the first: does it begin within a note? -/
def xC9 : Bool → List Int → List Int
 | _, [] => []
 | true, c :: l => if c = 10 then xC9 false l else xC9 true l
 | false, c :: l => if xCy c = true then xC9 false l else if c = 47 ∧ l.head? = some 47 then xC9 true l else c :: l
def xEq : List Int → Bool
 | [] => false
 | c :: _ => xC2 c || (c == 95)
structure One where
 kind : Int
 s : List Int
 n : Int
 len : Nat
 e : Int
 off : Nat
def oneL : List Int → One
 | [] => ⟨0, [], 0, 0, 0, 0⟩
 | c :: t =>
  if xC2 c = true then ⟨0, (c :: t).takeWhile xC6, 0, ((c :: t).takeWhile xC6).length, if 16 < ((c :: t).takeWhile xC6).length then 102 else 0, 0⟩
  else if xAx c = true then ⟨1, [], xCh ((c :: t).takeWhile xAx), ((c :: t).takeWhile xAx).length,
   if 9 < ((c :: t).takeWhile xAx).length then 102 else if xEq ((c :: t).drop ((c :: t).takeWhile xAx).length) = true then 101 else 0,
   if 9 < ((c :: t).takeWhile xAx).length then 0 else ((c :: t).takeWhile xAx).length⟩
  else if c = 36 then ⟨2, t.takeWhile pHex, 0, (t.takeWhile pHex).length + 1,
   if (t.takeWhile pHex).length = 0 then 101 else if 128 < (t.takeWhile pHex).length then 102 else if xEq (t.drop (t.takeWhile pHex).length) = true then 101 else 0,
   if (t.takeWhile pHex).length = 0 then 1 else if 128 < (t.takeWhile pHex).length then 0 else (t.takeWhile pHex).length + 1⟩
  else if c = 40 ∨ c = 41 ∨ c = 44 ∨ c = 61 ∨ c = 59 then ⟨3, [c], 0, 1, 0, 0⟩
  else ⟨3, [], 0, 0, 101, 0⟩
def xK5 (o : One) (p : Nat) : S60 := ⟨o.kind, strOfNums o.s, o.n, p⟩
def xDg : Nat → Nat → List Int → Nat → Except (Int × Int) (List S60)
 | 0, _, _, _ => .ok []
 | f + 1, cnt, r, total =>
  if r = [] then .ok []
  else if cnt = 500 then .error (103, ((total - r.length : Nat) : Int))
  else if (oneL r).e = 0 then (xDg f (cnt + 1) (xC9 false (r.drop (oneL r).len)) total).map (xK5 (oneL r) (total - r.length) :: ·)
  else .error ((oneL r).e, ((total - r.length + (oneL r).off : Nat) : Int))
def scan (l : List Int) : Except (Int × Int) (List S60) :=
 if 2000 < l.length then .error (103, 0) else xDg (l.length + 1) 0 (xC9 false l) l.length
def told : Except (Int × Int) (List S60) → List S60 × Int × Int
 | .ok l => (l, 0, -1)
 | .error e => ([], e.1, e.2)

theorem xD5 : ∀ (l : List Int) (q : Bool), (xC9 q l).length ≤ l.length
 | [], q => by cases q <;> simp [xC9]
 | c :: l, true => by
  unfold xC9
  split
  ·exact Nat.le_succ_of_le (xD5 l false)
  ·exact Nat.le_succ_of_le (xD5 l true)
 | c :: l, false => by
  unfold xC9
  split
  ·exact Nat.le_succ_of_le (xD5 l false)
  ·split
   ·exact Nat.le_succ_of_le (xD5 l true)
   ·exact Nat.le_refl _
theorem xCf : ∀ (l : List Int) (q : Bool), xC9 q l <:+ l
 | [], q => by cases q <;> simp [xC9]
 | c :: l, true => by
  unfold xC9
  split
  ·exact (xCf l false).trans (List.suffix_cons c l)
  ·exact (xCf l true).trans (List.suffix_cons c l)
 | c :: l, false => by
  unfold xC9
  split
  ·exact (xCf l false).trans (List.suffix_cons c l)
  ·split
   ·exact (xCf l true).trans (List.suffix_cons c l)
   ·exact List.suffix_refl _
theorem xCs (p : Int → Bool) (l : List Int) : (l.takeWhile p).length ≤ l.length := List.Sublist.length_le (List.takeWhile_sublist p)
theorem xIw (l : List Int) (h : l ≠ []) : (oneL l).len ≤ l.length ∧ ((oneL l).e = 0 → 1 ≤ (oneL l).len) := by
 cases l with
 | nil => exact absurd rfl h
 | cons c t =>
  have h1 := xCs xC6 (c :: t)
  have h2 := xCs xAx (c :: t)
  have h3 := xCs pHex t
  simp only [oneL]
  by_cases c1 : xC2 c = true
  ·rw [if_pos c1]
   refine ⟨h1, fun _ => ?_⟩
   have hw : xC6 c = true := by simp [xC6, c1]
   simp [List.takeWhile_cons, hw]
  ·rw [if_neg c1]
   by_cases c2 : xAx c = true
   ·rw [if_pos c2]
    refine ⟨h2, fun _ => ?_⟩
    simp [List.takeWhile_cons, c2]
   ·rw [if_neg c2]
    by_cases c3 : c = 36
    ·rw [if_pos c3]
     simp only [List.length_cons]
     exact ⟨by omega, fun _ => by omega⟩
    ·rw [if_neg c3]
     by_cases c4 : c = 40 ∨ c = 41 ∨ c = 44 ∨ c = 61 ∨ c = 59
     ·rw [if_pos c4]
      simp
     ·rw [if_neg c4]
      simp
/-! ### the printed functions are these -/
theorem xC1 (s : ByteArray) (k : Nat) (h : k < s.size) : (xAl s).drop k = bt s k :: (xAl s).drop (k + 1) := by
 have hl : k < (xAl s).length := by rw [xAz]; exact h
 rw [List.drop_eq_getElem_cons hl]
 have := xD8 s k h
 rw [List.getElem?_eq_getElem hl] at this
 injection this with this
 rw [this]
theorem xCx (p : Int → Bool) (s : ByteArray) : ∀ f k, s.size - k = f → k ≤ s.size → xB7 p s f k = k + (((xAl s).drop k).takeWhile p).length
 | 0, k, hf, hk => by
  have : (xAl s).drop k = [] := List.drop_eq_nil_iff.2 (by rw [xAz]; omega)
  rw [this]
  rfl
 | f + 1, k, hf, hk => by
  rw [xC1 s k (by omega)]
  unfold xB7
  by_cases h : p (bt s k) = true
  ·rw [if_pos ⟨by omega, h⟩, xCx p s f (k + 1) (by omega) (by omega), List.takeWhile_cons, if_pos h, List.length_cons]
   omega
  ·rw [if_neg (fun h2 => h h2.2), List.takeWhile_cons, if_neg h]
   rfl
theorem xGo (l : List UInt8) : (l.map fun b => (b.toNat : Int)).map (fun n => UInt8.ofNat n.toNat) = l := by
 rw [List.map_map]
 conv => rhs; rw [← List.map_id l]
 apply List.map_congr_left
 intro b _
 simp
theorem xBr {a b : ByteArray} (h : a.data.toList = b.data.toList) : a = b := by
 cases a; cases b
 simp only [ByteArray.mk.injEq]
 exact Array.toList_inj.1 h
theorem xDj (s : ByteArray) (i n : Nat) : (s.extract i (i + n)).data.toList = (s.data.toList.drop i).take n := by
 rw [ByteArray.data_extract, Array.toList_extract, List.extract_eq_take_drop]
 congr 1
 omega
theorem xF3 (s : ByteArray) (i n : Nat) : s.extract i (i + n) = strOfNums (((xAl s).drop i).take n) := by
 apply xBr
 rw [xDj, strOfNums_data]
 unfold xAl
 rw [← List.map_drop, ← List.map_take, xGo]
theorem xCu (s : ByteArray) (i n : Nat) : xAl (s.extract i (i + n)) = ((xAl s).drop i).take n := by
 unfold xAl
 rw [xDj, ← List.map_drop, ← List.map_take]
theorem xHp (s : ByteArray) (k : Nat) : xEc s k = xEq ((xAl s).drop k) := by
 unfold xEc
 by_cases h : k < s.size
 ·rw [xC1 s k h]
  simp [h, xEq]
 ·have : (xAl s).drop k = [] := List.drop_eq_nil_iff.2 (by rw [xAz]; omega)
  rw [this]
  simp [h, xEq]
theorem xE0 (p : Int → Bool) (l : List Int) : l.take (l.takeWhile p).length = l.takeWhile p := (List.prefix_iff_eq_take.1 (List.takeWhile_prefix p)).symm
def xGg (i : Nat) (o : One) : Int × ByteArray × Int × Int × Int × Int × Int :=
 (o.kind, strOfNums o.s, o.n, (i : Int), ((i + o.len : Nat) : Int), o.e, if o.e = 0 then -1 else ((i + o.off : Nat) : Int))
theorem one_run (s : ByteArray) (i : Nat) (hi : i < s.size) (hs : s.size ≤ 140737488351232) :
  xDi.f s i = some (xGg i (oneL ((xAl s).drop i))) := by
 unfold xDi.f
 rw [if_pos ⟨by omega, by omega, hs⟩]
 simp only [Int.toNat_natCast]
 have hw := xCx xC6 s (s.size - i) i rfl (by omega)
 have hf := xCx xAx s (s.size - i) i rfl (by omega)
 have hh := xCx pHex s (s.size - (i + 1)) (i + 1) rfl (by omega)
 rw [hw, hf, hh]
 simp only [xHp, xCu]
 simp only [xF3]
 have hd := xC1 s i hi
 have hd2 : ∀ n, (xAl s).drop (i + n) = ((xAl s).drop i).drop n := fun n => by rw [List.drop_drop]
 have hd3 : ∀ n, (xAl s).drop (i + 1 + n) = ((xAl s).drop (i + 1)).drop n := fun n => by rw [List.drop_drop]
 rw [hd2, hd3]
 simp only [xE0]
 rw [hd]
 generalize bt s i = c
 generalize (xAl s).drop (i + 1) = t
 have hnil : strOfNums [] = ⟨#[]⟩ := rfl
 by_cases c1 : xC2 c = true
 ·have ho : oneL (c :: t) = ⟨0, (c :: t).takeWhile xC6, 0, ((c :: t).takeWhile xC6).length, if 16 < ((c :: t).takeWhile xC6).length then 102 else 0, 0⟩ := by
   simp only [oneL]; rw [if_pos c1]
  rw [ho, if_pos c1]
  unfold xGg
  generalize (c :: t).takeWhile xC6 = W
  by_cases c2 : 16 < W.length
  ·rw [if_pos (by omega)]; simp [c2]
  ·rw [if_neg (by omega)]; simp [c2]
 ·rw [if_neg c1]
  by_cases c2 : xAx c = true
  ·have ho : oneL (c :: t) = ⟨1, [], xCh ((c :: t).takeWhile xAx), ((c :: t).takeWhile xAx).length,
     if 9 < ((c :: t).takeWhile xAx).length then 102 else if xEq ((c :: t).drop ((c :: t).takeWhile xAx).length) = true then 101 else 0,
     if 9 < ((c :: t).takeWhile xAx).length then 0 else ((c :: t).takeWhile xAx).length⟩ := by
    simp only [oneL]; rw [if_neg c1, if_pos c2]
   rw [ho, if_pos c2]
   unfold xGg
   generalize (c :: t).takeWhile xAx = W
   generalize xEq ((c :: t).drop W.length) = G
   by_cases c3 : 9 < W.length
   ·rw [if_pos (by omega)]; simp [c3, hnil]
   ·rw [if_neg (by omega)]
    cases G
    ·simp [c3, hnil]
    ·simp [c3, hnil]
  ·rw [if_neg c2]
   by_cases c3 : c = 36
   ·have ho : oneL (c :: t) = ⟨2, t.takeWhile pHex, 0, (t.takeWhile pHex).length + 1,
      if (t.takeWhile pHex).length = 0 then 101 else if 128 < (t.takeWhile pHex).length then 102 else if xEq (t.drop (t.takeWhile pHex).length) = true then 101 else 0,
      if (t.takeWhile pHex).length = 0 then 1 else if 128 < (t.takeWhile pHex).length then 0 else (t.takeWhile pHex).length + 1⟩ := by
     simp only [oneL]; rw [if_neg c1, if_neg c2, if_pos c3]
    rw [ho, if_pos c3]
    unfold xGg
    generalize t.takeWhile pHex = W
    generalize xEq (t.drop W.length) = G
    by_cases c4 : W.length = 0
    ·rw [if_pos (by omega)]
     have c5 : W = [] := List.length_eq_zero_iff.1 c4
     subst c5
     simp [hnil]
    ·rw [if_neg (by omega)]
     by_cases c5 : 128 < W.length
     ·rw [if_pos (by omega)]
      simp only [c4, c5, if_true, if_false]
      simp
      omega
     ·rw [if_neg (by omega)]
      cases G
      ·simp only [c4, c5, if_true, if_false, Bool.false_eq_true]
       simp
       omega
      ·simp only [c4, c5, if_true, if_false]
       simp
       omega
   ·rw [if_neg c3]
    by_cases c4 : c = 40 ∨ c = 41 ∨ c = 44 ∨ c = 61 ∨ c = 59
    ·have ho : oneL (c :: t) = ⟨3, [c], 0, 1, 0, 0⟩ := by
      simp only [oneL]; rw [if_neg c1, if_neg c2, if_neg c3, if_pos c4]
     rw [ho, if_pos c4]
     simp [xGg]
    ·have ho : oneL (c :: t) = ⟨3, [], 0, 0, 101, 0⟩ := by
      simp only [oneL]; rw [if_neg c1, if_neg c2, if_neg c3, if_neg c4]
     rw [ho, if_neg c4]
     simp [xGg, hnil]

theorem xL9 : ∀ n : Nat, n < 256 → (decide (0 ≤ Lib.indexByte [9, 10, 13, 32] n.toUInt8) = xCy n) := by decide +kernel
theorem xI0 (c : Int) (h0 : 0 ≤ c) (h1 : c ≤ 255) : (Lib.indexByte (⟨#[9, 10, 13, 32]⟩ : ByteArray).data.toList c.toNat.toUInt8 ≥ 0) ↔ xCy c = true := by
 have h := xL9 c.toNat (by omega)
 rw [show ((c.toNat : Nat) : Int) = c by omega] at h
 rw [← h]
 simp
theorem xHd : ∀ (l : List UInt8), xC9 true (l.map fun b => (b.toNat : Int)) = if Lib.indexByte l 10 = -1 then [] else xC9 false ((l.map fun b => (b.toNat : Int)).drop (Lib.indexByte l 10).toNat)
 | [] => by simp [xC9, Lib.indexByte]
 | b :: l => by
  have ih := xHd l
  have hge := Lib.indexByte_ge l 10
  simp only [List.map_cons, xC9, Lib.indexByte]
  by_cases hb : b = 10
  ·subst hb
   simp [xC9, xCy]
  ·have hb1 : (b == 10) = false := by simpa using hb
   have hb2 : ¬ ((b.toNat : Int) = 10) := by
    intro h
    apply hb
    apply UInt8.toNat_inj.1
    have : b.toNat = 10 := by omega
    rw [this]
    rfl
   rw [if_neg hb2, ih, hb1]
   simp only [Bool.false_eq_true, if_false, beq_iff_eq]
   by_cases hi : Lib.indexByte l 10 = -1
   ·simp [hi]
   ·rw [if_neg hi, if_neg hi, if_neg (by omega)]
    rw [show (Lib.indexByte l 10 + 1).toNat = (Lib.indexByte l 10).toNat + 1 by omega]
    rfl
theorem toI_inj {a b : List UInt8} (h : a.map (fun b => (b.toNat : Int)) = b.map (fun b => (b.toNat : Int))) : a = b := by
 have := congrArg (List.map fun n : Int => UInt8.ofNat n.toNat) h
 rwa [xGo, xGo] at this
theorem xLa (a b : ByteArray) : (a.toList == b.toList) = decide (xAl a = xAl b) := by
 rw [ByteArray.toList_eq, ByteArray.toList_eq]
 by_cases h : a.data.toList = b.data.toList
 ·simp [h, xAl]
 ·have : ¬ xAl a = xAl b := fun h2 => h (toI_inj h2)
  rw [beq_eq_false_iff_ne.2 h, decide_eq_false this]
theorem xJk (s : ByteArray) (i : Nat) (hi : i < s.size) (hs : s.size ≤ 140737488351232) :
  xBi.f (s.extract i s.size) (⟨#[47, 47]⟩ : ByteArray) = some (decide (bt s i = 47 ∧ ((xAl s).drop (i + 1)).head? = some 47)) := by
 have hsz : (s.extract i s.size).size = s.size - i := by rw [ByteArray.size_extract]; omega
 have h2 : (⟨#[47, 47]⟩ : ByteArray).size = 2 := rfl
 have hex : xAl (s.extract i s.size) = (xAl s).drop i := by
  have := xCu s i (s.size - i)
  rw [show i + (s.size - i) = s.size by omega, List.take_of_length_le (by rw [List.length_drop, xAz]; omega)] at this
  exact this
 unfold xBi.f xBk.f
 rw [hsz, h2, xC1 s i hi] at *
 by_cases h3 : 2 ≤ s.size - i
 ·rw [if_pos (by omega), if_pos (by omega), if_pos (by omega)]
  simp only [Option.bind_some]
  congr 1
  have hx := xCu (s.extract i s.size) 0 2
  rw [hex, List.drop_zero] at hx
  simp only [Nat.zero_add] at hx
  rw [show ((((2 : Nat) : Int)) : Int).toNat = 2 by rfl, xLa, hx]
  have hl : xAl (⟨#[47, 47]⟩ : ByteArray) = [47, 47] := rfl
  rw [hl, xC1 s (i + 1) (by omega)]
  simp
 ·rw [if_neg (by omega)]
  simp only [Option.bind_some]
  congr 1
  have : (xAl s).drop (i + 1) = [] := List.drop_eq_nil_iff.2 (by rw [xAz]; omega)
  rw [this]
  simp
/-- Where skip comes out, as a place. -/
def skipAt (s : ByteArray) (i : Nat) : Nat := s.size - (xC9 false ((xAl s).drop i)).length
theorem xD0 (s : ByteArray) (i : Nat) (hi : i ≤ s.size) : i ≤ skipAt s i ∧ skipAt s i ≤ s.size := by
 have h := xD5 ((xAl s).drop i) false
 rw [List.length_drop, xAz] at h
 unfold skipAt
 omega
theorem xDo (s : ByteArray) (i : Nat) (hi : i ≤ s.size) : (xAl s).drop (skipAt s i) = xC9 false ((xAl s).drop i) := by
 have h := (xCf ((xAl s).drop i) false).trans (List.drop_suffix i (xAl s))
 have h2 := List.suffix_iff_eq_drop.1 h
 rw [xAz] at h2
 exact h2.symm
theorem xIq (s : ByteArray) (hs : s.size ≤ 140737488351232) : ∀ (d i k : Nat), s.size - i ≤ d → i ≤ s.size → d < k → xBa.l0 k s i = some ((skipAt s i : Nat) : Int) := by
 intro d
 induction d with
 | zero =>
  intro i k hd hi hk
  obtain ⟨k, rfl⟩ : ∃ m, k = m + 1 := ⟨k - 1, by omega⟩
  simp only [xBa.l0]
  rw [if_neg (by omega)]
  have : (xAl s).drop i = [] := List.drop_eq_nil_iff.2 (by rw [xAz]; omega)
  unfold skipAt
  rw [this]
  simp only [xC9, List.length_nil]
  congr 1
  omega
 | succ d ih =>
  intro i k hd hi hk
  obtain ⟨k, rfl⟩ : ∃ m, k = m + 1 := ⟨k - 1, by omega⟩
  simp only [xBa.l0]
  by_cases hlt : i < s.size
  ·rw [if_pos (by omega), if_pos (by omega)]
   have hr := xJ4 s i
   have hdr := xC1 s i hlt
   simp only [strings_IndexByte.f, Option.bind_some]
   by_cases hb : xCy (bt s i) = true
   ·rw [if_pos ((xI0 _ hr.1 hr.2).2 hb)]
    have hwrap : wrap64 ((i : Int) + 1) = ((i + 1 : Nat) : Int) := by unfold wrap64; omega
    rw [hwrap, ih (i + 1) k (by omega) (by omega) (by omega)]
    congr 2
    unfold skipAt
    rw [hdr]
    simp only [xC9, hb, if_true]
   ·rw [if_neg (fun h => hb ((xI0 _ hr.1 hr.2).1 h)), if_pos (by omega)]
    simp only [Int.toNat_natCast]
    rw [xJk s i hlt hs]
    simp only [Option.bind_some, decide_eq_true_eq]
    by_cases hc : bt s i = 47 ∧ ((xAl s).drop (i + 1)).head? = some 47
    ·rw [if_pos hc]
     have hn := xHd ((s.extract i s.size).data.toList)
     have hmap : ((s.extract i s.size).data.toList.map fun b => (b.toNat : Int)) = (xAl s).drop i := by
      have := xCu s i (s.size - i)
      rw [show i + (s.size - i) = s.size by omega, List.take_of_length_le (by rw [List.length_drop, xAz]; omega)] at this
      exact this
     rw [hmap] at hn
     have hge := Lib.indexByte_ge (s.extract i s.size).data.toList 10
     have hsk : xC9 false ((xAl s).drop i) = xC9 true ((xAl s).drop i) := by
      rw [hdr]
      simp only [xC9]
      rw [if_neg hb, if_pos hc, if_neg (by rw [hc.1]; omega)]
     simp only [show (10 : Int).toNat.toUInt8 = 10 from rfl]
     by_cases hq : Lib.indexByte (s.extract i s.size).data.toList 10 < 0
     ·rw [if_pos hq]
      rw [if_pos (by omega)] at hn
      unfold skipAt
      rw [hsk, hn]
      simp
     ·rw [if_neg hq]
      rw [if_neg (by omega)] at hn
      obtain ⟨n, hn2⟩ := Int.eq_ofNat_of_zero_le (show 0 ≤ Lib.indexByte (s.extract i s.size).data.toList 10 by omega)
      rw [hn2] at hn ⊢
      have hat := (Lib.indexByte_some hn2).1
      have hat2 : ((xAl s).drop i)[n]? = some 10 := by
       rw [← hmap, List.getElem?_map, hat]
       rfl
      have hpos : 1 ≤ n := by
       rcases Nat.eq_zero_or_pos n with h0 | h0
       ·subst h0
        rw [hdr] at hat2
        simp at hat2
        omega
       ·exact h0
      have hle : i + n ≤ s.size := by
       have := (List.getElem?_eq_some_iff.1 hat2).1
       rw [List.length_drop, xAz] at this
       omega
      have hwrap : wrap64 ((i : Int) + (n : Int)) = ((i + n : Nat) : Int) := by unfold wrap64; omega
      rw [hwrap, ih (i + n) k (by omega) hle (by omega)]
      congr 2
      unfold skipAt
      rw [hsk, hn, Int.toNat_natCast, List.drop_drop]
    ·rw [if_neg hc]
     unfold skipAt
     rw [hdr]
     simp only [xC9]
     rw [if_neg hb, if_neg hc]
     simp only [List.length_cons, List.length_drop, xAz]
     congr 1
     omega
  ·rw [if_neg (by omega)]
   have : (xAl s).drop i = [] := List.drop_eq_nil_iff.2 (by rw [xAz]; omega)
   unfold skipAt
   rw [this]
   simp only [xC9, List.length_nil]
   congr 1
   omega

def xDf (acc : List S60) : Except (Int × Int) (List S60) → List S60 × Int × Int
 | .ok l => (acc ++ l, 0, -1)
 | .error e => ([], e.1, e.2)
theorem xK8 (s : ByteArray) (hs : s.size ≤ 2000) : ∀ (d i k : Nat) (acc : List S60), s.size - i ≤ d → i ≤ s.size → s.size + d < k → acc.length ≤ 500 →
  xB4.l0 k s acc i = some (xDf acc (xDg (d + 1) acc.length ((xAl s).drop i) s.size)) := by
 intro d
 induction d with
 | zero =>
  intro i k acc hd hi hk ha
  obtain ⟨k, rfl⟩ : ∃ m, k = m + 1 := ⟨k - 1, by omega⟩
  simp only [xB4.l0]
  rw [if_neg (by omega)]
  have : (xAl s).drop i = [] := List.drop_eq_nil_iff.2 (by rw [xAz]; omega)
  rw [this]
  simp [xDg, xDf]
 | succ d ih =>
  intro i k acc hd hi hk ha
  obtain ⟨k, rfl⟩ : ∃ m, k = m + 1 := ⟨k - 1, by omega⟩
  simp only [xB4.l0]
  by_cases hlt : i < s.size
  ·rw [if_pos (by omega)]
   have hne : (xAl s).drop i ≠ [] := by rw [xC1 s i hlt]; simp
   have hlen : ((xAl s).drop i).length = s.size - i := by rw [List.length_drop, xAz]
   have hpos : s.size - ((xAl s).drop i).length = i := by omega
   unfold xDg
   rw [if_neg hne]
   by_cases h500 : acc.length = 500
   ·rw [if_pos (by omega), if_pos h500, hpos]
    rfl
   ·rw [if_neg (by omega), if_neg h500]
    have hone : xDi.f s i = some ((oneL ((xAl s).drop i)).kind, strOfNums (oneL ((xAl s).drop i)).s, (oneL ((xAl s).drop i)).n, (i : Int), ((i + (oneL ((xAl s).drop i)).len : Nat) : Int), (oneL ((xAl s).drop i)).e,
      if (oneL ((xAl s).drop i)).e = 0 then -1 else ((i + (oneL ((xAl s).drop i)).off : Nat) : Int)) := one_run s i hlt (by omega)
    rw [hone]
    simp only [Option.bind_some]
    have hol := xIw _ hne
    by_cases he : (oneL ((xAl s).drop i)).e = 0
    ·rw [if_pos he, if_pos he, if_pos (by omega)]
     have hl1 := hol.2 he
     have hl2 := hol.1
     have hle : i + (oneL ((xAl s).drop i)).len ≤ s.size := by omega
     have hsk := xIq s (by omega) s.size (i + (oneL ((xAl s).drop i)).len) k (by omega) hle (by omega)
     have hsb := xD0 s (i + (oneL ((xAl s).drop i)).len) hle
     unfold xBa.f
     rw [hsk]
     simp only [Option.bind_some]
     rw [ih (skipAt s (i + (oneL ((xAl s).drop i)).len)) k _ (by omega) hsb.2 (by omega) (by simp; omega)]
     rw [xDo s _ hle, ← List.drop_drop, List.length_append, List.length_singleton]
     congr 1
     have htok : (⟨(oneL ((xAl s).drop i)).kind, strOfNums (oneL ((xAl s).drop i)).s, (oneL ((xAl s).drop i)).n, (i : Int)⟩ : S60) = xK5 (oneL ((xAl s).drop i)) (s.size - ((xAl s).drop i).length) := by
      rw [hpos]
      rfl
     rw [htok]
     cases xDg (d + 1) (acc.length + 1) (xC9 false (((xAl s).drop i).drop (oneL ((xAl s).drop i)).len)) s.size with
     | ok l => simp [xDf, Except.map]
     | error e => simp [xDf, Except.map]
    ·rw [if_neg he, if_neg he, if_neg he, hpos]
     rfl
  ·rw [if_neg (by omega)]
   have : (xAl s).drop i = [] := List.drop_eq_nil_iff.2 (by rw [xAz]; omega)
   rw [this]
   unfold xDg
   simp [xDf]
theorem xF8 (s : ByteArray) : ∀ k, 5000 ≤ k → xB4.f k s = some (told (scan (xAl s))) := by
 intro k hk
 unfold xB4.f scan
 rw [xAz]
 by_cases h : 2000 < s.size
 ·rw [if_pos (by omega), if_pos h]
  rfl
 ·rw [if_neg (by omega), if_neg h]
  have hsk := xIq s (by omega) s.size 0 k (by omega) (by omega) (by omega)
  have hsb := xD0 s 0 (by omega)
  unfold xBa.f
  simp only [Int.natCast_zero] at hsk
  rw [hsk]
  simp only [Option.bind_some]
  rw [xK8 s (by omega) s.size (skipAt s 0) k [] (by omega) hsb.2 (by omega) (by simp), xDo s 0 (by omega), List.drop_zero]
  congr 1

/-- A byte that nothing goes on with. -/
def stops (x : Int) : Prop := xC6 x = false ∧ xAx x = false ∧ pHex x = false ∧ (xC2 x || (x == 95)) = false
theorem xJd (f cnt : Nat) (r : List Int) (total : Nat) : xDg (f + 1) cnt r total =
  if r = [] then .ok []
  else if cnt = 500 then .error (103, ((total - r.length : Nat) : Int))
  else if (oneL r).e = 0 then (xDg f (cnt + 1) (xC9 false (r.drop (oneL r).len)) total).map (xK5 (oneL r) (total - r.length) :: ·)
  else .error ((oneL r).e, ((total - r.length + (oneL r).off : Nat) : Int)) := rfl
theorem oneL_off (l : List Int) (h : l ≠ []) : (oneL l).off ≤ l.length := by
 cases l with
 | nil => exact absurd rfl h
 | cons c t =>
  have h2 := xCs xAx (c :: t)
  have h3 := xCs pHex t
  simp only [oneL]
  by_cases c1 : xC2 c = true
  ·rw [if_pos c1]
   simp
  ·rw [if_neg c1]
   by_cases c2 : xAx c = true
   ·rw [if_pos c2]
    simp only
    split <;> omega
   ·rw [if_neg c2]
    by_cases c3 : c = 36
    ·rw [if_pos c3]
     simp only [List.length_cons]
     split
     ·omega
     ·split <;> omega
    ·rw [if_neg c3]
     by_cases c4 : c = 40 ∨ c = 41 ∨ c = 44 ∨ c = 61 ∨ c = 59
     ·rw [if_pos c4]
      simp
     ·rw [if_neg c4]
      simp
theorem xHh : ∀ (f cnt : Nat) (r : List Int) (total : Nat) (e : Int × Int), xDg f cnt r total = .error e → r.length ≤ total → e.1 ≠ 0 ∧ 0 ≤ e.2 ∧ e.2 ≤ total
 | 0, _, _, _, l, h, _ => by simp [xDg] at h
 | f + 1, cnt, r, total, l, h, hr => by
  unfold xDg at h
  by_cases h1 : r = []
  ·rw [if_pos h1] at h; cases h
  ·rw [if_neg h1] at h
   by_cases h5 : cnt = 500
   ·rw [if_pos h5] at h
    simp only [Except.error.injEq] at h
    subst h
    simp only
    omega
   ·rw [if_neg h5] at h
    by_cases he : (oneL r).e = 0
    ·rw [if_pos he] at h
     cases hx : xDg f (cnt + 1) (xC9 false (r.drop (oneL r).len)) total with
     | error e =>
      rw [hx] at h
      simp only [Except.map, Except.error.injEq] at h
      subst h
      have hs := xD5 (r.drop (oneL r).len) false
      rw [List.length_drop] at hs
      exact xHh f (cnt + 1) _ total _ hx (by omega)
     | ok m => rw [hx] at h; cases h
    ·rw [if_neg he] at h
     simp only [Except.error.injEq] at h
     subst h
     refine ⟨he, by simp only; omega, ?_⟩
     simp only
     have := oneL_off r h1
     omega

theorem xCt (p : Int → Bool) : ∀ (l : List Int), ∀ x ∈ l.takeWhile p, p x = true
 | [], x, h => by simp at h
 | y :: l, x, h => by
  by_cases hx : p y = true
  ·rw [List.takeWhile_cons_of_pos hx] at h
   rcases List.mem_cons.1 h with rfl | h
   ·exact hx
   ·exact xCt p l x h
  ·rw [List.takeWhile_cons_of_neg hx] at h
   cases h
theorem xFq {c : Int} (h : xAx c = true) : 48 ≤ c ∧ c ≤ 57 := by
 unfold xAx at h
 simpa using h
/-- What a token without a fault is. -/
theorem oneL_ok (r : List Int) (h : r ≠ []) (he : (oneL r).e = 0) :
  ((oneL r).kind = 1 ∧ (oneL r).s = [] ∧ (oneL r).len = (r.takeWhile xAx).length ∧ 1 ≤ (oneL r).len ∧ (oneL r).len ≤ 9 ∧ (oneL r).n = xCh (r.takeWhile xAx)) ∨
  ((oneL r).kind = 2 ∧ r.head? = some 36 ∧ (oneL r).len = ((r.drop 1).takeWhile pHex).length + 1 ∧ (oneL r).s = (r.drop 1).takeWhile pHex ∧ 1 ≤ ((r.drop 1).takeWhile pHex).length ∧ ((r.drop 1).takeWhile pHex).length ≤ 128 ∧ (oneL r).n = 0) ∨
  ((oneL r).kind = 0 ∧ (∃ c, r.head? = some c ∧ xC2 c = true) ∧ (oneL r).len = (r.takeWhile xC6).length ∧ (oneL r).s = r.takeWhile xC6 ∧ 1 ≤ (r.takeWhile xC6).length ∧ (r.takeWhile xC6).length ≤ 16 ∧ (oneL r).n = 0) ∨
  ((oneL r).kind = 3 ∧ (∃ c t, r = c :: t ∧ (c = 40 ∨ c = 41 ∨ c = 44 ∨ c = 61 ∨ c = 59) ∧ (oneL r).s = [c]) ∧ (oneL r).len = 1 ∧ (oneL r).n = 0) := by
 cases r with
 | nil => exact absurd rfl h
 | cons c t =>
  simp only [oneL] at he ⊢
  by_cases h1 : xC2 c = true
  ·rw [if_pos h1] at he ⊢
   have hw : xC6 c = true := by unfold xC6; rw [h1]; rfl
   have : 1 ≤ ((c :: t).takeWhile xC6).length := by rw [List.takeWhile_cons_of_pos hw, List.length_cons]; omega
   refine Or.inr (Or.inr (Or.inl ⟨rfl, ⟨c, rfl, h1⟩, rfl, rfl, this, ?_, rfl⟩))
   simp only at he
   split at he
   ·exact absurd he (by decide)
   ·omega
  ·rw [if_neg h1] at he ⊢
   by_cases h2 : xAx c = true
   ·rw [if_pos h2] at he ⊢
    have : 1 ≤ ((c :: t).takeWhile xAx).length := by rw [List.takeWhile_cons_of_pos h2, List.length_cons]; omega
    refine Or.inl ⟨rfl, rfl, rfl, this, ?_, rfl⟩
    simp only at he ⊢
    split at he
    ·exact absurd he (by decide)
    ·omega
   ·rw [if_neg h2] at he ⊢
    by_cases h3 : c = 36
    ·rw [if_pos h3] at he ⊢
     subst h3
     simp only at he
     refine Or.inr (Or.inl ⟨rfl, rfl, rfl, rfl, ?_, ?_, rfl⟩)
     ·simp only [List.drop_succ_cons, List.drop_zero]
      split at he
      ·exact absurd he (by decide)
      ·omega
     ·simp only [List.drop_succ_cons, List.drop_zero]
      split at he
      ·exact absurd he (by decide)
      ·split at he
       ·exact absurd he (by decide)
       ·omega
    ·rw [if_neg h3] at he ⊢
     by_cases h4 : c = 40 ∨ c = 41 ∨ c = 44 ∨ c = 61 ∨ c = 59
     ·rw [if_pos h4]
      exact Or.inr (Or.inr (Or.inr ⟨rfl, ⟨c, t, rfl, h4, rfl⟩, rfl, rfl⟩))
     ·rw [if_neg h4] at he
      exact absurd he (by decide)
theorem xIx (x : Int) (h : x < 10000000000) : mn x 1099511627776 = x := by unfold mn; omega
theorem xFm (D : List Int) (hD : ∀ x ∈ D, xAx x = true) (h9 : D.length ≤ 9) : ∀ (j q : Nat), j ≤ D.length → q = 10 ^ j → 0 ≤ xCh (D.take j) ∧ xCh (D.take j) < (q : Int) ∧ q ≤ 1000000000
 | 0, q, _, hq => by subst hq; simp [xCh]
 | j + 1, q, h, hq => by
  have ih := xFm D hD h9 j (10 ^ j) (by omega) rfl
  have hx : D.take (j + 1) = D.take j ++ [D[j]] := by
   rw [List.take_add_one, List.getElem?_eq_getElem (by omega)]
   rfl
  have hd := xFq (hD D[j] (List.getElem_mem (by omega)))
  have hp : 10 ^ (j + 1) ≤ 1000000000 := by
   have := Nat.pow_le_pow_right (show 10 > 0 by decide) (show j + 1 ≤ 9 by omega)
   exact Nat.le_trans this (by decide)
  rw [← hq] at hp
  rw [Nat.pow_succ] at hq
  generalize 10 ^ j = b at *
  have hm := xIx (xCh (D.take j)) (by omega)
  rw [hx, xFn, hm]
  omega
theorem xHs (D : List Int) (hD : ∀ x ∈ D, xAx x = true) (h9 : D.length ≤ 9) (j : Nat) (hj : j ≤ D.length) : 0 ≤ xCh (D.take j) ∧ xCh (D.take j) < 1000000000 := by
 have := xFm D hD h9 j (10 ^ j) hj rfl
 generalize 10 ^ j = b at *
 omega

def digF : Nat → Nat → List Int
 | 0, _ => []
 | d + 1, n => if n = 0 then [] else digF d (n / 10) ++ [((48 + n % 10 : Nat) : Int)]
def digL (n : Nat) : List Int := if n = 0 then [48] else digF 9 n
theorem xJ2 : ∀ d n, (digF d n).length ≤ d
 | 0, n => by simp [digF]
 | d + 1, n => by
  have := xJ2 d (n / 10)
  unfold digF
  split
  ·simp
  ·simp; omega
theorem xJ3 : ∀ d n, ∀ x ∈ digF d n, xAx x = true
 | 0, n, x, h => by simp [digF] at h
 | d + 1, n, x, h => by
  unfold digF at h
  split at h
  ·cases h
  ·rcases List.mem_append.1 h with h | h
   ·exact xJ3 d _ x h
   ·obtain rfl := List.mem_singleton.1 h
    unfold xAx
    rw [decide_eq_true (show (48 : Int) ≤ ((48 + n % 10 : Nat) : Int) by omega), decide_eq_true (show ((48 + n % 10 : Nat) : Int) ≤ 57 by omega)]
    rfl
theorem digF_pos (d n : Nat) (h : n ≠ 0) : 1 ≤ (digF (d + 1) n).length := by
 unfold digF
 rw [if_neg h]
 simp
theorem xL2 (d n : Nat) (h : n ≠ 0) : digF (d + 1) n = digF d (n / 10) ++ [((48 + n % 10 : Nat) : Int)] := by rw [digF, if_neg h]
theorem digL_fig (n : Nat) : ∀ x ∈ digL n, xAx x = true := by
 unfold digL
 split
 ·intro x h
  obtain rfl := List.mem_singleton.1 h
  rfl
 ·exact xJ3 9 n
theorem xH1 (n : Nat) : 1 ≤ (digL n).length ∧ (digL n).length ≤ 9 := by
 unfold digL
 by_cases h0 : n = 0
 ·rw [if_pos h0]; simp
 ·rw [if_neg h0]
  exact ⟨digF_pos 8 n h0, xJ2 9 n⟩
def GoodK (kd : Int) (L : List Int) (n : Int) : Prop :=
 (kd = 1 ∧ L = [] ∧ 0 ≤ n ∧ n < 1000000000) ∨
 (kd = 2 ∧ (∀ x ∈ L, pHex x = true) ∧ 1 ≤ L.length ∧ L.length ≤ 128 ∧ n = 0) ∨
 (kd = 0 ∧ (∃ c t, L = c :: t ∧ xC2 c = true) ∧ (∀ x ∈ L, xC6 x = true) ∧ L.length ≤ 16 ∧ n = 0) ∨
 (kd = 3 ∧ (∃ c, L = [c] ∧ (c = 40 ∨ c = 41 ∨ c = 44 ∨ c = 61 ∨ c = 59)) ∧ n = 0)
def xH5 (t : S60) : Prop := GoodK t.f0 (xAl t.f1) t.f2
def txt (kd : Int) (L : List Int) (n : Int) : List Int := if kd = 1 then digL n.toNat else if kd = 2 then 36 :: L else L
theorem xHw {kd : Int} {L : List Int} {n : Int} (h : GoodK kd L n) : (∃ c t, txt kd L n = c :: t ∧ xCy c = false ∧ c ≠ 47) ∧ (txt kd L n).length ≤ 129 := by
 rcases h with ⟨rfl, rfl, h0, h1⟩ | ⟨rfl, hx, h1, h2, rfl⟩ | ⟨rfl, ⟨c, t, rfl, hc⟩, hx, h2, rfl⟩ | ⟨rfl, ⟨c, rfl, hc⟩, rfl⟩
 ·have e1 : txt 1 [] n = digL n.toNat := rfl
  rw [e1]
  have hl := xH1 n.toNat
  have hf := digL_fig n.toNat
  refine ⟨?_, by omega⟩
  cases hD : digL n.toNat with
  | nil => rw [hD] at hl; simp at hl
  | cons c t =>
   rw [hD] at hf
   have hc := xFq (hf c List.mem_cons_self)
   refine ⟨c, t, rfl, ?_, by omega⟩
   unfold xCy
   simp only [Bool.or_eq_false_iff, beq_eq_false_iff_ne]
   omega
 ·exact ⟨⟨36, L, rfl, by decide, by decide⟩, by show (36 :: L).length ≤ 129; simp; omega⟩
 ·refine ⟨⟨c, t, rfl, ?_, ?_⟩, by show (c :: t).length ≤ 129; omega⟩
  ·unfold xC2 at hc
   simp only [Bool.and_eq_true, decide_eq_true_eq] at hc
   unfold xCy
   simp only [Bool.or_eq_false_iff, beq_eq_false_iff_ne]
   omega
  ·unfold xC2 at hc
   simp only [Bool.and_eq_true, decide_eq_true_eq] at hc
   omega
 ·refine ⟨⟨c, [], rfl, ?_, ?_⟩, by show 1 ≤ 129; omega⟩ <;> rcases hc with rfl | rfl | rfl | rfl | rfl <;> decide
theorem xH3 (s : ByteArray) : ∀ x ∈ xAl s, 0 ≤ x ∧ x ≤ 255 := by
 intro x hx
 unfold xAl at hx
 obtain ⟨b, _, rfl⟩ := List.mem_map.1 hx
 have := b.toNat_lt
 omega
theorem xEt (l : List Int) (h : ∀ x ∈ l, 0 ≤ x ∧ x ≤ 255) : xAl (strOfNums l) = l := by
 unfold xAl strOfNums
 rw [List.toList_toArray, List.map_map]
 conv => rhs; rw [← List.map_id l]
 apply List.map_congr_left
 intro x hx
 have := h x hx
 simp only [Function.comp, id]
 rw [UInt8.toNat_ofNat_of_lt' (by simp [UInt8.size]; omega)]
 omega
theorem xG4 : ∀ (f cnt : Nat) (r : List Int) (total : Nat) (l : List S60), xDg f cnt r total = .ok l → (∀ x ∈ r, 0 ≤ x ∧ x ≤ 255) → ∀ t ∈ l, xH5 t
 | 0, _, _, _, l, h, _ => by
  simp only [xDg, Except.ok.injEq] at h
  subst h
  intro t ht
  cases ht
 | f + 1, cnt, r, total, l, h, hr => by
  rw [xJd] at h
  by_cases h1 : r = []
  ·rw [if_pos h1] at h
   simp only [Except.ok.injEq] at h
   subst h
   intro t ht
   cases ht
  ·rw [if_neg h1] at h
   by_cases h5 : cnt = 500
   ·rw [if_pos h5] at h; cases h
   ·rw [if_neg h5] at h
    by_cases he : (oneL r).e = 0
    ·rw [if_pos he] at h
     cases hx : xDg f (cnt + 1) (xC9 false (r.drop (oneL r).len)) total with
     | error e => rw [hx] at h; cases h
     | ok m =>
      rw [hx] at h
      simp only [Except.map, Except.ok.injEq] at h
      subst h
      intro t ht
      rcases List.mem_cons.1 ht with rfl | ht
      ·have hok := oneL_ok r h1 he
       have hmem : ∀ (p : Int → Bool) (q : Nat), ∀ x ∈ (r.drop q).takeWhile p, 0 ≤ x ∧ x ≤ 255 := fun p q x hx => hr x ((List.drop_sublist q r).subset ((List.takeWhile_sublist p).subset hx))
       have hrng : ∀ x ∈ (oneL r).s, 0 ≤ x ∧ x ≤ 255 := by
        rcases hok with ⟨_, hs, _⟩ | ⟨_, _, _, hs, _⟩ | ⟨_, _, _, hs, _⟩ | ⟨_, ⟨c, t, hr2, _, hs⟩, _⟩
        ·rw [hs]; intro x hx; cases hx
        ·rw [hs]; exact hmem pHex 1
        ·rw [hs]; exact hmem xC6 0
        ·rw [hs]
         intro x hx
         obtain rfl := List.mem_singleton.1 hx
         exact hr x (by rw [hr2]; exact List.mem_cons_self)
       unfold xH5
       simp only [xK5]
       rw [xEt _ hrng]
       rcases hok with ⟨hk, hs, hl, g1, g9, hn⟩ | ⟨hk, _, _, hs, g1, g2, hn⟩ | ⟨hk, ⟨c, hc, hlet⟩, hl, hs, g1, g2, hn⟩ | ⟨hk, ⟨c, t, hr2, hc, hs⟩, _, hn⟩
       ·have := xHs (r.takeWhile xAx) (xCt _ _) (by omega) (r.takeWhile xAx).length (Nat.le_refl _)
        rw [List.take_length, ← hn] at this
        exact Or.inl ⟨hk, hs, this⟩
       ·exact Or.inr (Or.inl ⟨hk, by rw [hs]; exact xCt _ _, by rw [hs]; exact g1, by rw [hs]; exact g2, hn⟩)
       ·refine Or.inr (Or.inr (Or.inl ⟨hk, ?_, by rw [hs]; exact xCt _ _, by rw [hs]; exact g2, hn⟩))
        cases r with
        | nil => cases hc
        | cons d t =>
         obtain rfl : d = c := Option.some.inj hc
         have hw : xC6 d = true := by unfold xC6; rw [hlet]; rfl
         exact ⟨d, _, by rw [hs, List.takeWhile_cons_of_pos hw], hlet⟩
       ·exact Or.inr (Or.inr (Or.inr ⟨hk, ⟨c, hs, hc⟩, hn⟩))
      ·exact xG4 f (cnt + 1) _ total m hx (fun x hx => hr x ((List.drop_sublist _ r).subset ((xCf _ _).subset hx))) t ht
    ·rw [if_neg he] at h; cases h
/-! ### the tokens, written, are read again -/
end Go.Proofs.YtknbfhhmjbnemaaDoor.Pure
end
section
namespace Go.Proofs.YtknbfhhmjbnemaaDoor.P
open Go.RowKit Go.Proofs.YtknbfhhmjbnemaaDoorW.PrintWords Go.Proofs.YtknbfhhmjbnemaaDoorW.PrintLast Go.Proofs.YtknbfhhmjbnemaaDoorW.PrintMore
attribute [local go_sem] xB9 xBe

/-! ### xAo: function 75 -/
def xAo.l0 : Nat → ByteArray → List ByteArray → Int → Option (Bool)
 | 0, _, _, _ => none
 | k + 1, x0, x3, x4 => if x4 < (x3.length : Int) then (if 0 ≤ x4 then (if (rdOf ByteArray.empty x3 x4).toList = x0.toList then (some true) else (xAo.l0 k x0 x3 (wrap64 (x4 + 1)))) else (none)) else (some false)
def xAo.f (k : Nat) (a0 : ByteArray) : Option (Bool) := xAo.l0 k a0 (([(⟨#[100, 101, 118, 105, 99, 101]⟩ : ByteArray), (⟨#[106, 111, 117, 114, 110, 97, 108]⟩ : ByteArray), (⟨#[107, 101, 121]⟩ : ByteArray), (⟨#[114, 111, 111, 116]⟩ : ByteArray), (⟨#[118, 111, 108, 117, 109, 101]⟩ : ByteArray), (⟨#[101, 120, 112, 111, 114, 116]⟩ : ByteArray), (⟨#[114, 101, 97, 100, 111, 110, 108, 121]⟩ : ByteArray), (⟨#[108, 105, 110, 101, 97, 114]⟩ : ByteArray), (⟨#[99, 111, 110, 99, 97, 116]⟩ : ByteArray), (⟨#[109, 105, 114, 114, 111, 114]⟩ : ByteArray), (⟨#[115, 110, 97, 112, 115, 104, 111, 116]⟩ : ByteArray), (⟨#[99, 114, 121, 112, 116]⟩ : ByteArray), (⟨#[105, 110, 116, 101, 103, 114, 105, 116, 121]⟩ : ByteArray), (⟨#[118, 101, 114, 105, 116, 121]⟩ : ByteArray)] : List ByteArray)) 0
set_option maxHeartbeats 8000000 in
set_option maxRecDepth 100000 in
theorem xAo.calls (k : Nat) (a0 : ByteArray) (r : Bool) (w : World) (h : xAo.f k a0 = some r) :
  Calls Tryd.prog 75 #[.string a0] w fun e w' => e = .returned (.bool r) ∧ Below w.heap.size w w' := by
 have HB := Aside0.mk (Below.refl w.heap.size w)
 have H : (xAo.l0 k a0 (([(⟨#[100, 101, 118, 105, 99, 101]⟩ : ByteArray), (⟨#[106, 111, 117, 114, 110, 97, 108]⟩ : ByteArray), (⟨#[107, 101, 121]⟩ : ByteArray), (⟨#[114, 111, 111, 116]⟩ : ByteArray), (⟨#[118, 111, 108, 117, 109, 101]⟩ : ByteArray), (⟨#[101, 120, 112, 111, 114, 116]⟩ : ByteArray), (⟨#[114, 101, 97, 100, 111, 110, 108, 121]⟩ : ByteArray), (⟨#[108, 105, 110, 101, 97, 114]⟩ : ByteArray), (⟨#[99, 111, 110, 99, 97, 116]⟩ : ByteArray), (⟨#[109, 105, 114, 114, 111, 114]⟩ : ByteArray), (⟨#[115, 110, 97, 112, 115, 104, 111, 116]⟩ : ByteArray), (⟨#[99, 114, 121, 112, 116]⟩ : ByteArray), (⟨#[105, 110, 116, 101, 103, 114, 105, 116, 121]⟩ : ByteArray), (⟨#[118, 101, 114, 105, 116, 121]⟩ : ByteArray)] : List ByteArray)) 0) = some r := h
 clear h
 obtain ⟨y236, hy236⟩ : ∃ y_ : List ByteArray, y_ = (([(⟨#[100, 101, 118, 105, 99, 101]⟩ : ByteArray), (⟨#[106, 111, 117, 114, 110, 97, 108]⟩ : ByteArray), (⟨#[107, 101, 121]⟩ : ByteArray), (⟨#[114, 111, 111, 116]⟩ : ByteArray), (⟨#[118, 111, 108, 117, 109, 101]⟩ : ByteArray), (⟨#[101, 120, 112, 111, 114, 116]⟩ : ByteArray), (⟨#[114, 101, 97, 100, 111, 110, 108, 121]⟩ : ByteArray), (⟨#[108, 105, 110, 101, 97, 114]⟩ : ByteArray), (⟨#[99, 111, 110, 99, 97, 116]⟩ : ByteArray), (⟨#[109, 105, 114, 114, 111, 114]⟩ : ByteArray), (⟨#[115, 110, 97, 112, 115, 104, 111, 116]⟩ : ByteArray), (⟨#[99, 114, 121, 112, 116]⟩ : ByteArray), (⟨#[105, 110, 116, 101, 103, 114, 105, 116, 121]⟩ : ByteArray), (⟨#[118, 101, 114, 105, 116, 121]⟩ : ByteArray)] : List ByteArray)) := ⟨_, rfl⟩
 replace H : (xAo.l0 k a0 y236 0) = some r := by first | (rw [hy236]; with_reducible exact H) | (have H2_ := (Option.bind_some _ _).symm.trans H; rw [hy236]; with_reducible exact H2_) | (have H2_ := (Option.bind_some _ _).symm.trans H; with_reducible exact H2_) | with_reducible exact H | (rw [hy236]; exact H) | exact H
 have Ny236 := Aside0.mk hy236
 clear hy236
 have H' := Aside0.mk H
 clear H
 go_enter Tryd.func75, Tryd.ntmps75
 go_wp2_with (first | ((with_reducible refine xBq (N := 5) rfl ?_); refine Kd.R_lit Kd.string _ 9 ?hg (N := 5) ?hd (xs := ([(⟨#[100, 101, 118, 105, 99, 101]⟩ : ByteArray), (⟨#[106, 111, 117, 114, 110, 97, 108]⟩ : ByteArray), (⟨#[107, 101, 121]⟩ : ByteArray), (⟨#[114, 111, 111, 116]⟩ : ByteArray), (⟨#[118, 111, 108, 117, 109, 101]⟩ : ByteArray), (⟨#[101, 120, 112, 111, 114, 116]⟩ : ByteArray), (⟨#[114, 101, 97, 100, 111, 110, 108, 121]⟩ : ByteArray), (⟨#[108, 105, 110, 101, 97, 114]⟩ : ByteArray), (⟨#[99, 111, 110, 99, 97, 116]⟩ : ByteArray), (⟨#[109, 105, 114, 114, 111, 114]⟩ : ByteArray), (⟨#[115, 110, 97, 112, 115, 104, 111, 116]⟩ : ByteArray), (⟨#[99, 114, 121, 112, 116]⟩ : ByteArray), (⟨#[105, 110, 116, 101, 103, 114, 105, 116, 121]⟩ : ByteArray), (⟨#[118, 101, 114, 105, 116, 121]⟩ : ByteArray)] : List ByteArray)) (inner := [.string (⟨#[100, 101, 118, 105, 99, 101]⟩ : ByteArray), .string (⟨#[106, 111, 117, 114, 110, 97, 108]⟩ : ByteArray), .string (⟨#[107, 101, 121]⟩ : ByteArray), .string (⟨#[114, 111, 111, 116]⟩ : ByteArray), .string (⟨#[118, 111, 108, 117, 109, 101]⟩ : ByteArray), .string (⟨#[101, 120, 112, 111, 114, 116]⟩ : ByteArray), .string (⟨#[114, 101, 97, 100, 111, 110, 108, 121]⟩ : ByteArray), .string (⟨#[108, 105, 110, 101, 97, 114]⟩ : ByteArray), .string (⟨#[99, 111, 110, 99, 97, 116]⟩ : ByteArray), .string (⟨#[109, 105, 114, 114, 111, 114]⟩ : ByteArray), .string (⟨#[115, 110, 97, 112, 115, 104, 111, 116]⟩ : ByteArray), .string (⟨#[99, 114, 121, 112, 116]⟩ : ByteArray), .string (⟨#[105, 110, 116, 101, 103, 114, 105, 116, 121]⟩ : ByteArray), .string (⟨#[118, 101, 114, 105, 116, 121]⟩ : ByteArray)]) (ok := fun _ => True) (okp := fun _ => True) ?hr ?hp (fun _ hk => hk) trivial (Below.refl _ _) (Nat.le_refl _) (by simp) ?_; (case hd => rfl); (case hg => rfl); (case hr => first | (go_simp; done) | (go_simp; rfl)); (case hp => exact (Reps.one (show Kd.M Kd.string _ _ _ (⟨#[100, 101, 118, 105, 99, 101]⟩ : ByteArray) [.string (⟨#[100, 101, 118, 105, 99, 101]⟩ : ByteArray)] from rfl) (Reps.one (show Kd.M Kd.string _ _ _ (⟨#[106, 111, 117, 114, 110, 97, 108]⟩ : ByteArray) [.string (⟨#[106, 111, 117, 114, 110, 97, 108]⟩ : ByteArray)] from rfl) (Reps.one (show Kd.M Kd.string _ _ _ (⟨#[107, 101, 121]⟩ : ByteArray) [.string (⟨#[107, 101, 121]⟩ : ByteArray)] from rfl) (Reps.one (show Kd.M Kd.string _ _ _ (⟨#[114, 111, 111, 116]⟩ : ByteArray) [.string (⟨#[114, 111, 111, 116]⟩ : ByteArray)] from rfl) (Reps.one (show Kd.M Kd.string _ _ _ (⟨#[118, 111, 108, 117, 109, 101]⟩ : ByteArray) [.string (⟨#[118, 111, 108, 117, 109, 101]⟩ : ByteArray)] from rfl) (Reps.one (show Kd.M Kd.string _ _ _ (⟨#[101, 120, 112, 111, 114, 116]⟩ : ByteArray) [.string (⟨#[101, 120, 112, 111, 114, 116]⟩ : ByteArray)] from rfl) (Reps.one (show Kd.M Kd.string _ _ _ (⟨#[114, 101, 97, 100, 111, 110, 108, 121]⟩ : ByteArray) [.string (⟨#[114, 101, 97, 100, 111, 110, 108, 121]⟩ : ByteArray)] from rfl) (Reps.one (show Kd.M Kd.string _ _ _ (⟨#[108, 105, 110, 101, 97, 114]⟩ : ByteArray) [.string (⟨#[108, 105, 110, 101, 97, 114]⟩ : ByteArray)] from rfl) (Reps.one (show Kd.M Kd.string _ _ _ (⟨#[99, 111, 110, 99, 97, 116]⟩ : ByteArray) [.string (⟨#[99, 111, 110, 99, 97, 116]⟩ : ByteArray)] from rfl) (Reps.one (show Kd.M Kd.string _ _ _ (⟨#[109, 105, 114, 114, 111, 114]⟩ : ByteArray) [.string (⟨#[109, 105, 114, 114, 111, 114]⟩ : ByteArray)] from rfl) (Reps.one (show Kd.M Kd.string _ _ _ (⟨#[115, 110, 97, 112, 115, 104, 111, 116]⟩ : ByteArray) [.string (⟨#[115, 110, 97, 112, 115, 104, 111, 116]⟩ : ByteArray)] from rfl) (Reps.one (show Kd.M Kd.string _ _ _ (⟨#[99, 114, 121, 112, 116]⟩ : ByteArray) [.string (⟨#[99, 114, 121, 112, 116]⟩ : ByteArray)] from rfl) (Reps.one (show Kd.M Kd.string _ _ _ (⟨#[105, 110, 116, 101, 103, 114, 105, 116, 121]⟩ : ByteArray) [.string (⟨#[105, 110, 116, 101, 103, 114, 105, 116, 121]⟩ : ByteArray)] from rfl) (Reps.one (show Kd.M Kd.string _ _ _ (⟨#[118, 101, 114, 105, 116, 121]⟩ : ByteArray) [.string (⟨#[118, 101, 114, 105, 116, 121]⟩ : ByteArray)] from rfl) (Reps.none _ _)))))))))))))))); intro v237 w2 ho3 hb hg_ hnew_; clear hg_ hnew_; (first | rw [← Ny236.out] at ho3 | (simp only [Int.reduceToNat] at ho3; rw [← Ny236.out] at ho3)); have n0_ := Aside0.mk (Kd.R_lower ho3 (xAs (by repeat (first | (with_reducible first | exact HB.out | apply xA1 | apply xA0 | apply below_drew1) | exact HB.out)))); have n1_ := Aside0.mk (xAi (by repeat (first | (with_reducible first | exact HB.out | apply xA1 | apply xA0 | apply below_drew1) | exact HB.out)) hb); clear HB; have HO238 := n0_; have HB := n1_; clear n0_ n1_; clear hb ho3))
 go_loopg [4] k (fun kq v4 w' => ∃ (x4_1 : Int), v4 = .int .i64 x4_1 ∧ Aside0 (xAo.l0 kq a0 y236 x4_1 = some r) ∧ Aside0 (kq ≤ k) ∧ Aside0 (Kd.R Kd.string 9 w' w.heap.size (fun _ => True) v237 y236) ∧ Aside0 (Below w.heap.size w w'))
 case atStart => exact ⟨(0), (by first | rfl | (simp; done) | (simp [*]; done)), H', ⟨Nat.le_refl _⟩, ⟨by (with_reducible repeat (first | apply Kd.R_alloc | apply Kd.R_drewN | apply Kd.R_drew)); exact HO238.out⟩, ⟨by repeat (first | (with_reducible first | exact HB.out | apply xA1 | apply xA0 | apply below_drew1) | exact HB.out)⟩⟩
 case round =>
  clear H'
  try clear p2
  obtain ⟨x4_1, rfl, HA, HK1, HO_3, HB⟩ := hrel
  cases gk with
  | zero => exact absurd HA.out (by simp [xAo.l0])
  | succ k1 =>
   have H := HA.out
   clear HA
   simp only [xAo.l0] at H
   by_cases c4 : x4_1 < (y236.length : Int)
   ·rw [if_pos c4] at H
    have c4b0 : decide (x4_1 < (y236.length : Int)) = true := decide_eq_true c4
    clear c4
    by_cases c5 : 0 ≤ x4_1
    ·rw [if_pos c5] at H
     have c5b0 : decide (0 ≤ x4_1) = true := decide_eq_true c5
     clear c5
     by_cases c6 : (rdOf ByteArray.empty y236 x4_1).toList = a0.toList
     ·rw [if_pos c6] at H
      have c6b0 : ((rdOf ByteArray.empty y236 x4_1).toList == a0.toList) = true := beq_iff_eq.mpr c6
      have c6b1 : ((rdOf ByteArray.empty y236 x4_1).toList != a0.toList) = false := bne_eq_false_iff_eq.mpr c6
      clear c6
      obtain rfl := Option.some.inj H
      obtain ⟨Ao7, co7, eo7⟩ := Kd.R_slice HO_3.out
      subst eo7
      have p239 : 0 ≤ (x4_1 : Int) := of_decide_eq_true (by first | (with_reducible assumption) | assumption)
      have q239 : x4_1 < (y236.length : Int) := of_decide_eq_true (by first | (with_reducible assumption) | assumption)
      obtain ⟨ad239, e239, hx239_0⟩ := Kd.at_string (Kd.R_reads' HO_3.out).2.2 x4_1 p239 q239
      cases e239
      replace p239 := eq_true p239
      replace q239 := eq_true q239
      go_wp2
      go_ret
      exact ⟨by first | rfl | (simp <;> rfl) | (simp [*] <;> rfl), by repeat (first | (with_reducible first | exact HB.out | apply xA1 | apply xA0 | apply below_drew1) | exact HB.out)⟩
     ·rw [if_neg c6] at H
      have c6b0 : ((rdOf ByteArray.empty y236 x4_1).toList == a0.toList) = false := beq_eq_false_iff_ne.mpr c6
      have c6b1 : ((rdOf ByteArray.empty y236 x4_1).toList != a0.toList) = true := bne_iff_ne.mpr c6
      have H' := Aside0.mk H
      clear H
      obtain ⟨Ao8, co8, eo8⟩ := Kd.R_slice HO_3.out
      subst eo8
      have p239 : 0 ≤ (x4_1 : Int) := of_decide_eq_true (by first | (with_reducible assumption) | assumption)
      have q239 : x4_1 < (y236.length : Int) := of_decide_eq_true (by first | (with_reducible assumption) | assumption)
      obtain ⟨ad239, e239, hx239_0⟩ := Kd.at_string (Kd.R_reads' HO_3.out).2.2 x4_1 p239 q239
      cases e239
      replace p239 := eq_true p239
      replace q239 := eq_true q239
      go_wp2
      go_roundg k1
      case measure => have := HK1.out; omega
      case rel => exact ⟨(wrap64 (x4_1 + 1)), (by first | rfl | (simp; done) | (simp [*]; done)), H', ⟨by have := HK1.out; omega⟩, ⟨by (with_reducible repeat (first | apply Kd.R_alloc | apply Kd.R_drewN | apply Kd.R_drew)); exact HO_3.out⟩, ⟨by repeat (first | (with_reducible first | exact HB.out | apply xA1 | apply xA0 | apply below_drew1) | exact HB.out)⟩⟩
    ·rw [if_neg c5] at H
     exact absurd H (by simp)
   ·rw [if_neg c4] at H
    have c4b0 : decide (x4_1 < (y236.length : Int)) = false := decide_eq_false c4
    clear c4
    obtain rfl := Option.some.inj H
    obtain ⟨Ao9, co9, eo9⟩ := Kd.R_slice HO_3.out
    subst eo9
    go_wp2
    go_ret
    exact ⟨by first | rfl | (simp <;> rfl) | (simp [*] <;> rfl), by repeat (first | (with_reducible first | exact HB.out | apply xA1 | apply xA0 | apply below_drew1) | exact HB.out)⟩

end Go.Proofs.YtknbfhhmjbnemaaDoor.P
end
section
namespace Go.Proofs.YtknbfhhmjbnemaaDoor.Pure
open Go.RowKit Go.Proofs.YtknbfhhmjbnemaaDoor.P Go.Proofs.YtknbfhhmjbnemaaDoorW.PrintWords Go.Proofs.YtknbfhhmjbnemaaDoorW.PrintLast

def xKu : List (List UInt8) → List UInt8
 | [] => [32]
 | v :: l => 32 :: (v ++ xKu l)
theorem xJv (l : List (List UInt8)) : ∃ r, xKu l = 32 :: r := by
 cases l with
 | nil => exact ⟨[], rfl⟩
 | cons v l => exact ⟨_, rfl⟩
theorem xD1 (b : UInt8) (l sub : List UInt8) : Lib.contains (b :: l) sub = (sub.isPrefixOf (b :: l) || Lib.contains l sub) := by
 unfold Lib.contains
 have hge := Lib.index_ge l sub
 rw [Lib.index]
 by_cases h : sub.isPrefixOf (b :: l) = true
 ·simp [h]
 ·rw [Bool.eq_false_iff.2 h]
  by_cases h2 : Lib.index l sub = -1
  ·simp [h2]
  ·have h3 : (Lib.index l sub == -1) = false := by simpa using h2
   simp only [h3, Bool.false_or]
   rw [decide_eq_decide]
   simp
   omega
theorem xEg (x : List UInt8) : ∀ (v l : List UInt8), 32 ∉ v → Lib.contains (v ++ l) (32 :: x) = Lib.contains l (32 :: x)
 | [], l, _ => rfl
 | b :: v, l, h => by
  have hb : b ≠ 32 := fun e => h (by rw [e]; exact List.mem_cons_self)
  rw [List.cons_append, xD1, xEg x v l (fun e => h (List.mem_cons_of_mem _ e))]
  have : (32 :: x).isPrefixOf (b :: (v ++ l)) = false := by
   simp only [List.isPrefixOf, Bool.and_eq_false_iff]
   exact Or.inl (beq_eq_false_iff_ne.2 (fun e => hb e.symm))
  rw [this, Bool.false_or]
theorem xFk : ∀ (u v r : List UInt8), 32 ∉ u → 32 ∉ v → (u ++ [32]).isPrefixOf (v ++ 32 :: r) = decide (u = v)
 | [], [], r, _, _ => by simp [List.isPrefixOf]
 | [], b :: v, r, _, hv => by
  have hb : b ≠ 32 := fun e => hv (by rw [e]; exact List.mem_cons_self)
  have : ((32 : UInt8) == b) = false := beq_eq_false_iff_ne.2 (fun e => hb e.symm)
  simp [List.isPrefixOf, this]
 | c :: u, [], r, hu, _ => by
  have hc : c ≠ 32 := fun e => hu (by rw [e]; exact List.mem_cons_self)
  have : (c == (32 : UInt8)) = false := beq_eq_false_iff_ne.2 hc
  simp [List.isPrefixOf, this]
 | c :: u, b :: v, r, hu, hv => by
  rw [List.cons_append, List.cons_append, List.isPrefixOf, xFk u v r (fun e => hu (List.mem_cons_of_mem _ e)) (fun e => hv (List.mem_cons_of_mem _ e))]
  by_cases h : c = b
  ·subst h; simp
  ·have : (c == b) = false := beq_eq_false_iff_ne.2 h
   rw [this]
   simp [h]
theorem xE3 (u : List UInt8) (hu : 32 ∉ u) : ∀ (l : List (List UInt8)), (∀ v ∈ l, 32 ∉ v) → Lib.contains (xKu l) (32 :: (u ++ [32])) = l.any (fun v => decide (u = v))
 | [], _ => by
  show Lib.contains [32] (32 :: (u ++ [32])) = false
  rw [xD1]
  have h1 : (32 :: (u ++ [32])).isPrefixOf [32] = false := by
   cases u <;> simp [List.isPrefixOf]
  rw [h1]
  unfold Lib.contains
  rw [Lib.index]
  simp
 | v :: l, h => by
  obtain ⟨r, hr⟩ := xJv l
  show Lib.contains (32 :: (v ++ xKu l)) (32 :: (u ++ [32])) = _
  rw [xD1, xEg _ v _ (h v List.mem_cons_self), xE3 u hu l (fun x hx => h x (List.mem_cons_of_mem _ hx)), List.any_cons]
  congr 1
  rw [List.isPrefixOf, hr, xFk u v r hu (h v List.mem_cons_self)]
  simp
def xF9 : List (List UInt8) := [[100, 101, 118, 105, 99, 101], [106, 111, 117, 114, 110, 97, 108], [107, 101, 121], [114, 111, 111, 116], [118, 111, 108, 117, 109, 101], [101, 120, 112, 111, 114, 116], [114, 101, 97, 100, 111, 110, 108, 121], [108, 105, 110, 101, 97, 114], [99, 111, 110, 99, 97, 116], [109, 105, 114, 114, 111, 114], [115, 110, 97, 112, 115, 104, 111, 116], [99, 114, 121, 112, 116], [105, 110, 116, 101, 103, 114, 105, 116, 121], [118, 101, 114, 105, 116, 121]]
def resB (u : List UInt8) : Bool := xF9.any (fun v => decide (u = v))
theorem xFf : ∀ v ∈ xF9, 32 ∉ v ∧ v ≠ [] := by decide
theorem xKb (u : List UInt8) (h : u = [] ∨ 32 ∈ u) : resB u = false := by
 unfold resB
 rw [List.any_eq_false]
 intro v hv he
 have he := of_decide_eq_true he
 subst he
 have := xFf u hv
 rcases h with h | h
 ·exact this.2 h
 ·exact this.1 h
theorem xGm : ∀ (u : List UInt8), Lib.contains u [32] = decide (32 ∈ u)
 | [] => rfl
 | b :: u => by
  rw [xD1, xGm u]
  by_cases h : b = 32
  ·subst h; simp [List.isPrefixOf]
  ·have h2 : ((32 : UInt8) == b) = false := beq_eq_false_iff_ne.2 (fun e => h e.symm)
   have h3 : ¬ (32 : UInt8) = b := fun e => h e.symm
   simp [List.isPrefixOf, h2, h3]
def xI5 : ByteArray := ⟨#[32, 100, 101, 118, 105, 99, 101, 32, 106, 111, 117, 114, 110, 97, 108, 32, 107, 101, 121, 32, 114, 111, 111, 116, 32, 118, 111, 108, 117, 109, 101, 32, 101, 120, 112, 111, 114, 116, 32, 114, 101, 97, 100, 111, 110, 108, 121, 32, 108, 105, 110, 101, 97, 114, 32, 99, 111, 110, 99, 97, 116, 32, 109, 105, 114, 114, 111, 114, 32, 115, 110, 97, 112, 115, 104, 111, 116, 32, 99, 114, 121, 112, 116, 32, 105, 110, 116, 101, 103, 114, 105, 116, 121, 32, 118, 101, 114, 105, 116, 121, 32]⟩
theorem xHj : xI5.data.toList = xKu xF9 := by decide
theorem xHi (a : ByteArray) (ha : a.size ≤ 140737488351232) : xC0.f a = some (resB a.data.toList) := by
 unfold xC0.f
 rw [ByteArray.toList_eq]
 by_cases h0 : a.data.toList = []
 ·rw [if_pos h0, xKb _ (Or.inl h0)]
 ·rw [if_neg h0]
  have h1 : strings_Contains.f a (⟨#[32]⟩ : ByteArray) = some (decide (32 ∈ a.data.toList)) := by
   unfold strings_Contains.f
   rw [if_pos (Or.inl (show (⟨#[32]⟩ : ByteArray).size = 1 from rfl)), ← xGm]
  rw [h1]
  simp only [Option.bind_some]
  by_cases h2 : 32 ∈ a.data.toList
  ·rw [if_pos (decide_eq_true h2), xKb _ (Or.inr h2)]
  ·rw [if_neg (by simpa using h2), if_pos (by omega), if_pos (by rw [ByteArray.size_append]; show 1 + a.size + 1 ≤ _; omega)]
   have h3 : strings_Contains.f xI5 (((⟨#[32]⟩ : ByteArray) ++ a) ++ (⟨#[32]⟩ : ByteArray)) = some (resB a.data.toList) := by
    unfold strings_Contains.f
    rw [if_pos (Or.inr (by decide)), xHj]
    have h4 : (((⟨#[32]⟩ : ByteArray) ++ a) ++ (⟨#[32]⟩ : ByteArray)).data.toList = 32 :: (a.data.toList ++ [32]) := by
     rw [ByteArray.data_append, ByteArray.data_append, Array.toList_append, Array.toList_append]
     rfl
    rw [h4, xE3 _ h2 xF9 (fun v hv => (xFf v hv).1)]
    rfl
   show (strings_Contains.f xI5 (((⟨#[32]⟩ : ByteArray) ++ a) ++ (⟨#[32]⟩ : ByteArray))).bind _ = _
   rw [h3]
   rfl
theorem ref_run0 (a : ByteArray) (xs : List ByteArray) (hx : xs.length ≤ 1000) : ∀ (d i k : Nat), xs.length - i ≤ d → i ≤ xs.length → d < k → xAo.l0 k a xs i = some ((xs.drop i).any (fun x => decide (a.data.toList = x.data.toList))) := by
 intro d
 induction d with
 | zero =>
  intro i k hd hi hk
  obtain ⟨k, rfl⟩ : ∃ m, k = m + 1 := ⟨k - 1, by omega⟩
  rw [xAo.l0, if_neg (by omega), List.drop_of_length_le (by omega)]
  rfl
 | succ d ih =>
  intro i k hd hi hk
  obtain ⟨k, rfl⟩ : ∃ m, k = m + 1 := ⟨k - 1, by omega⟩
  by_cases hlt : i < xs.length
  ·have c1 : ((i : Nat) : Int) < (xs.length : Int) := by omega
   have hd2 : xs.drop i = xs[i] :: xs.drop (i + 1) := List.drop_eq_getElem_cons hlt
   have hg : rdOf ByteArray.empty xs (i : Int) = xs[i] := by
    unfold rdOf
    rw [Int.toNat_natCast, List.getD_eq_getElem?_getD, List.getElem?_eq_getElem hlt]
    rfl
   rw [xAo.l0, if_pos c1, if_pos (Int.natCast_nonneg _), hg, hd2, List.any_cons, ByteArray.toList_eq, ByteArray.toList_eq]
   by_cases he : xs[i].data.toList = a.data.toList
   ·rw [if_pos he, decide_eq_true he.symm]
    rfl
   ·have ih2 := ih (i + 1) k (by omega) (by omega) (by omega)
    have hw : wrap64 ((i : Int) + 1) = ((i + 1 : Nat) : Int) := by unfold wrap64; omega
    rw [if_neg he, hw, ih2, decide_eq_false (fun e => he e.symm), Bool.false_or]
  ·rw [xAo.l0, if_neg (by omega), List.drop_of_length_le (by omega)]
   rfl
theorem ref_run (a : ByteArray) (k : Nat) (hk : 20 < k) : xAo.f k a = some (resB a.data.toList) := by
 unfold xAo.f
 exact ref_run0 a _ (by decide) 14 0 k (by decide) (by decide) (by omega)
end Go.Proofs.YtknbfhhmjbnemaaDoor.Pure
end
section
namespace Go.Proofs.YtknbfhhmjbnemaaDoor.P
open Go.RowKit Go.Proofs.YtknbfhhmjbnemaaDoorW.PrintWords Go.Proofs.YtknbfhhmjbnemaaDoorW.PrintLast Go.Proofs.YtknbfhhmjbnemaaDoorW.PrintMore Go.Proofs.YtknbfhhmjbnemaaDoor.Pure

/-- The rounds suffice. -/
def Gd (t : S60) : Prop := ∃ b, presv t.f1 = some b
def Tot {α : Type} (m : Nat) (g : G α) : Prop := ∀ T en, T.length < m → (∀ t ∈ T, Gd t) → ∃ r, g T en = some r
section
variable {α β : Type} {g : G α} {h : α → G β} {m : Nat}
end
theorem xHf {s : ByteArray} {T : List S60} (h : scan (xAl s) = .ok T) : ∀ t ∈ T, xH5 t := by
 unfold scan at h
 split at h
 ·cases h
 ·exact xG4 _ _ _ _ _ h (fun x hx => xH3 s x ((xCf _ _).subset hx))
theorem xHg {l : List Int} {e : Int × Int} (h : scan l = .error e) : e.1 ≠ 0 := by
 unfold scan at h
 split at h
 ·cases h; decide
 ·exact (xHh _ _ _ _ _ h (xD5 _ _)).1
end Go.Proofs.YtknbfhhmjbnemaaDoor.P
end
section
namespace Go.Proofs.YtknbfhhmjbnemaaDoor.P
open Go.RowKit Go.Proofs.YtknbfhhmjbnemaaDoorW.PrintWords Go.Proofs.YtknbfhhmjbnemaaDoorW.PrintLast Go.Proofs.YtknbfhhmjbnemaaDoorW.PrintMore
attribute [local go_sem] xB9 xBe

/-! ### cofferdamref11_Same: function 10 -/
mutual
def cofferdamref11_Same.j0 : Nat → Bool → Bool → ByteArray → ByteArray → Int → Int → List (S25) → ByteArray → ByteArray → Int → Int → List (S25) → Option (Bool)
 | 0, _, _, _, _, _, _, _, _, _, _, _, _ => none
 | k + 1, x2, x46, x202000, x202001, x202002, x202003, x202004, x203000, x203001, x203002, x203003, x203004 => if x46 = true then (some false) else (cofferdamref11_Same.l0 k x2 0 x202000 x202001 x202002 x202003 x202004 x203000 x203001 x203002 x203003 x203004)
def cofferdamref11_Same.l0 : Nat → Bool → Int → ByteArray → ByteArray → Int → Int → List (S25) → ByteArray → ByteArray → Int → Int → List (S25) → Option (Bool)
 | 0, _, _, _, _, _, _, _, _, _, _, _, _ => none
 | k + 1, x2, x7, x202000, x202001, x202002, x202003, x202004, x203000, x203001, x203002, x203003, x203004 => if x7 < (x202004.length : Int) then (if 0 ≤ x7 then (if x7 < (x203004.length : Int) then ((cofferdamref11_Same.f k ((xA2 x202004 x7).f0) ((xA2 x202004 x7).f1) ((xA2 x202004 x7).f2) ((xA2 x202004 x7).f3) ((xA2 x202004 x7).f4) ((xA2 x203004 x7).f0) ((xA2 x203004 x7).f1) ((xA2 x203004 x7).f2) ((xA2 x203004 x7).f3) ((xA2 x203004 x7).f4) x2).bind fun t205 => (if t205 = true then (cofferdamref11_Same.l0 k x2 (wrap64 (x7 + 1)) x202000 x202001 x202002 x202003 x202004 x203000 x203001 x203002 x203003 x203004) else (some false))) else (none)) else (none)) else (some true)
def cofferdamref11_Same.f : Nat → ByteArray → ByteArray → Int → Int → List (S25) → ByteArray → ByteArray → Int → Int → List (S25) → Bool → Option (Bool)
 | 0, _, _, _, _, _, _, _, _, _, _, _ => none
 | k + 1, a0_0, a0_1, a0_2, a0_3, l0_4, a1_0, a1_1, a1_2, a1_3, l1_4, a2 => if a0_0.toList = a1_0.toList then (if a0_1.toList = a1_1.toList then (if a0_2 = a1_2 then (if a2 = true then (if a0_3 = a1_3 then (cofferdamref11_Same.j0 k a2 ((l0_4.length : Int) != (l1_4.length : Int)) a0_0 a0_1 a0_2 a0_3 l0_4 a1_0 a1_1 a1_2 a1_3 l1_4) else (cofferdamref11_Same.j0 k a2 true a0_0 a0_1 a0_2 a0_3 l0_4 a1_0 a1_1 a1_2 a1_3 l1_4)) else (cofferdamref11_Same.j0 k a2 ((l0_4.length : Int) != (l1_4.length : Int)) a0_0 a0_1 a0_2 a0_3 l0_4 a1_0 a1_1 a1_2 a1_3 l1_4)) else (cofferdamref11_Same.j0 k a2 true a0_0 a0_1 a0_2 a0_3 l0_4 a1_0 a1_1 a1_2 a1_3 l1_4)) else (cofferdamref11_Same.j0 k a2 true a0_0 a0_1 a0_2 a0_3 l0_4 a1_0 a1_1 a1_2 a1_3 l1_4)) else (cofferdamref11_Same.j0 k a2 true a0_0 a0_1 a0_2 a0_3 l0_4 a1_0 a1_1 a1_2 a1_3 l1_4)
end
end Go.Proofs.YtknbfhhmjbnemaaDoor.P
end
section
namespace Go.Proofs.YtknbfhhmjbnemaaDoor.P
open Go.RowKit Go.Proofs.YtknbfhhmjbnemaaDoorW.PrintWords Go.Proofs.YtknbfhhmjbnemaaDoorW.PrintLast Go.Proofs.YtknbfhhmjbnemaaDoorW.PrintMore Go.Proofs.YtknbfhhmjbnemaaDoor.Pure

/-! trees that the parser makes are of a modest width; alike trees are the same -/
def bnd : Nat → S25 → Prop
 | 0, _ => True
 | k + 1, n => n.f4.length ≤ 1000002 ∧ ∀ x ∈ n.f4, bnd k x
def Bn (n : S25) : Prop := ∀ k, bnd k n
def Bl (l : List S25) : Prop := l.length ≤ 1000002 ∧ ∀ x ∈ l, Bn x
/-- What a result is like. -/
def Post {α : Type} (g : G α) (Q : α → Prop) : Prop := ∀ T en a T', g T en = some (.ok (a, T')) → Q a
section
variable {α β : Type} {g : G α} {h : α → G β} {Q : α → Prop} {R : β → Prop}
end
/-! Same -/
theorem xE1 {l : List S25} {i : Nat} (hi : i < l.length) : xA2 l (i : Int) ∈ l := by
 unfold xA2
 simp only [Int.toNat_natCast, List.getD_eq_getElem?_getD, List.getElem?_eq_getElem hi, Option.getD_some]
 exact List.getElem_mem hi
theorem xJc {n x : S25} (h : x ∈ n.f4) : SizeOf.sizeOf x < SizeOf.sizeOf n := by
 have h1 := List.sizeOf_lt_of_mem h
 cases n
 simp only [S25.mk.sizeOf_spec]
 simp only at h1
 omega
def Ec {α : Type} (g : G α) : Prop := ∀ T en x, g T en = some (.error x) → x.1 = 111 ∨ x.1 = 112

/-! words of the laws' walks -/
/-- A node that is read: what it leads to lies in ok. -/
structure NodeF (W : World) (ok : Nat → Prop) (n : S25) (A : Option Addr) (c : Nat) : Prop where
 hc : n.f4.length ≤ c
 hF : Kd.F k25 W ok A n.f4.length n.f4
/-- .. in a box. -/
structure NodeX (W : World) (b : Nat) (ok : Nat → Prop) (n : S25) (A : Option Addr) (c : Nat) : Prop where
 blk : W.heap[b]? = some (.cells #[.string n.f0, .string n.f1, .int .i64 n.f2, .int .i64 n.f3, .slice A n.f4.length c] 25 (0, 0))
 nd : NodeF W ok n A c
/-- What a law's walk carries: memory as it was, the library's variables. -/
structure LawW (m : Int) (w W : World) : Prop where
 hm : W.cell? ⟨0, 0, none⟩ = some (.int .i64 m)
 ht : TabW W
 bel : Below w.heap.size w W
theorem LawW.below {m : Int} {w W W1 : World} (h : LawW m w W) (hb : Below W.heap.size W W1) : LawW m w W1 := ⟨xAq hb h.hm, h.ht.below hb, xC5 h.bel h.bel.size hb⟩
theorem LawW.alloc {m : Int} {w W : World} (h : LawW m w W) (o : Obj) : LawW m w (W.alloc o) := h.below (xA1 (Below.refl _ _) _)
theorem xKs {m : Int} {w W : World} (h : LawW m w W) : Calls Tryd.prog 8 #[] W fun e w' => e = .returned (.bool true) ∧ LawW m w w' ∧ Below W.heap.size W w' :=
 (xFu m W h.hm h.ht).mono fun e w' ⟨he, hb⟩ => ⟨he, h.below hb, hb⟩
/-- How a law ends. -/
def LawEnd (w : World) (e : Ending) (w' : World) : Prop := e = .returned (.bool true) ∧ Below w.heap.size w w'
end Go.Proofs.YtknbfhhmjbnemaaDoor.P
end
section
namespace Go.Proofs.YtknbfhhmjbnemaaDoor
open Go.ChangeShapes Go.WideShapes Go.ChangeAt Go.RowKit
open Go.ChangeMaps (open_string shut_string)

/-! what all rows of this seat share: the listed variables, the world's shape -/
def laid3 : List (String × DataW Unit) := Rows.parseJoinedRow.laid
theorem own : ownKnob Tryd.prog.godebug = none := by kernel_rfl
theorem gPow : Tryd.prog.globalNamed "internal/strconv.uint64pow10" = some 1 := by kernel_rfl
theorem tPow : (Tryd.prog.globals[1]?).map (·.type) = some 98 := by kernel_rfl
theorem datPow : (Rows.laid_internal_strconv_uint64pow10 : DataW Unit) = Lib.tabData .u64 Lib.pow10Tab := by kernel_rfl
theorem door_met (os : Os) (args : Array Value) : laidMetH Tryd.prog laid3 ((World.doorLaid Tryd.prog 400 os).forCall (fun _ _ => 0) ⟨#[], args, []⟩).memory :=
 laidMetH_of_parts3 (fuel := 8) (laidMet_of_run' 8 (by kernel_rfl) (by kernel_rfl)) (by kernel_rfl) (by kernel_rfl)
set_option maxRecDepth 100000 in
theorem xI4 {W : World} (h : laidMetH Tryd.prog laid3 W) : P.TabW W := by
 rw [MakeChecks.laidMetH_plain _ _ _ (by kernel_rfl)] at h
 obtain ⟨ps, ⟨g0, t0, cs0, f0, p0, q0, hg0, ht0, hv0, hd0, ⟨g1, t1, cs1, f1, p1, q1, hg1, ht1, hv1, hd1, ⟨g2, t2, cs2, f2, p2, q2, hg2, ht2, hv2, hd2, _, _⟩, _⟩, _⟩, _, _⟩ := h
 obtain rfl := Option.some.inj (gPow.symm.trans hg2)
 obtain rfl := Option.some.inj (tPow.symm.trans ht2)
 rw [datPow] at hd2
 show Lib.TabIs _ _ _ _ _
 unfold Lib.TabIs
 rw [hv2, ← Lib.cells_of_tab Tryd.underlying98 Tryd.underlying91 (by kernel_rfl) (by kernel_rfl) hd2]
variable {H : Type} {enc : TypeId × Value → H}
theorem xEs {a : Assume} {C : Checked} {os : Os} {f : FuncId} {fn : Func} {s : ChangeSpec} {conds : List PathCond} {apart fresh handsOn again : Bool} {X : World → Array Value → Prop}
  (hX : ∀ (w w' : World) (args : Array Value), w.heap = w'.heap → X w args → X w' args)
  (own : ownKnob C.prog.godebug = none) (started : os.Started) (noInit : C.prog.inits.idxOf? f = none) (hfn : C.prog.funcs[f]? = some fn)
  (witness : ∃ (w : World) (tape : Tape) (i : Input), w.os = os ∧ (w.forCall tape i).Shaped C.prog ∧ i.vars = [] ∧ Input.okWide C.prog (w.forCall tape i) .any w.heap.size f i ∧
   ((s.pre enc C.prog fn conds apart (w.forCall tape i).memory i.args ∧ X (w.forCall tape i).memory i.args) ∧ sizedMet enc C.prog fn (OpenSpec.ofChange s) apart (w.forCall tape i).memory i.args) ∧ a.holds C.prog (lone (Frame.enter C.prog f i.args .normal) [] (w.forCall tape i)))
  (contract : ∀ (W : World) (base : Nat) (args : Array Value) (ds gs : List (DataW H)) (before : List MemPlace),
   (∀ (j : Nat) t v, fn.params[j]? = some t → args[j]? = some v → Value.okWide C.prog W .any base t v) →
   DataW.Whole enc C.prog fn.params.toList s.vars apart W args.toList ds gs before →
   conds.all (PathCond.test C.prog ⟨fn.params.toList, ds, s.plain.varTypes C.prog, gs⟩) = true →
   (DataW.weightsEach C.prog (fn.params.toList ++ s.plain.varTypes C.prog) (ds ++ gs)).all (· ≤ reachBytes) = true → X W args → W.ShapedOpen C.prog →
   a.holds C.prog (lone (Frame.enter C.prog f args .normal) [] W) →
   Calls C.prog f args W fun e W' => ∃ v, e = .returned v ∧ s.post enc C.prog fn apart fresh handsOn again W args v W') :
  ReturnsInHanded a C os f .any (fun w args => (s.pre enc C.prog fn conds apart w args ∧ X w args) ∧ sizedMet enc C.prog fn (OpenSpec.ofChange s) apart w args) (s.post enc C.prog fn apart fresh handsOn again) := by
 refine returnsInHanded_of_calls own started noInit witness ?_
 intro w tape i _ hsh _ hok hpre hholds
 obtain ⟨_, _, _, fn', hfn', _, _, _, _, hval⟩ := hok
 have e : fn' = fn := Option.some.inj (hfn'.symm.trans hfn)
 subst e
 obtain ⟨⟨⟨ds, gs, before, hw, hc⟩, hx⟩, hz⟩ := hpre
 have hw' := DataW.Whole.of_heap (w' := w.forCall tape i) (by rfl) hw
 refine (contract (w.forCall tape i) w.heap.size i.args ds gs before hval hw' hc (hz.weights hw) (hX _ _ _ (by rfl) hx) hsh hholds).mono fun e W' ⟨v, he, hp⟩ => ?_
 subst he
 exact ChangeSpec.post_blind hp
end Go.Proofs.YtknbfhhmjbnemaaDoor
end
