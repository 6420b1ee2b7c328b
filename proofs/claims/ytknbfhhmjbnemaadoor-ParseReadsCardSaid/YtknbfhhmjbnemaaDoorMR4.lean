/- Proved here, for this seat's claims: what the functions that the laws reach compute: the texts of this work, one behind the other, laid by a program of this session. Conditions: none beside the statement's own. -/
import Derived.Test.YtknbfhhmjbnemaaDoorMR1
import Derived.Test.YtknbfhhmjbnemaaDoorMR2
import Derived.Test.YtknbfhhmjbnemaaDoorMR3
import Derived.Test.YtknbfhhmjbnemaaDoorRows
import Derived.WalkKit
import Derived.ProofKit
import Derived.OpenShut
import Derived.ShutString
import Derived.ChangeOld
import Derived.Below
import Derived.SizedLaws
import Derived.HandedShaped
import Derived.LaidMore
import Derived.Lib.LaidTab
import Derived.Stop.Joined
set_option linter.unusedVariables false
set_option linter.unusedSimpArgs false
section
namespace Go.Proofs.YtknbfhhmjbnemaaDoor.P
open Go.RowKit Go.Proofs.YtknbfhhmjbnemaaDoorW.PrintWords Go.Proofs.YtknbfhhmjbnemaaDoorW.PrintLast Go.Proofs.YtknbfhhmjbnemaaDoorW.PrintMore
attribute [local go_sem] xBh xBp

/-! ### xBg: function 15 -/
mutual
def xBg.j0 : Nat → Bool → ByteArray → ByteArray → Int → Int → List (S25) → Option (Bool)
 | 0, _, _, _, _, _, _ => none
 | k + 1, x17, x177000, x177001, x177002, x177003, x177004 => if x17 = true then (some false) else (xBg.l0 k x177004 (x177004.length : Int) 0)
def xBg.l0 : Nat → List (S25) → Int → Int → Option (Bool)
 | 0, _, _, _ => none
 | k + 1, x19, x20, x21 => if x21 < x20 then (if 0 ≤ x21 then (if x21 < (x19.length : Int) then ((xAp.f k ((xAd x19 x21).f0) ((xAd x19 x21).f1) ((xAd x19 x21).f2) ((xAd x19 x21).f3) ((xAd x19 x21).f4)).bind fun t179 => (if t179 = true then (xBg.l0 k x19 x20 (wrap64 (x21 + 1))) else (some false))) else (none)) else (none)) else (some true)
end
def xBg.f (k : Nat) (a0_0 : ByteArray) (a0_1 : ByteArray) (a0_2 : Int) (a0_3 : Int) (l0_4 : List (S25)) : Option (Bool) := if a0_0.toList = ([102, 105, 108, 101] : List UInt8) then (if a0_1.toList = ([] : List UInt8) then (xBg.j0 k (a0_2 != 0) a0_0 a0_1 a0_2 a0_3 l0_4) else (xBg.j0 k true a0_0 a0_1 a0_2 a0_3 l0_4)) else (xBg.j0 k true a0_0 a0_1 a0_2 a0_3 l0_4)
set_option maxHeartbeats 8000000 in
set_option maxRecDepth 100000 in
theorem xBg.calls (k : Nat) (a0_0 : ByteArray) (a0_1 : ByteArray) (a0_2 : Int) (a0_3 : Int) (A0_4 : Option Addr) (c0_4 : Nat) (l0_4 : List (S25)) (r : Bool) (w : World) (hr0_4 : Kd.C k25 w A0_4 l0_4.length l0_4) (hc0_4 : l0_4.length ≤ c0_4) (h : xBg.f k a0_0 a0_1 a0_2 a0_3 l0_4 = some r) (m_ : Int) (hm_ : w.cell? ⟨0, 0, none⟩ = some (.int .i64 m_)) :
  Calls Tryd.prog 15 #[.agg #[.string a0_0, .string a0_1, .int .i64 a0_2, .int .i64 a0_3, .slice A0_4 l0_4.length c0_4]] w fun e w' => e = .returned (.bool r) ∧ Below w.heap.size w w' := by
 have hmA_ := Aside0.mk hm_
 clear hm_
 have hu25 := Tryd.underlying25
 have HR0_4 := Aside0.mk hr0_4
 have HC0_4 := Aside0.mk hc0_4
 clear hr0_4 hc0_4
 have HB := Aside0.mk (Below.refl w.heap.size w)
 have H : (if a0_0.toList = ([102, 105, 108, 101] : List UInt8) then (if a0_1.toList = ([] : List UInt8) then (xBg.j0 k (a0_2 != 0) a0_0 a0_1 a0_2 a0_3 l0_4) else (xBg.j0 k true a0_0 a0_1 a0_2 a0_3 l0_4)) else (xBg.j0 k true a0_0 a0_1 a0_2 a0_3 l0_4)) = some r := h
 clear h
 have HC2 := Aside0.mk H
 clear H
 go_enter Tryd.func15, Tryd.ntmps15
 go_upto_region 1 with (first | ((with_reducible refine xB0 (N := 1) rfl ?_); refine xB9 ?hg (N := 1) ?hd (cs := #[.string a0_0, .string a0_1, .int .i64 a0_2, .int .i64 a0_3, .slice A0_4 l0_4.length c0_4]) (t := 25) ?hr ?_; (case hd => rfl); (case hg => rfl); (case hr => first | (go_simp; done) | (go_simp; rfl)); intro gb176 hg w3 hbox hb; have n0_ := Aside0.mk (xAz (by repeat (first | (with_reducible first | exact HB.out | apply xA2 | apply xA0 | apply xA3) | exact HB.out)) hb); have n1_ := Aside0.mk (hbox); have n2_ := Aside0.mk ((by rw [hg]; exact (xBa (by repeat (first | (with_reducible first | exact HB.out | apply xA2 | apply xA0 | apply xA3) | exact HB.out))) : w.heap.size ≤ gb176)); have n3_ := Aside0.mk ((by rw [hg]; exact (xBa (by repeat (first | (with_reducible first | exact HB.out | apply xA2 | apply xA0 | apply xA3) | exact HB.out))) : w.heap.size ≤ gb176)); clear HB; have HB := n0_; have BK176 := n1_; have GW176 := n2_; have GE176 := n3_; clear n0_ n1_ n2_ n3_; clear hb hbox hg))
 (try simp only [Act.put, List.setIfInBounds_toArray, List.set_cons_zero, List.set_cons_succ])
 go_cut [17] (fun v17 wc => ∃ (kq : Nat) (x17_1 : Bool), v17 = .bool x17_1 ∧ Aside0 (xBg.j0 kq x17_1 a0_0 a0_1 a0_2 a0_3 l0_4 = some r) ∧ Aside0 (kq ≤ k) ∧ Aside0 (wc.heap[gb176]? = some (.cells #[.string a0_0, .string a0_1, .int .i64 a0_2, .int .i64 a0_3, (.slice A0_4 l0_4.length c0_4)] 25 (0, 0))) ∧ Aside0 (Below w.heap.size w wc))
 case first =>
  have H := HC2.out
  clear HC2
  by_cases c4 : a0_0.toList = ([102, 105, 108, 101] : List UInt8)
  ·rw [if_pos c4] at H
   have c4b0 : (a0_0.toList == ([102, 105, 108, 101] : List UInt8)) = true := beq_iff_eq.mpr c4
   have c4b1 : (a0_0.toList != ([102, 105, 108, 101] : List UInt8)) = false := bne_eq_false_iff_eq.mpr c4
   clear c4
   (first | rw [c4b0] | (simp only [xB1, xB2]; rw [c4b0]) | skip)
   by_cases c5 : a0_1.toList = ([] : List UInt8)
   ·rw [if_pos c5] at H
    have c5b0 : (a0_1.toList == ([] : List UInt8)) = true := beq_iff_eq.mpr c5
    have c5b1 : (a0_1.toList != ([] : List UInt8)) = false := bne_eq_false_iff_eq.mpr c5
    clear c5
    have H' := Aside0.mk H
    clear H
    obtain ⟨hcz6_0, hcz6_1, hcz6_2, hcz6_3, hcz6_4, hfz6_0, hfz6_1, hfz6_2, hfz6_3, hfz6_4⟩ := ex5 BK176.out
    go_wp2
    go_meet
    case rel => exact ⟨_, ((a0_2 != 0)), (by first | rfl | (simp; done) | (simp [*]; done)), H', ⟨by first | omega | exact Nat.le_refl _⟩, ⟨by (with_reducible repeat (first | refine xA7 ?_ _ | refine xAc ?_ | refine xA6 ?_ _)); exact BK176.out⟩, ⟨by repeat (first | (with_reducible first | exact HB.out | apply xA2 | apply xA0 | apply xA3 | refine xAa ?_ GE176.out) | exact HB.out)⟩⟩
   ·rw [if_neg c5] at H
    have c5b0 : (a0_1.toList == ([] : List UInt8)) = false := beq_eq_false_iff_ne.mpr c5
    have c5b1 : (a0_1.toList != ([] : List UInt8)) = true := bne_iff_ne.mpr c5
    have H' := Aside0.mk H
    clear H
    obtain ⟨hcz7_0, hcz7_1, hcz7_2, hcz7_3, hcz7_4, hfz7_0, hfz7_1, hfz7_2, hfz7_3, hfz7_4⟩ := ex5 BK176.out
    go_wp2
    go_meet
    case rel => exact ⟨_, (true), (by first | rfl | (simp; done) | (simp [*]; done)), H', ⟨by first | omega | exact Nat.le_refl _⟩, ⟨by (with_reducible repeat (first | refine xA7 ?_ _ | refine xAc ?_ | refine xA6 ?_ _)); exact BK176.out⟩, ⟨by repeat (first | (with_reducible first | exact HB.out | apply xA2 | apply xA0 | apply xA3 | refine xAa ?_ GE176.out) | exact HB.out)⟩⟩
  ·rw [if_neg c4] at H
   have c4b0 : (a0_0.toList == ([102, 105, 108, 101] : List UInt8)) = false := beq_eq_false_iff_ne.mpr c4
   have c4b1 : (a0_0.toList != ([102, 105, 108, 101] : List UInt8)) = true := bne_iff_ne.mpr c4
   (first | rw [c4b0] | (simp only [xB1, xB2]; rw [c4b0]) | skip)
   have H' := Aside0.mk H
   clear H
   obtain ⟨hcz8_0, hcz8_1, hcz8_2, hcz8_3, hcz8_4, hfz8_0, hfz8_1, hfz8_2, hfz8_3, hfz8_4⟩ := ex5 BK176.out
   go_wp2
   go_meet
   case rel => exact ⟨_, (true), (by first | rfl | (simp; done) | (simp [*]; done)), H', ⟨by first | omega | exact Nat.le_refl _⟩, ⟨by (with_reducible repeat (first | refine xA7 ?_ _ | refine xAc ?_ | refine xA6 ?_ _)); exact BK176.out⟩, ⟨by repeat (first | (with_reducible first | exact HB.out | apply xA2 | apply xA0 | apply xA3 | refine xAa ?_ GE176.out) | exact HB.out)⟩⟩
 case rest =>
  clear HC2
  try clear c1
  try clear p2
  try clear c4
  try clear c4b0
  try clear c4b1
  try clear c5
  try clear c5b0
  try clear c5b1
  try clear hcz6_0 hcz6_1 hcz6_2 hcz6_3 hcz6_4
  try clear hcz7_0 hcz7_1 hcz7_2 hcz7_3 hcz7_4
  try clear hcz8_0 hcz8_1 hcz8_2 hcz8_3 hcz8_4
  try clear hfz6_0 hfz6_1 hfz6_2 hfz6_3 hfz6_4
  try clear hfz7_0 hfz7_1 hfz7_2 hfz7_3 hfz7_4
  try clear hfz8_0 hfz8_1 hfz8_2 hfz8_3 hfz8_4
  obtain ⟨kq, x17_1, rfl, HA, HJ1, BK176, HB⟩ := hcut
  cases kq with
  | zero => exact absurd HA.out (by simp [xBg.j0])
  | succ kj1 =>
   have H := HA.out
   clear HA
   simp only [xBg.j0] at H
   by_cases c9 : x17_1 = true
   ·subst c9
    have H1 : (some false) = some r := by rw [if_pos rfl] at H; exact H
    clear H
    have H := H1
    clear H1
    obtain rfl := Option.some.inj H
    go_wp2
    go_ret
    exact ⟨by first | rfl | (simp <;> rfl) | (simp [*] <;> rfl), by repeat (first | (with_reducible first | exact HB.out | apply xA2 | apply xA0 | apply xA3 | refine xAa ?_ GE176.out) | exact HB.out)⟩
   ·replace c9 := Bool.eq_false_iff.mpr c9
    subst c9
    have H1 : (xBg.l0 kj1 l0_4 (l0_4.length : Int) 0) = some r := by rw [if_neg (show ¬ (false = true) by decide)] at H; exact H
    clear H
    have H := H1
    clear H1
    have H' := Aside0.mk H
    clear H
    obtain ⟨hcz10_0, hcz10_1, hcz10_2, hcz10_3, hcz10_4, hfz10_0, hfz10_1, hfz10_2, hfz10_3, hfz10_4⟩ := ex5 BK176.out
    go_wp2
    go_loopg [21] kj1 (fun kq v21 w' => ∃ (x21_2 : Int), v21 = .int .i64 x21_2 ∧ Aside0 (xBg.l0 kq l0_4 (l0_4.length : Int) x21_2 = some r) ∧ Aside0 (kq ≤ kj1) ∧ Aside0 (w'.heap[gb176]? = some (.cells #[.string a0_0, .string a0_1, .int .i64 a0_2, .int .i64 a0_3, (.slice A0_4 l0_4.length c0_4)] 25 (0, 0))) ∧ Aside0 (Below w.heap.size w w'))
    case atStart => exact ⟨(0), (by first | rfl | (simp; done) | (simp [*]; done)), H', ⟨Nat.le_refl _⟩, ⟨by (with_reducible repeat (first | refine xA7 ?_ _ | refine xAc ?_ | refine xA6 ?_ _)); exact BK176.out⟩, ⟨by repeat (first | (with_reducible first | exact HB.out | apply xA2 | apply xA0 | apply xA3 | refine xAa ?_ GE176.out) | exact HB.out)⟩⟩
    case round =>
     clear H'
     try clear c1
     try clear p2
     try clear c4
     try clear c4b0
     try clear c4b1
     try clear c5
     try clear c5b0
     try clear c5b1
     try clear c9
     try clear hcz10_0 hcz10_1 hcz10_2 hcz10_3 hcz10_4
     try clear hcz6_0 hcz6_1 hcz6_2 hcz6_3 hcz6_4
     try clear hcz7_0 hcz7_1 hcz7_2 hcz7_3 hcz7_4
     try clear hcz8_0 hcz8_1 hcz8_2 hcz8_3 hcz8_4
     try clear hfz10_0 hfz10_1 hfz10_2 hfz10_3 hfz10_4
     try clear hfz6_0 hfz6_1 hfz6_2 hfz6_3 hfz6_4
     try clear hfz7_0 hfz7_1 hfz7_2 hfz7_3 hfz7_4
     try clear hfz8_0 hfz8_1 hfz8_2 hfz8_3 hfz8_4
     try clear p2
     obtain ⟨x21_2, rfl, HA, HK2, BK176, HB⟩ := hrel
     cases gk with
     | zero => exact absurd HA.out (by simp [xBg.l0])
     | succ k2 =>
      have H := HA.out
      clear HA
      simp only [xBg.l0] at H
      by_cases c11 : x21_2 < (l0_4.length : Int)
      ·rw [if_pos c11] at H
       have c11b0 : decide (x21_2 < (l0_4.length : Int)) = true := decide_eq_true c11
       clear c11
       by_cases c12 : 0 ≤ x21_2
       ·rw [if_pos c12] at H
        have c12b0 : decide (0 ≤ x21_2) = true := decide_eq_true c12
        clear c12
        by_cases c13 : x21_2 < (l0_4.length : Int)
        ·rw [if_pos c13] at H
         have c13b0 : decide (x21_2 < (l0_4.length : Int)) = true := decide_eq_true c13
         clear c13
         replace H := Option.bind_eq_some_iff.mp H
         obtain ⟨t179, A140, H⟩ := H
         replace H : (if t179 = true then (xBg.l0 k2 l0_4 (l0_4.length : Int) (wrap64 (x21_2 + 1))) else (some false)) = some r := H
         have A14 := Aside0.mk A140
         clear A140
         by_cases c15 : t179 = true
         ·subst c15
          have H1 : (xBg.l0 k2 l0_4 (l0_4.length : Int) (wrap64 (x21_2 + 1))) = some r := by rw [if_pos rfl] at H; exact H
          clear H
          have H := H1
          clear H1
          have H' := Aside0.mk H
          clear H
          have p177 : 0 ≤ (x21_2 : Int) := of_decide_eq_true (by first | (with_reducible assumption) | assumption)
          have q177 : x21_2 < (l0_4.length : Int) := of_decide_eq_true (by first | (with_reducible assumption) | assumption)
          obtain ⟨ad177, A177_4, c177_4, e177, hx177_0, hx177_1, hx177_2, hx177_3, hx177_4, hl177_4, hi177_4⟩ := xEg HR0_4.out x21_2 p177 q177
          cases e177
          replace hx177_0 := (HB.out.cell (World.block_lt_of_cell? w _ hx177_0)).trans hx177_0
          replace hx177_1 := (HB.out.cell (World.block_lt_of_cell? w _ hx177_1)).trans hx177_1
          replace hx177_2 := (HB.out.cell (World.block_lt_of_cell? w _ hx177_2)).trans hx177_2
          replace hx177_3 := (HB.out.cell (World.block_lt_of_cell? w _ hx177_3)).trans hx177_3
          replace hx177_4 := (HB.out.cell (World.block_lt_of_cell? w _ hx177_4)).trans hx177_4
          have HR177_4 := Aside0.mk hi177_4
          have HC177_4 := Aside0.mk hl177_4
          clear hi177_4 hl177_4
          replace p177 := eq_true p177
          replace q177 := eq_true q177
          go_wp2_with (first | ((with_reducible refine xB0 (N := 4) rfl ?_); refine xB9 ?hg (N := 4) ?hd (cs := #[.string (⟨#[]⟩ : ByteArray), .string (⟨#[]⟩ : ByteArray), .int .i64 0, .int .i64 0, .slice none 0 0]) (t := 25) ?hr ?_; (case hd => rfl); (case hg => rfl); (case hr => first | (go_simp; done) | (go_simp; rfl)); intro gb178 hg w16 hbox hb; have n0_ := Aside0.mk (xAx (g := gb176) (o := .cells #[.string a0_0, .string a0_1, .int .i64 a0_2, .int .i64 a0_3, .slice (some ad177) l0_4.length c0_4] 25 (0, 0)) (by (with_reducible repeat (first | refine xA7 ?_ _ | refine xAc ?_ | refine xA6 ?_ _)); exact BK176.out) hb); have n1_ := Aside0.mk (xAz (by repeat (first | (with_reducible first | exact HB.out | apply xA2 | apply xA0 | apply xA3 | refine xAa ?_ GE176.out) | exact HB.out)) hb); have n2_ := Aside0.mk (hbox); have n3_ := Aside0.mk ((by rw [hg]; exact (xBa (by repeat (first | (with_reducible first | exact HB.out | apply xA2 | apply xA0 | apply xA3 | refine xAa ?_ GE176.out) | exact HB.out))) : w.heap.size ≤ gb178)); have n4_ := Aside0.mk ((by rw [hg]; exact (xBa (by repeat (first | (with_reducible first | exact HB.out | apply xA2 | apply xA0 | apply xA3 | refine xAa ?_ GE176.out) | exact HB.out))) : w.heap.size ≤ gb178)); have n5_ := Aside0.mk ((by rw [hg]; exact Nat.ne_of_lt (xBs (g := gb176) (o := .cells #[.string a0_0, .string a0_1, .int .i64 a0_2, .int .i64 a0_3, .slice (some ad177) l0_4.length c0_4] 25 (0, 0)) (by (with_reducible repeat (first | refine xA7 ?_ _ | refine xAc ?_ | refine xA6 ?_ _)); exact BK176.out)) : gb176 ≠ gb178)); have n6_ := Aside0.mk ((by rw [hg]; exact Nat.ne_of_gt (xBs (g := gb176) (o := .cells #[.string a0_0, .string a0_1, .int .i64 a0_2, .int .i64 a0_3, .slice (some ad177) l0_4.length c0_4] 25 (0, 0)) (by (with_reducible repeat (first | refine xA7 ?_ _ | refine xAc ?_ | refine xA6 ?_ _)); exact BK176.out)) : gb178 ≠ gb176)); clear BK176; clear HB; have BK176 := n0_; have HB := n1_; have BK178 := n2_; have GW178 := n3_; have GE178 := n4_; have NB176_178 := n5_; have NB178_176 := n6_; clear n0_ n1_ n2_ n3_ n4_ n5_ n6_; clear hb hbox hg; have hnb17 := NB178_176.out; have hnc17 := NB176_178.out; obtain ⟨hcz18_0, hcz18_1, hcz18_2, hcz18_3, hcz18_4, hfz18_0, hfz18_1, hfz18_2, hfz18_3, hfz18_4⟩ := ex5 BK178.out) | ((with_reducible refine xAo (f := 26) rfl ?_); refine xBo (some 26) rfl rfl Tryd.func26 (by kernel_rfl) rfl #[.agg #[.string ((xAd l0_4 x21_2).f0), .string ((xAd l0_4 x21_2).f1), .int .i64 ((xAd l0_4 x21_2).f2), .int .i64 ((xAd l0_4 x21_2).f3), .slice A177_4 ((xAd l0_4 x21_2).f4).length c177_4]] rfl (by (try simp only [List.map_toArray, List.map_cons, List.map_nil]); first | done | rfl | (simp only [List.length_drop, List.length_take]; rfl)) ?_; (with_reducible refine (xAp.calls k2 ((xAd l0_4 x21_2).f0) ((xAd l0_4 x21_2).f1) ((xAd l0_4 x21_2).f2) ((xAd l0_4 x21_2).f3) _ _ ((xAd l0_4 x21_2).f4) true _ ?side1 ?side2 A14.out m_ (by first | (with_reducible exact hmA_.out) | exact xCa hmA_.out (by repeat (first | (with_reducible first | exact HB.out | apply xA2 | apply xA0 | apply xA3 | refine xAa ?_ GE176.out | refine xAa ?_ GE178.out) | exact HB.out)) | (repeat (first | exact hmA_.out | refine xC3 ?_ | refine mlen_drew ?_)))).mono ?_); (case side1 => exact Kd.C_below HR177_4.out (by repeat (first | (with_reducible first | exact HB.out | apply xA2 | apply xA0 | apply xA3 | refine xAa ?_ GE176.out | refine xAa ?_ GE178.out) | exact HB.out))); (case side2 => exact HC177_4.out); rintro e w19 ⟨rfl, hb⟩; refine ⟨_, rfl, ?_⟩; have n0_ := Aside0.mk (xAx (g := gb176) (o := .cells #[.string a0_0, .string a0_1, .int .i64 a0_2, .int .i64 a0_3, .slice (some ad177) l0_4.length c0_4] 25 (0, 0)) (by (with_reducible repeat (first | refine xA7 ?_ _ | refine xAc ?_ | refine xA6 ?_ _)); refine xAh ?_ NB176_178.out _; (with_reducible repeat (first | refine xA7 ?_ _ | refine xAc ?_ | refine xA6 ?_ _)); refine xAh ?_ NB176_178.out _; (with_reducible repeat (first | refine xA7 ?_ _ | refine xAc ?_ | refine xA6 ?_ _)); refine xAh ?_ NB176_178.out _; (with_reducible repeat (first | refine xA7 ?_ _ | refine xAc ?_ | refine xA6 ?_ _)); refine xAh ?_ NB176_178.out _; (with_reducible repeat (first | refine xA7 ?_ _ | refine xAc ?_ | refine xA6 ?_ _)); refine xAh ?_ NB176_178.out _; (with_reducible repeat (first | refine xA7 ?_ _ | refine xAc ?_ | refine xA6 ?_ _)); exact BK176.out) hb); have n1_ := Aside0.mk (xAx (g := gb178) (o := .cells #[.string ((xAd l0_4 x21_2).f0), .string ((xAd l0_4 x21_2).f1), .int .i64 ((xAd l0_4 x21_2).f2), .int .i64 ((xAd l0_4 x21_2).f3), .slice A177_4 ((xAd l0_4 x21_2).f4).length c177_4] 25 (0, 0)) (by (with_reducible repeat (first | refine xA7 ?_ _ | refine xAc ?_ | refine xA6 ?_ _)); refine xA1 (cs := #[.string ((xAd l0_4 x21_2).f0), .string ((xAd l0_4 x21_2).f1), .int .i64 ((xAd l0_4 x21_2).f2), .int .i64 ((xAd l0_4 x21_2).f3), .slice none 0 0]) ?_ 4 _ rfl; (with_reducible repeat (first | refine xA7 ?_ _ | refine xAc ?_ | refine xA6 ?_ _)); refine xA1 (cs := #[.string ((xAd l0_4 x21_2).f0), .string ((xAd l0_4 x21_2).f1), .int .i64 ((xAd l0_4 x21_2).f2), .int .i64 0, .slice none 0 0]) ?_ 3 _ rfl; (with_reducible repeat (first | refine xA7 ?_ _ | refine xAc ?_ | refine xA6 ?_ _)); refine xA1 (cs := #[.string ((xAd l0_4 x21_2).f0), .string ((xAd l0_4 x21_2).f1), .int .i64 0, .int .i64 0, .slice none 0 0]) ?_ 2 _ rfl; (with_reducible repeat (first | refine xA7 ?_ _ | refine xAc ?_ | refine xA6 ?_ _)); refine xA1 (cs := #[.string ((xAd l0_4 x21_2).f0), .string (⟨#[]⟩ : ByteArray), .int .i64 0, .int .i64 0, .slice none 0 0]) ?_ 1 _ rfl; (with_reducible repeat (first | refine xA7 ?_ _ | refine xAc ?_ | refine xA6 ?_ _)); refine xA1 (cs := #[.string (⟨#[]⟩ : ByteArray), .string (⟨#[]⟩ : ByteArray), .int .i64 0, .int .i64 0, .slice none 0 0]) ?_ 0 _ rfl; (with_reducible repeat (first | refine xA7 ?_ _ | refine xAc ?_ | refine xA6 ?_ _)); exact BK178.out) hb); have n2_ := Aside0.mk (xAz (by repeat (first | (with_reducible first | exact HB.out | apply xA2 | apply xA0 | apply xA3 | refine xAa ?_ GE176.out | refine xAa ?_ GE178.out) | exact HB.out)) hb); clear BK176; clear BK178; clear HB; have BK176 := n0_; have BK178 := n1_; have HB := n2_; clear n0_ n1_ n2_; (try clear hb); (try clear hb2); (try clear hk); (try clear hi)))
          go_roundg k2
          case measure => have := HJ1.out; have := HK2.out; omega
          case rel => exact ⟨(wrap64 (x21_2 + 1)), (by first | rfl | (simp; done) | (simp [*]; done)), H', ⟨by have := HJ1.out; have := HK2.out; omega⟩, ⟨by (with_reducible repeat (first | refine xA7 ?_ _ | refine xAc ?_ | refine xA6 ?_ _)); exact BK176.out⟩, ⟨by repeat (first | (with_reducible first | exact HB.out | apply xA2 | apply xA0 | apply xA3 | refine xAa ?_ GE176.out | refine xAa ?_ GE178.out) | exact HB.out)⟩⟩
         ·replace c15 := Bool.eq_false_iff.mpr c15
          subst c15
          have H1 : (some false) = some r := by rw [if_neg (show ¬ (false = true) by decide)] at H; exact H
          clear H
          have H := H1
          clear H1
          obtain rfl := Option.some.inj H
          have p177 : 0 ≤ (x21_2 : Int) := of_decide_eq_true (by first | (with_reducible assumption) | assumption)
          have q177 : x21_2 < (l0_4.length : Int) := of_decide_eq_true (by first | (with_reducible assumption) | assumption)
          obtain ⟨ad177, A177_4, c177_4, e177, hx177_0, hx177_1, hx177_2, hx177_3, hx177_4, hl177_4, hi177_4⟩ := xEg HR0_4.out x21_2 p177 q177
          cases e177
          replace hx177_0 := (HB.out.cell (World.block_lt_of_cell? w _ hx177_0)).trans hx177_0
          replace hx177_1 := (HB.out.cell (World.block_lt_of_cell? w _ hx177_1)).trans hx177_1
          replace hx177_2 := (HB.out.cell (World.block_lt_of_cell? w _ hx177_2)).trans hx177_2
          replace hx177_3 := (HB.out.cell (World.block_lt_of_cell? w _ hx177_3)).trans hx177_3
          replace hx177_4 := (HB.out.cell (World.block_lt_of_cell? w _ hx177_4)).trans hx177_4
          have HR177_4 := Aside0.mk hi177_4
          have HC177_4 := Aside0.mk hl177_4
          clear hi177_4 hl177_4
          replace p177 := eq_true p177
          replace q177 := eq_true q177
          go_wp2_with (first | ((with_reducible refine xB0 (N := 4) rfl ?_); refine xB9 ?hg (N := 4) ?hd (cs := #[.string (⟨#[]⟩ : ByteArray), .string (⟨#[]⟩ : ByteArray), .int .i64 0, .int .i64 0, .slice none 0 0]) (t := 25) ?hr ?_; (case hd => rfl); (case hg => rfl); (case hr => first | (go_simp; done) | (go_simp; rfl)); intro gb178 hg w20 hbox hb; have n0_ := Aside0.mk (xAx (g := gb176) (o := .cells #[.string a0_0, .string a0_1, .int .i64 a0_2, .int .i64 a0_3, .slice (some ad177) l0_4.length c0_4] 25 (0, 0)) (by (with_reducible repeat (first | refine xA7 ?_ _ | refine xAc ?_ | refine xA6 ?_ _)); exact BK176.out) hb); have n1_ := Aside0.mk (xAz (by repeat (first | (with_reducible first | exact HB.out | apply xA2 | apply xA0 | apply xA3 | refine xAa ?_ GE176.out) | exact HB.out)) hb); have n2_ := Aside0.mk (hbox); have n3_ := Aside0.mk ((by rw [hg]; exact (xBa (by repeat (first | (with_reducible first | exact HB.out | apply xA2 | apply xA0 | apply xA3 | refine xAa ?_ GE176.out) | exact HB.out))) : w.heap.size ≤ gb178)); have n4_ := Aside0.mk ((by rw [hg]; exact (xBa (by repeat (first | (with_reducible first | exact HB.out | apply xA2 | apply xA0 | apply xA3 | refine xAa ?_ GE176.out) | exact HB.out))) : w.heap.size ≤ gb178)); have n5_ := Aside0.mk ((by rw [hg]; exact Nat.ne_of_lt (xBs (g := gb176) (o := .cells #[.string a0_0, .string a0_1, .int .i64 a0_2, .int .i64 a0_3, .slice (some ad177) l0_4.length c0_4] 25 (0, 0)) (by (with_reducible repeat (first | refine xA7 ?_ _ | refine xAc ?_ | refine xA6 ?_ _)); exact BK176.out)) : gb176 ≠ gb178)); have n6_ := Aside0.mk ((by rw [hg]; exact Nat.ne_of_gt (xBs (g := gb176) (o := .cells #[.string a0_0, .string a0_1, .int .i64 a0_2, .int .i64 a0_3, .slice (some ad177) l0_4.length c0_4] 25 (0, 0)) (by (with_reducible repeat (first | refine xA7 ?_ _ | refine xAc ?_ | refine xA6 ?_ _)); exact BK176.out)) : gb178 ≠ gb176)); clear BK176; clear HB; have BK176 := n0_; have HB := n1_; have BK178 := n2_; have GW178 := n3_; have GE178 := n4_; have NB176_178 := n5_; have NB178_176 := n6_; clear n0_ n1_ n2_ n3_ n4_ n5_ n6_; clear hb hbox hg; have hnb21 := NB178_176.out; have hnc21 := NB176_178.out; obtain ⟨hcz22_0, hcz22_1, hcz22_2, hcz22_3, hcz22_4, hfz22_0, hfz22_1, hfz22_2, hfz22_3, hfz22_4⟩ := ex5 BK178.out) | ((with_reducible refine xAo (f := 26) rfl ?_); refine xBo (some 26) rfl rfl Tryd.func26 (by kernel_rfl) rfl #[.agg #[.string ((xAd l0_4 x21_2).f0), .string ((xAd l0_4 x21_2).f1), .int .i64 ((xAd l0_4 x21_2).f2), .int .i64 ((xAd l0_4 x21_2).f3), .slice A177_4 ((xAd l0_4 x21_2).f4).length c177_4]] rfl (by (try simp only [List.map_toArray, List.map_cons, List.map_nil]); first | done | rfl | (simp only [List.length_drop, List.length_take]; rfl)) ?_; (with_reducible refine (xAp.calls k2 ((xAd l0_4 x21_2).f0) ((xAd l0_4 x21_2).f1) ((xAd l0_4 x21_2).f2) ((xAd l0_4 x21_2).f3) _ _ ((xAd l0_4 x21_2).f4) false _ ?side1 ?side2 A14.out m_ (by first | (with_reducible exact hmA_.out) | exact xCa hmA_.out (by repeat (first | (with_reducible first | exact HB.out | apply xA2 | apply xA0 | apply xA3 | refine xAa ?_ GE176.out | refine xAa ?_ GE178.out) | exact HB.out)) | (repeat (first | exact hmA_.out | refine xC3 ?_ | refine mlen_drew ?_)))).mono ?_); (case side1 => exact Kd.C_below HR177_4.out (by repeat (first | (with_reducible first | exact HB.out | apply xA2 | apply xA0 | apply xA3 | refine xAa ?_ GE176.out | refine xAa ?_ GE178.out) | exact HB.out))); (case side2 => exact HC177_4.out); rintro e w23 ⟨rfl, hb⟩; refine ⟨_, rfl, ?_⟩; have n0_ := Aside0.mk (xAx (g := gb176) (o := .cells #[.string a0_0, .string a0_1, .int .i64 a0_2, .int .i64 a0_3, .slice (some ad177) l0_4.length c0_4] 25 (0, 0)) (by (with_reducible repeat (first | refine xA7 ?_ _ | refine xAc ?_ | refine xA6 ?_ _)); refine xAh ?_ NB176_178.out _; (with_reducible repeat (first | refine xA7 ?_ _ | refine xAc ?_ | refine xA6 ?_ _)); refine xAh ?_ NB176_178.out _; (with_reducible repeat (first | refine xA7 ?_ _ | refine xAc ?_ | refine xA6 ?_ _)); refine xAh ?_ NB176_178.out _; (with_reducible repeat (first | refine xA7 ?_ _ | refine xAc ?_ | refine xA6 ?_ _)); refine xAh ?_ NB176_178.out _; (with_reducible repeat (first | refine xA7 ?_ _ | refine xAc ?_ | refine xA6 ?_ _)); refine xAh ?_ NB176_178.out _; (with_reducible repeat (first | refine xA7 ?_ _ | refine xAc ?_ | refine xA6 ?_ _)); exact BK176.out) hb); have n1_ := Aside0.mk (xAx (g := gb178) (o := .cells #[.string ((xAd l0_4 x21_2).f0), .string ((xAd l0_4 x21_2).f1), .int .i64 ((xAd l0_4 x21_2).f2), .int .i64 ((xAd l0_4 x21_2).f3), .slice A177_4 ((xAd l0_4 x21_2).f4).length c177_4] 25 (0, 0)) (by (with_reducible repeat (first | refine xA7 ?_ _ | refine xAc ?_ | refine xA6 ?_ _)); refine xA1 (cs := #[.string ((xAd l0_4 x21_2).f0), .string ((xAd l0_4 x21_2).f1), .int .i64 ((xAd l0_4 x21_2).f2), .int .i64 ((xAd l0_4 x21_2).f3), .slice none 0 0]) ?_ 4 _ rfl; (with_reducible repeat (first | refine xA7 ?_ _ | refine xAc ?_ | refine xA6 ?_ _)); refine xA1 (cs := #[.string ((xAd l0_4 x21_2).f0), .string ((xAd l0_4 x21_2).f1), .int .i64 ((xAd l0_4 x21_2).f2), .int .i64 0, .slice none 0 0]) ?_ 3 _ rfl; (with_reducible repeat (first | refine xA7 ?_ _ | refine xAc ?_ | refine xA6 ?_ _)); refine xA1 (cs := #[.string ((xAd l0_4 x21_2).f0), .string ((xAd l0_4 x21_2).f1), .int .i64 0, .int .i64 0, .slice none 0 0]) ?_ 2 _ rfl; (with_reducible repeat (first | refine xA7 ?_ _ | refine xAc ?_ | refine xA6 ?_ _)); refine xA1 (cs := #[.string ((xAd l0_4 x21_2).f0), .string (⟨#[]⟩ : ByteArray), .int .i64 0, .int .i64 0, .slice none 0 0]) ?_ 1 _ rfl; (with_reducible repeat (first | refine xA7 ?_ _ | refine xAc ?_ | refine xA6 ?_ _)); refine xA1 (cs := #[.string (⟨#[]⟩ : ByteArray), .string (⟨#[]⟩ : ByteArray), .int .i64 0, .int .i64 0, .slice none 0 0]) ?_ 0 _ rfl; (with_reducible repeat (first | refine xA7 ?_ _ | refine xAc ?_ | refine xA6 ?_ _)); exact BK178.out) hb); have n2_ := Aside0.mk (xAz (by repeat (first | (with_reducible first | exact HB.out | apply xA2 | apply xA0 | apply xA3 | refine xAa ?_ GE176.out | refine xAa ?_ GE178.out) | exact HB.out)) hb); clear BK176; clear BK178; clear HB; have BK176 := n0_; have BK178 := n1_; have HB := n2_; clear n0_ n1_ n2_; (try clear hb); (try clear hb2); (try clear hk); (try clear hi)))
          go_ret
          exact ⟨by first | rfl | (simp <;> rfl) | (simp [*] <;> rfl), by repeat (first | (with_reducible first | exact HB.out | apply xA2 | apply xA0 | apply xA3 | refine xAa ?_ GE176.out | refine xAa ?_ GE178.out) | exact HB.out)⟩
        ·rw [if_neg c13] at H
         exact absurd H (by simp)
       ·rw [if_neg c12] at H
        exact absurd H (by simp)
      ·rw [if_neg c11] at H
       have c11b0 : decide (x21_2 < (l0_4.length : Int)) = false := decide_eq_false c11
       clear c11
       obtain rfl := Option.some.inj H
       go_wp2
       go_ret
       exact ⟨by first | rfl | (simp <;> rfl) | (simp [*] <;> rfl), by repeat (first | (with_reducible first | exact HB.out | apply xA2 | apply xA0 | apply xA3 | refine xAa ?_ GE176.out) | exact HB.out)⟩

end Go.Proofs.YtknbfhhmjbnemaaDoor.P
end
section
namespace Go.Proofs.YtknbfhhmjbnemaaDoor.P
open Go.RowKit Go.Proofs.YtknbfhhmjbnemaaDoorW.PrintWords Go.Proofs.YtknbfhhmjbnemaaDoorW.PrintLast Go.Proofs.YtknbfhhmjbnemaaDoorW.PrintMore

theorem xKj (k : Nat) (ih : WrOk k) : WrOk (k + 1) := by
 intro w0 w b n A c l t hI h hlen
 rw [xE3] at h
 by_cases hb : n.f4.length ≤ 1000000 ∧ -9223372036854775808 ≤ n.f2 ∧ n.f2 ≤ 9223372036854775807
 case neg => rw [if_neg hb] at h; cases h
 rw [if_pos hb] at h
 obtain ⟨h4, h2⟩ := hb
 by_cases h0 : n.f0.toList = ([117, 115, 101] : List UInt8) ∨ n.f0.toList = ([110, 97, 109, 101] : List UInt8)
 ·rw [if_pos h0] at h
  by_cases h00 : n.f0.toList = ([117, 115, 101] : List UInt8)
  ·rw [if_pos h00] at h
   exact wr_use k ih w0 w b n A c l t hI h2 h4 h00 (Option.some.inj h).symm hlen
  ·rw [if_neg h00] at h; cases h
 rw [if_neg h0] at h
 by_cases h1 : n.f0.toList = ([110, 117, 109] : List UInt8)
 ·rw [if_pos h1] at h
  cases h
 rw [if_neg h1] at h
 by_cases h3 : n.f0.toList = ([104, 101, 120] : List UInt8)
 ·rw [if_pos h3] at h
  cases h
 rw [if_neg h3] at h
 by_cases h5 : n.f0.toList = ([102, 105, 108, 101] : List UInt8)
 ·rw [if_pos h5] at h
  exact wr_file k ih w0 w b n A c l t hI h2 h4 h5 h hlen
 rw [if_neg h5] at h
 by_cases h6 : n.f0.toList = ([100, 101, 118, 105, 99, 101] : List UInt8) ∨ n.f0.toList = ([106, 111, 117, 114, 110, 97, 108] : List UInt8)
 ·rw [if_pos h6] at h
  cases h
 rw [if_neg h6] at h
 by_cases h7 : n.f0.toList = ([107, 101, 121] : List UInt8) ∨ n.f0.toList = ([114, 111, 111, 116] : List UInt8)
 ·rw [if_pos h7] at h
  cases h
 rw [if_neg h7] at h
 by_cases h8 : n.f0.toList = ([118, 111, 108, 117, 109, 101] : List UInt8)
 ·rw [if_pos h8] at h
  obtain ⟨tx, hx, ht⟩ := Option.bind_eq_some_iff.1 h
  exact xLi k ih w0 w b n A c l t hI h2 h4 h8 tx hx (Option.some.inj ht).symm hlen
 rw [if_neg h8] at h
 by_cases h9 : n.f0.toList = ([101, 120, 112, 111, 114, 116] : List UInt8)
 ·rw [if_pos h9] at h
  cases h
 rw [if_neg h9] at h
 obtain ⟨tx, hx, ht⟩ := Option.bind_eq_some_iff.1 h
 exact xLj k ih w0 w b n A c l t hI h2 h4 (fun e => h0 (.inl e)) (fun e => h0 (.inr e)) h1 h3 h5 (fun e => h6 (.inl e)) (fun e => h6 (.inr e)) (fun e => h7 (.inl e)) (fun e => h7 (.inr e)) h8 h9 tx hx (Option.some.inj ht).symm hlen
theorem xIg : ∀ k, WrOk k
 | 0 => fun w0 w b n A c l t hI h hlen => by simp [xE3] at h
 | k + 1 => xKj k (xIg k)
/-- What Print hands back. -/
def xK7 (k : Nat) (n : S25) : Option (ByteArray × Int) := (xBg.f k n.f0 n.f1 n.f2 n.f3 n.f4).bind fun r => if r = true then (xE3 k n).bind fun t => if t.length ≤ 1000000000 then some (⟨t.toArray⟩, 0) else none else some (⟨#[]⟩, 111)
theorem bld_new (W : World) : Bld W.heap.size W.heap.size [] (W.alloc (.cells #[.pointer none, .slice none 0 0] 52 (0, 0))) :=
 .inl ⟨Nat.le_refl _, .slice none 0 0, xBj _ _, ⟨rfl, .inl ⟨rfl, rfl⟩⟩, by simp [Value.ownBlock]⟩
theorem xIk {w w1 : World} (h : Lib.TabIs Tryd.prog w "internal/strconv.uint64pow10" .u64 Lib.pow10Tab) (hb : Below w.heap.size w w1) : ∀ w', Below w1.heap.size w1 w' → Lib.TabIs Tryd.prog w' "internal/strconv.uint64pow10" .u64 Lib.pow10Tab :=
 fun w' h' => Lib.tabBelow_of_tabIs h w' (xBv hb hb.size h')
set_option maxHeartbeats 4000000 in
set_option maxRecDepth 100000 in
theorem xJm (k : Nat) (n : S25) (A : Option Addr) (c : Nat) (s : ByteArray) (er m : Int) (w : World) (hc : n.f4.length ≤ c) (hC : Kd.C k25 w A n.f4.length n.f4) (hm : w.cell? ⟨0, 0, none⟩ = some (.int .i64 m)) (ht : Lib.TabIs Tryd.prog w "internal/strconv.uint64pow10" .u64 Lib.pow10Tab) (h : xK7 k n = some (s, er)) :
  Calls Tryd.prog 13 #[xCy n A c] w fun e w' => e = .returned (.tuple #[.string s, .int .i64 er]) ∧ Below w.heap.size w w' := by
 unfold xK7 at h
 obtain ⟨rb, hr, h⟩ := Option.bind_eq_some_iff.1 h
 have hu25 := Tryd.underlying25
 have hu52 := Tryd.underlying52
 unfold xCy
 have HB0 := Aside0.mk (show Below w.heap.size w (w.alloc (.cells #[.string n.f0, .string n.f1, .int .i64 n.f2, .int .i64 n.f3, .slice A n.f4.length c] 25 (0, 0))) from xA2 (Below.refl _ _) _)
 have NB0 := Aside0.mk (xBj w (.cells #[.string n.f0, .string n.f1, .int .i64 n.f2, .int .i64 n.f3, .slice A n.f4.length c] 25 (0, 0)))
 have HCC := Aside0.mk hC
 have HC := Aside0.mk hc
 have HM := Aside0.mk hm
 have HT := Aside0.mk ht
 have HR := Aside0.mk hr
 have HH := Aside0.mk h
 clear hC hc hm ht hr h
 cases rb with
 | false =>
  go_enter Tryd.func13, Tryd.ntmps13
  go_wp2_with (go_at_call 15; (with_reducible refine (xBg.calls k _ _ _ _ A c _ false _ (Kd.C_below HCC.out HB0.out) HC.out HR.out m (xAb HB0.out HM.out)).mono ?_); rintro e w1 ⟨rfl, h1⟩; have H1 := Aside0.mk h1; clear h1)
  have hh := HH.out
  simp only [Bool.false_eq_true, if_false, Option.some.injEq, Prod.mk.injEq] at hh
  obtain ⟨rfl, rfl⟩ := hh
  go_ret2
  exact ⟨rfl, xBv HB0.out HB0.out.size H1.out⟩
 | true =>
  have hh := HH.out
  clear HH
  rw [if_pos rfl] at hh
  obtain ⟨t, hw, hh⟩ := Option.bind_eq_some_iff.1 hh
  split at hh
  case isFalse => cases hh
  rename_i hl
  simp only [Option.some.injEq, Prod.mk.injEq] at hh
  obtain ⟨rfl, rfl⟩ := hh
  have HW := Aside0.mk hw
  have HL := Aside0.mk hl
  clear hw hl
  go_enter Tryd.func13, Tryd.ntmps13
  go_upto_region 3 with (go_at_call 15; (with_reducible refine (xBg.calls k _ _ _ _ A c _ true _ (Kd.C_below HCC.out HB0.out) HC.out HR.out m (xAb HB0.out HM.out)).mono ?_); rintro e w1 ⟨rfl, h1⟩; have HB1 := Aside0.mk (xBv HB0.out HB0.out.size h1); have NB1 := Aside0.mk (xAx NB0.out h1); clear h1)
  have HB2 := Aside0.mk (xA2 (Below.refl w1.heap.size w1) (.cells #[.pointer none, .slice none 0 0] 52 (0, 0)))
  have NB2 := Aside0.mk (xA6 NB1.out (.cells #[.pointer none, .slice none 0 0] 52 (0, 0)))
  have HBL := Aside0.mk (bld_new w1)
  have hcall := xIg k w1 _ w1.heap.size n A c [] t ⟨HB2.out, HBL.out, HC.out, Kd.C_below HCC.out HB1.out, xIk HT.out HB1.out⟩ HW.out (by simpa using HL.out)
  unfold xCy at hcall
  have HCALL := Aside0.mk hcall
  clear hcall
  go_upto_region 4 with (fail)
  generalize World.alloc w1 (.cells #[.pointer none, .slice none 0 0] 52 (0, 0)) = W2 at *
  obtain ⟨c0, c1, c2, c3, c4⟩ := ey5 NB2.out
  go_wp2_with (first | (go_at_call 22; (with_reducible refine HCALL.out.mono ?_); rintro e w3 ⟨rfl, h1, h2⟩; have H3 := Aside0.mk (show Lib.IsBuilderF 52 5 w1.heap.size w1.heap.size (Lib.byteCells ([] ++ t)) w3 from h1); have F3 := Aside0.mk h2; clear h1 h2) | (go_at_call 23; (refine (Tryd.Builder_String_any_f w1.heap.size w1.heap.size ([] ++ t) w3 H3.out (Nat.le_trans HB2.out.size F3.out.1.size)).mono ?_); rintro e w4 ⟨rfl, _, h1⟩; have H4 := Aside0.mk h1; clear h1))
  go_ret2
  exact ⟨rfl, xBv HB1.out HB1.out.size ((HB2.out.trans F3.out.1).trans H4.out)⟩

abbrev FILE : ByteArray := ⟨#[102, 105, 108, 101]⟩
def xFo : Except PErr (List S25 × List S60) → S25 × Int × Int
 | .ok (L, _) => (⟨FILE, ⟨#[]⟩, 0, 0, L⟩, 0, -1)
 | .error x => (z25, x.1, x.2)
/-- What Parse hands back. -/
def xFv (k : Nat) (s : ByteArray) : Option (S25 × Int × Int) :=
 (xBi.f k s).bind fun x => if x.2.1 = 0 then (xE6 k x.1 s.size []).bind fun r => some (xFo r) else some (z25, x.2.1, x.2.2)
theorem xH3 (k : Nat) (s : ByteArray) (n : S25) (er at_ m : Int) (w : World) (hm : w.cell? ⟨0, 0, none⟩ = some (.int .i64 m)) (h : xFv k s = some (n, er, at_)) :
  Calls Tryd.prog 9 #[.string s] w (xK9 w n er at_) := by
 unfold xFv at h
 obtain ⟨⟨T, e, p⟩, hs, h⟩ := Option.bind_eq_some_iff.1 h
 by_cases he : e = 0
 ·subst he
  rw [if_pos rfl] at h
  obtain ⟨r, hr, h⟩ := Option.bind_eq_some_iff.1 h
  have h1 := xL6 k k s T p m r w hm hs hr
  have h := Option.some.inj h
  rcases r with x | ⟨L, T'⟩
  ·simp only [xFo, Prod.mk.injEq] at h
   obtain ⟨rfl, rfl, rfl⟩ := h
   exact h1
  ·simp only [xFo, Prod.mk.injEq] at h
   obtain ⟨rfl, rfl, rfl⟩ := h
   exact h1
 ·rw [if_neg he] at h
  simp only [Option.some.injEq, Prod.mk.injEq] at h
  obtain ⟨rfl, rfl, rfl⟩ := h
  exact xJn k s T e p w hs he
/-- A node's box, and what it leads to. -/
structure NodeB (W : World) (b : Nat) (n : S25) (A : Option Addr) (c : Nat) : Prop where
 blk : W.heap[b]? = some (.cells #[.string n.f0, .string n.f1, .int .i64 n.f2, .int .i64 n.f3, .slice A n.f4.length c] 25 (0, 0))
 hc : n.f4.length ≤ c
 hC : Kd.C k25 W A n.f4.length n.f4
theorem NodeB.new {W : World} {n : S25} {A : Option Addr} {c : Nat} (hc : n.f4.length ≤ c) (hC : Kd.C k25 W A n.f4.length n.f4) : NodeB (W.alloc (.cells #[.string n.f0, .string n.f1, .int .i64 n.f2, .int .i64 n.f3, .slice A n.f4.length c] 25 (0, 0))) W.heap.size n A c :=
 ⟨xBj _ _, hc, Kd.C_alloc hC _⟩
/-- The same as the walk wants it. -/
theorem xL5 (k : Nat) (s : ByteArray) (n : S25) (er at_ m : Int) (w : World) (hm : w.cell? ⟨0, 0, none⟩ = some (.int .i64 m)) (h : xFv k s = some (n, er, at_)) :
  Calls Tryd.prog 9 #[.string s] w fun e w' => ∃ A c, e = .returned (.tuple #[.agg #[.string n.f0, .string n.f1, .int .i64 n.f2, .int .i64 n.f3, .slice A n.f4.length c], .int .i64 er, .int .i64 at_]) ∧ n.f4.length ≤ c ∧ Kd.C k25 w' A n.f4.length n.f4 ∧ Below w.heap.size w w' :=
 (xH3 k s n er at_ m w hm h).mono fun e w' ⟨v, he, hN, hb⟩ => by
  obtain ⟨A, c, rfl⟩ := Kd.N_slice hN
  have h1 := Kd.N_reads' hN
  exact ⟨A, c, he, h1.2.1, h1.2.2, hb⟩
abbrev ALIVE : ByteArray := ⟨#[118, 111, 108, 117, 109, 101, 32, 118, 61, 109, 105, 114, 114, 111, 114, 40, 97, 44, 98, 41, 59]⟩
abbrev ALIVE2 : ByteArray := ⟨#[118, 111, 108, 117, 109, 101, 32, 118, 32, 61, 32, 109, 105, 114, 114, 111, 114, 40, 97, 44, 32, 98, 41, 59, 10]⟩
def xJ9 : S25 := ⟨FILE, ⟨#[]⟩, 0, 0, [⟨⟨#[118, 111, 108, 117, 109, 101]⟩, ⟨#[118]⟩, 0, 0, [⟨⟨#[109, 105, 114, 114, 111, 114]⟩, ⟨#[]⟩, 0, 9, [⟨⟨#[117, 115, 101]⟩, ⟨#[97]⟩, 0, 16, []⟩, ⟨⟨#[117, 115, 101]⟩, ⟨#[98]⟩, 0, 18, []⟩]⟩]⟩]⟩
theorem xJy : xFv 60 ALIVE = some (xJ9, 0, -1) := by kernel_rfl
theorem xJx : xK7 60 xJ9 = some (ALIVE2, 0) := by kernel_rfl
def TabW (w : World) : Prop := Lib.TabIs Tryd.prog w "internal/strconv.uint64pow10" .u64 Lib.pow10Tab
theorem TabW.below {w w1 : World} (h : TabW w) (hb : Below w.heap.size w w1) : TabW w1 := xIk h (Below.refl _ _) w1 hb
theorem xKx (k : Nat) (n : S25) (A : Option Addr) (c : Nat) (s : ByteArray) (er m : Int) (w : World) (hc : n.f4.length ≤ c) (hC : Kd.C k25 w A n.f4.length n.f4) (hm : w.cell? ⟨0, 0, none⟩ = some (.int .i64 m)) (ht : TabW w) (h : xK7 k n = some (s, er)) :
  Calls Tryd.prog 13 #[.agg #[.string n.f0, .string n.f1, .int .i64 n.f2, .int .i64 n.f3, .slice A n.f4.length c]] w fun e w' => e = .returned (.tuple #[.string s, .int .i64 er]) ∧ Below w.heap.size w w' := xJm k n A c s er m w hc hC hm ht h
set_option maxHeartbeats 4000000 in
set_option maxRecDepth 100000 in
theorem xJz (m : Int) (w : World) (hm : w.cell? ⟨0, 0, none⟩ = some (.int .i64 m)) (ht : TabW w) :
  Calls Tryd.prog 8 #[] w fun e w' => e = .returned (.bool true) ∧ Below w.heap.size w w' := by
 have hu25 := Tryd.underlying25
 have HM := Aside0.mk hm
 have HT := Aside0.mk ht
 clear hm ht
 go_enter Tryd.func8, Tryd.ntmps8
 go_upto_region 2 with (go_at_call 9; (with_reducible refine (xL5 60 ALIVE xJ9 0 (-1) m w HM.out xJy).mono ?_); rintro e w1 ⟨A, c, rfl, h1, h2, h3⟩; have H1 := Aside0.mk h1; have H2 := Aside0.mk h2; have H3 := Aside0.mk h3; clear h1 h2 h3)
 generalize hW : World.alloc w1 _ = W1
 have HN := Aside0.mk (show NodeB W1 w1.heap.size xJ9 A c from by rw [← hW]; exact NodeB.new H1.out H2.out)
 have HB := Aside0.mk (show Below w.heap.size w W1 from by rw [← hW]; exact xA2 H3.out _)
 clear hW
 obtain ⟨c0, c1, c2, c3, c4⟩ := ey5 HN.out.blk
 have hcall := Aside0.mk (xKx 60 xJ9 A c ALIVE2 0 m W1 HN.out.hc HN.out.hC (xAb HB.out HM.out) (HT.out.below HB.out) xJx)
 go_wp2_with (go_at_call 13; (refine hcall.out.mono ?_); rintro e w2 ⟨rfl, h1⟩; have H4 := Aside0.mk h1; clear h1)
 go_ret
 exact ⟨rfl, xBv HB.out HB.out.size H4.out⟩

/-! plain laws of the parser: what it hands on, and what it leaves -/
abbrev G (α : Type) := List S60 → Int → PR α
def er (t : S60) : Int × ByteArray × Int := (t.f0, t.f1, t.f2)
def ern : Nat → S25 → S25
 | 0, _ => z25
 | k + 1, n => ⟨n.f0, n.f1, n.f2, 0, n.f4.map (ern k)⟩
/-- The same trees, but for their places. -/
def En (n m : S25) : Prop := ∀ k, ern k n = ern k m
def El (l m : List S25) : Prop := ∀ k, l.map (ern k) = m.map (ern k)
def Et (t u : S60) : Prop := er t = er u
theorem El.snoc {l m : List S25} {a b : S25} (h : El l m) (h1 : En a b) : El (l ++ [a]) (m ++ [b]) := fun k => by rw [List.map_append, List.map_append, h k]; simp [h1 k]
theorem El.one {a b : S25} (h1 : En a b) : El [a] [b] := fun k => by simp [h1 k]
theorem El.nil : El [] [] := fun k => rfl
theorem El.len {l m : List S25} (h : El l m) : l.length = m.length := by have := congrArg List.length (h 0); simpa using this
theorem En.mk {a b : ByteArray} {c d e : Int} {l m : List S25} (h : El l m) : En ⟨a, b, c, d, l⟩ ⟨a, b, c, e, m⟩ := fun k => by
 cases k with
 | zero => rfl
 | succ k => simp only [ern, h k]
theorem En.refl (a : S25) : En a a := fun _ => rfl
/-- What is left is an end of what was given; a fault stands at the head of such an end. -/
def Mono {α : Type} (g : G α) : Prop := ∀ T en, (∀ a T', g T en = some (.ok (a, T')) → T' <:+ T) ∧ (∀ x, g T en = some (.error x) → ∃ S, S <:+ T ∧ x.2 = xB4 S en)
/-- Something is taken. -/
def Cons {α : Type} (g : G α) : Prop := ∀ T en a T', g T en = some (.ok (a, T')) → T'.length < T.length
def bd {α β : Type} (g : G α) (h : α → G β) : G β := fun T en => pbd (g T en) fun a T1 => h a T1 en
section
variable {α β : Type} {g g' : G α} {h h' : α → G β}
theorem Mono.bd (hg : Mono g) (hh : ∀ a, Mono (h a)) : Mono (bd g h) := by
 intro T en
 refine ⟨fun b T' hb => ?_, fun x hx => ?_⟩
 ·rcases xBd hb with ⟨e, _, he⟩ | ⟨a, T1, h1, h2⟩
  ·cases he
  ·exact ((hh a T1 en).1 b T' h2).trans ((hg T en).1 a T1 h1)
 ·rcases xBd hx with ⟨e, h1, he⟩ | ⟨a, T1, h1, h2⟩
  ·cases he
   exact (hg T en).2 x h1
  ·obtain ⟨S, hS, hp⟩ := (hh a T1 en).2 x h2
   exact ⟨S, hS.trans ((hg T en).1 a T1 h1), hp⟩
theorem Cons.bd1 (hg : Cons g) (hh : ∀ a, Mono (h a)) : Cons (P.bd g h) := by
 intro T en b T' hb
 rcases xBd hb with ⟨e, _, he⟩ | ⟨a, T1, h1, h2⟩
 ·cases he
 ·have := hg T en a T1 h1
  have := ((hh a T1 en).1 b T' h2).length_le
  omega
end
/-- What is read of tokens V, whatever stands behind them, is read of tokens alike. -/
def Sim {α : Type} (b : Bool) (Ra : α → α → Prop) (g g' : G α) : Prop :=
 ∀ V V' R R' en en' a T', V.map er = V'.map er → g (V ++ R) en = some (.ok (a, T')) → (R.length < T'.length ∨ b = true ∧ R.length ≤ T'.length) →
  ∃ a' V2 V2', T' = V2 ++ R ∧ V2.map er = V2'.map er ∧ g' (V' ++ R') en' = some (.ok (a', V2' ++ R')) ∧ Ra a a'
/-- A fault ahead of at. -/
def FE {α : Type} (g g' : G α) : Prop :=
 ∀ V R R' en en' at_ x, (∀ t ∈ R, at_ ≤ t.f3) → at_ ≤ en → g (V ++ R) en = some (.error x) → x.2 < at_ → g' (V ++ R') en' = some (.error x)
section
variable {α β : Type} {g g' : G α} {h h' : α → G β} {Ra : α → α → Prop} {Rb : β → β → Prop} {b : Bool}
theorem Sim.bd (hg : Sim true Ra g g') (hh : ∀ a a', Ra a a' → Sim b Rb (h a) (h' a')) (hm : ∀ a, Mono (h a)) : Sim b Rb (P.bd g h) (P.bd g' h') := by
 intro V V' R R' en en' c T' hV hc hl
 rcases xBd hc with ⟨e, _, he⟩ | ⟨a, T1, h1, h2⟩
 ·cases he
 ·have hle := ((hm a T1 en).1 c T' h2).length_le
  obtain ⟨a', V2, V2', rfl, hV2, h3, hR⟩ := hg V V' R R' en en' a T1 hV h1 (.inr ⟨rfl, by rcases hl with hl | hl <;> omega⟩)
  obtain ⟨c', V3, V3', rfl, hV3, h4, hRb⟩ := hh a a' hR V2 V2' R R' en en' c T' hV2 h2 hl
  exact ⟨c', V3, V3', rfl, hV3, by unfold P.bd; rw [h3]; exact h4, hRb⟩
theorem Sim.bdc (hg : Sim false Ra g g') (hh : ∀ a a', Ra a a' → Sim b Rb (h a) (h' a')) (hm : ∀ a, Cons (h a)) : Sim b Rb (P.bd g h) (P.bd g' h') := by
 intro V V' R R' en en' c T' hV hc hl
 rcases xBd hc with ⟨e, _, he⟩ | ⟨a, T1, h1, h2⟩
 ·cases he
 ·have hle := hm a T1 en c T' h2
  obtain ⟨a', V2, V2', rfl, hV2, h3, hR⟩ := hg V V' R R' en en' a T1 hV h1 (.inl (by rcases hl with hl | hl <;> omega))
  obtain ⟨c', V3, V3', rfl, hV3, h4, hRb⟩ := hh a a' hR V2 V2' R R' en en' c T' hV2 h2 hl
  exact ⟨c', V3, V3', rfl, hV3, by unfold P.bd; rw [h3]; exact h4, hRb⟩
end
/-! the leaves -/
def gret {α : Type} (a : α) : G α := fun T _ => some (.ok (a, T))
theorem Mono.ret {α : Type} (a : α) : Mono (gret a) := fun T en => ⟨fun b T' h => by cases h; exact List.suffix_refl _, fun x h => by cases h⟩
theorem Sim.ret {α : Type} {Ra : α → α → Prop} {b : Bool} {a a' : α} (h : Ra a a') : Sim b Ra (gret a) (gret a') := by
 intro V V' R R' en en' c T' hV hc hl
 cases hc
 exact ⟨a', V, V', rfl, hV, rfl, h⟩
def xEd (s : ByteArray) : G Unit := fun T en => some (xDl T en s)
theorem xM3 {t u : S60} {T U : List S60} {s : ByteArray} (h : er t = er u) : pis (t :: T) s = pis (u :: U) s := by
 unfold er at h
 simp only [Prod.mk.injEq] at h
 obtain ⟨h0, h1, h2⟩ := h
 simp only [pis, h0, h1]
theorem Mono.must (s : ByteArray) : Mono (xEd s) := fun T en => by
 unfold xEd xDl
 refine ⟨fun a T' h => ?_, fun x h => ?_⟩
 ·split at h
  ·cases h; exact List.tail_suffix T
  ·cases h
 ·split at h
  ·cases h
  ·cases h; exact ⟨T, List.suffix_refl _, rfl⟩
theorem Cons.must (s : ByteArray) : Cons (xEd s) := fun T en a T' h => by
 unfold xEd xDl at h
 split at h
 ·rename_i hp
  obtain ⟨t, T1, rfl⟩ := xI7 hp
  cases h; simp
 ·cases h
theorem Sim.must {b : Bool} (s : ByteArray) : Sim b (fun _ _ => True) (xEd s) (xEd s) := by
 intro V V' R R' en en' c T' hV hc hl
 have hcons := Cons.must s _ _ _ _ hc
 cases V with
 | nil => rw [List.nil_append] at hcons; rcases hl with hl | hl <;> omega
 | cons t V =>
  cases V' with
  | nil => cases hV
  | cons t' V' =>
   simp only [List.map_cons, List.cons.injEq] at hV
   unfold xEd xDl at hc ⊢
   rw [List.cons_append] at hc ⊢
   rw [xM3 (U := V' ++ R') hV.1] at hc
   by_cases hp : pis (t' :: (V' ++ R')) s = true
   ·rw [if_pos hp] at hc
    rw [if_pos hp]
    cases hc
    exact ⟨(), V, V', rfl, hV.2, rfl, trivial⟩
   ·rw [if_neg hp] at hc
    cases hc
def xG1 (may : S60 → Option Bool) : G S60 := fun T en => xEu may T en
theorem Mono.take (may : S60 → Option Bool) : Mono (xG1 may) := fun T en => by
 unfold xG1
 cases T with
 | nil => exact ⟨(fun a T' h => by cases h), (fun x h => by cases h; exact ⟨[], List.suffix_refl _, rfl⟩)⟩
 | cons t T =>
  simp only [xEu]
  refine ⟨fun a T' h => ?_, fun x h => ?_⟩
  ·obtain ⟨b, hb, h⟩ := Option.map_eq_some_iff.1 h
   split at h
   ·cases h; exact List.suffix_cons _ _
   ·cases h
  ·obtain ⟨b, hb, h⟩ := Option.map_eq_some_iff.1 h
   split at h
   ·cases h
   ·cases h; exact ⟨t :: T, List.suffix_refl _, rfl⟩
theorem Cons.take (may : S60 → Option Bool) : Cons (xG1 may) := fun T en a T' h => by
 unfold xG1 at h
 cases T with
 | nil => cases h
 | cons t T =>
  simp only [xEu] at h
  obtain ⟨b, hb, h⟩ := Option.map_eq_some_iff.1 h
  split at h
  ·cases h; simp
  ·cases h
theorem Sim.take {b : Bool} (may : S60 → Option Bool) (hmay : ∀ t u, er t = er u → may t = may u) : Sim b Et (xG1 may) (xG1 may) := by
 intro V V' R R' en en' c T' hV hc hl
 have hcons := Cons.take may _ _ _ _ hc
 cases V with
 | nil => rw [List.nil_append] at hcons; rcases hl with hl | hl <;> omega
 | cons t V =>
  cases V' with
  | nil => cases hV
  | cons t' V' =>
   simp only [List.map_cons, List.cons.injEq] at hV
   unfold xG1 at hc ⊢
   rw [List.cons_append] at hc ⊢
   simp only [xEu] at hc ⊢
   rw [hmay t t' hV.1] at hc
   obtain ⟨bb, hb, h⟩ := Option.map_eq_some_iff.1 hc
   rw [hb]
   split at h
   ·rename_i hbb
    cases h
    refine ⟨t', V, V', rfl, hV.2, ?_, hV.1⟩
    rw [Option.map_some, if_pos hbb]
   ·cases h
theorem pmay_er (k : Int) : ∀ t u, er t = er u → pmay k t = pmay k u := by
 intro t u h
 unfold er at h
 simp only [Prod.mk.injEq] at h
 simp only [pmay, h.1, h.2.1]
theorem pstw_er : ∀ t u, er t = er u → (some (pstw t) : Option Bool) = some (pstw u) := by
 intro t u h
 unfold er at h
 simp only [Prod.mk.injEq] at h
 simp only [pstw, h.1, h.2.1]
def gof (k : Int) : G S60 := fun T en => pof T en k

def gite {α : Type} (c : Prop) [Decidable c] (f g : G α) : G α := fun T en => if c then f T en else g T en
section
variable {α : Type} {c : Prop} [Decidable c] {f g f' g' : G α} {Ra : α → α → Prop} {b : Bool}
theorem xFc (h : c) : gite c f g = f := by unfold gite; funext T en; rw [if_pos h]
theorem xFd (h : ¬ c) : gite c f g = g := by unfold gite; funext T en; rw [if_neg h]
theorem Mono.gite (hf : Mono f) (hg : Mono g) : Mono (P.gite c f g) := by by_cases h : c; rw [xFc h]; exact hf; rw [xFd h]; exact hg
theorem Sim.gite (hf : Sim b Ra f f') (hg : Sim b Ra g g') : Sim b Ra (P.gite c f g) (P.gite c f' g') := by by_cases h : c; rw [xFc h, xFc h]; exact hf; rw [xFd h, xFd h]; exact hg
end
theorem Mono.none {α : Type} {g : G α} (e : ∀ T en, g T en = none) : Mono g := by
 intro T en
 rw [e]
 exact ⟨(fun a T' h => by cases h), (fun x h => by cases h)⟩
theorem Mono.err {α : Type} {g : G α} {c : Int} (e : ∀ T en, g T en = some (.error (c, xB4 T en))) : Mono g := by
 intro T en
 rw [e]
 exact ⟨(fun a T' h => by cases h), (fun x h => by cases h; exact ⟨T, List.suffix_refl _, rfl⟩)⟩
theorem Cons.none {α : Type} {g : G α} (e : ∀ T en, g T en = none) : Cons g := by
 intro T en a T' h
 rw [e] at h
 cases h
theorem Cons.err {α : Type} {g : G α} {c : Int} (e : ∀ T en, g T en = some (.error (c, xB4 T en))) : Cons g := by
 intro T en a T' h
 rw [e] at h
 cases h
def xCo (k : Nat) (nest : Int) : G S25 := fun T en => pexpr k T en nest
def xDi (k : Nat) (nest : Int) (acc : List S25) : G (List S25) := fun T en => pexprs k T en nest acc
theorem xE0 (nest : Int) : ∀ T en, xCo 0 nest T en = none := fun T en => by unfold xCo; rw [pexpr]
theorem xE9 (nest : Int) (acc : List S25) : ∀ T en, xDi 0 nest acc T en = none := fun T en => by unfold xDi; rw [pexprs]
def guse : G S25 := bd (gof 0) fun t => gret ⟨(⟨#[117, 115, 101]⟩ : ByteArray), t.f1, 0, t.f3, []⟩
def gbr (k : Nat) (w : ByteArray) (nest : Int) (first : S25) : G (List S25) :=
 gite (w.toList = ([108, 105, 110, 101, 97, 114] : List UInt8)) (bd (xEd CM) fun _ => bd (gof 1) fun a => bd (xEd CM) fun _ => bd (gof 1) fun b => gret ([first] ++ [xC8 a] ++ [xC8 b]))
 (gite (w.toList = ([115, 110, 97, 112, 115, 104, 111, 116] : List UInt8)) (bd (xEd CM) fun _ => bd (xCo k (nest + 1)) fun a => bd (xEd CM) fun _ => bd (gof 1) fun b => gret ([first] ++ [a] ++ [xC8 b]))
 (gite (w.toList = ([99, 114, 121, 112, 116] : List UInt8) ∨ w.toList = ([105, 110, 116, 101, 103, 114, 105, 116, 121] : List UInt8) ∨ w.toList = ([118, 101, 114, 105, 116, 121] : List UInt8)) (bd (xEd CM) fun _ => bd (gof 0) fun a => gret ([first] ++ [xBu a]))
 (xDi k nest [first])))
def gT (k : Nat) (w : ByteArray) (p : Int) (nest : Int) : G S25 := bd (xEd LP) fun _ => bd (xCo k (nest + 1)) fun first => bd (gbr k w nest first) fun L => bd (xEd RP) fun _ => gret ⟨w, ⟨#[]⟩, 0, p, L⟩
theorem xD2 (k : Nat) (nest : Int) (hn0 : ¬ (nest < 0 ∨ nest > 100)) (hn : ¬ nest > 12) (t : S60) (T : List S60) (en : Int) :
  xCo (k + 1) nest (t :: T) en = if ((t.f0 == 0) && xDr t.f1) = true then gT k t.f1 t.f3 nest T en else guse (t :: T) en := by
 unfold xCo
 rw [pexpr, if_neg hn0, if_neg hn]
 rfl
theorem xEr (k : Nat) (nest : Int) (hn0 : ¬ (nest < 0 ∨ nest > 100)) (hn : ¬ nest > 12) (en : Int) : xCo (k + 1) nest [] en = guse [] en := by
 unfold xCo
 rw [pexpr, if_neg hn0, if_neg hn]
 rfl
theorem xEa (k : Nat) (nest : Int) (acc : List S25) (T : List S60) (en : Int) :
  xDi (k + 1) nest acc T en = if acc.length ≤ 1000000 then (if pis T CM = true then bd (xCo k (nest + 1)) (fun a => xDi k nest (acc ++ [a])) T.tail en else some (.ok (acc, T))) else none := by
 unfold xDi
 rw [pexprs]
 rfl
theorem Mono.of (k : Int) : Mono (gof k) := Mono.take _
theorem Cons.of (k : Int) : Cons (gof k) := Cons.take _
theorem Sim.of {b : Bool} (k : Int) : Sim b Et (gof k) (gof k) := Sim.take _ (pmay_er k)
theorem Mono.use : Mono guse := Mono.bd (Mono.of 0) fun _ => Mono.ret _
theorem Cons.use : Cons guse := Cons.bd1 (Cons.of 0) fun _ => Mono.ret _
theorem Et.f1 {t u : S60} (h : Et t u) : t.f1 = u.f1 := by unfold Et er at h; simp only [Prod.mk.injEq] at h; exact h.2.1
theorem Et.f2 {t u : S60} (h : Et t u) : t.f2 = u.f2 := by unfold Et er at h; simp only [Prod.mk.injEq] at h; exact h.2.2
theorem Et.f0 {t u : S60} (h : Et t u) : t.f0 = u.f0 := by unfold Et er at h; simp only [Prod.mk.injEq] at h; exact h.1
theorem Sim.use {b : Bool} : Sim b En guse guse := Sim.bd (Sim.of 0) (fun a a' h => Sim.ret (by rw [h.f1]; exact En.mk (fun _ => rfl))) fun _ => Mono.ret _
theorem En.num {t u : S60} (h : Et t u) : En (xC8 t) (xC8 u) := by unfold xC8; rw [h.f2]; exact En.mk (fun _ => rfl)
theorem En.name {t u : S60} (h : Et t u) : En (xBu t) (xBu u) := by unfold xBu; rw [h.f1]; exact En.mk (fun _ => rfl)
section
variable (k : Nat) (ihm : ∀ nest, Mono (xCo k nest)) (ihc : ∀ nest, Cons (xCo k nest)) (ihms : ∀ nest acc, Mono (xDi k nest acc))
include ihm ihms
theorem Mono.br (w : ByteArray) (nest : Int) (first : S25) : Mono (gbr k w nest first) := by
 unfold gbr
 refine Mono.gite (Mono.bd (Mono.must _) fun _ => Mono.bd (Mono.of 1) fun _ => Mono.bd (Mono.must _) fun _ => Mono.bd (Mono.of 1) fun _ => Mono.ret _) (Mono.gite (Mono.bd (Mono.must _) fun _ => Mono.bd (ihm _) fun _ => Mono.bd (Mono.must _) fun _ => Mono.bd (Mono.of 1) fun _ => Mono.ret _) (Mono.gite (Mono.bd (Mono.must _) fun _ => Mono.bd (Mono.of 0) fun _ => Mono.ret _) (ihms _ _)))
theorem Mono.T (w : ByteArray) (p nest : Int) : Mono (gT k w p nest) :=
 Mono.bd (Mono.must _) fun _ => Mono.bd (ihm _) fun first => Mono.bd (Mono.br k ihm ihms w nest first) fun _ => Mono.bd (Mono.must _) fun _ => Mono.ret _
end
theorem xDp : ∀ k, (∀ nest, Mono (xCo k nest)) ∧ (∀ nest acc, Mono (xDi k nest acc)) ∧ (∀ nest, Cons (xCo k nest))
 | 0 => ⟨fun nest => Mono.none (xE0 nest), fun nest acc => Mono.none (xE9 nest acc), fun nest => Cons.none (xE0 nest)⟩
 | k + 1 => by
  obtain ⟨ihm, ihms, ihc⟩ := xDp k
  have key : ∀ nest, Mono (xCo (k + 1) nest) ∧ Cons (xCo (k + 1) nest) := by
   intro nest
   by_cases hn0 : nest < 0 ∨ nest > 100
   ·have e : ∀ T en, xCo (k + 1) nest T en = none := fun T en => by unfold xCo; rw [pexpr, if_pos hn0]
    exact ⟨Mono.none e, Cons.none e⟩
   by_cases hn : nest > 12
   ·have e : ∀ T en, xCo (k + 1) nest T en = some (.error (112, xB4 T en)) := fun T en => by unfold xCo; rw [pexpr, if_neg hn0, if_pos hn]
    exact ⟨Mono.err e, Cons.err e⟩
   have hT := fun w p => Mono.T k ihm ihms w p nest
   have hTc : ∀ w p, Cons (gT k w p nest) := fun w p => Cons.bd1 (Cons.must _) fun _ => Mono.bd (ihm _) fun first => Mono.bd (Mono.br k ihm ihms w nest first) fun _ => Mono.bd (Mono.must _) fun _ => Mono.ret _
   refine ⟨fun T en => ?_, fun T en a T' h => ?_⟩
   ·cases T with
    | nil =>
     rw [xEr k nest hn0 hn]
     exact Mono.use _ _
    | cons t T =>
     rw [xD2 k nest hn0 hn]
     split
     ·refine ⟨fun a T' h => (((hT _ _) _ _).1 a T' h).trans (List.suffix_cons _ _), fun x h => ?_⟩
      obtain ⟨S, hS, hp⟩ := ((hT _ _) _ _).2 x h
      exact ⟨S, hS.trans (List.suffix_cons _ _), hp⟩
     ·exact Mono.use _ _
   ·cases T with
    | nil =>
     rw [xEr k nest hn0 hn] at h
     exact Cons.use _ _ _ _ h
    | cons t T =>
     rw [xD2 k nest hn0 hn] at h
     split at h
     ·have := hTc _ _ _ _ _ _ h
      rw [List.length_cons]
      omega
     ·exact Cons.use _ _ _ _ h
  refine ⟨fun nest => (key nest).1, fun nest acc T en => ?_, fun nest => (key nest).2⟩
  rw [xEa]
  split
  ·split
   ·have hM := Mono.bd (ihm (nest + 1)) (fun a => ihms nest (acc ++ [a])) T.tail en
    refine ⟨fun a T' h => (hM.1 a T' h).trans (List.tail_suffix _), fun x h => ?_⟩
    obtain ⟨S, hS, hp⟩ := hM.2 x h
    exact ⟨S, hS.trans (List.tail_suffix _), hp⟩
   ·exact ⟨fun a T' h => (by cases h; exact List.suffix_refl _), fun x h => (by cases h)⟩
  ·exact ⟨fun a T' h => (by cases h), fun x h => (by cases h)⟩
section
variable (k : Nat) (ih : ∀ nest, Sim true En (xCo k nest) (xCo k nest)) (ihs : ∀ nest acc acc', El acc acc' → Sim false El (xDi k nest acc) (xDi k nest acc'))
include ih ihs
theorem Sim.br (w : ByteArray) (nest : Int) (first first' : S25) (hf : En first first') : Sim false El (gbr k w nest first) (gbr k w nest first') := by
 obtain ⟨hm, hms, hc⟩ := xDp k
 unfold gbr
 refine Sim.gite ?_ (Sim.gite ?_ (Sim.gite ?_ ?_))
 ·exact Sim.bd (Sim.must _) (fun _ _ _ => Sim.bd (Sim.of 1) (fun a a' ha => Sim.bd (Sim.must _) (fun _ _ _ => Sim.bd (Sim.of 1) (fun c c' hc => Sim.ret (((El.one hf).snoc (En.num ha)).snoc (En.num hc))) fun _ => Mono.ret _) fun _ => Mono.bd (Mono.of 1) fun _ => Mono.ret _) fun _ => Mono.bd (Mono.must _) fun _ => Mono.bd (Mono.of 1) fun _ => Mono.ret _) fun _ => Mono.bd (Mono.of 1) fun _ => Mono.bd (Mono.must _) fun _ => Mono.bd (Mono.of 1) fun _ => Mono.ret _
 ·exact Sim.bd (Sim.must _) (fun _ _ _ => Sim.bd (ih _) (fun a a' ha => Sim.bd (Sim.must _) (fun _ _ _ => Sim.bd (Sim.of 1) (fun c c' hc => Sim.ret (((El.one hf).snoc ha).snoc (En.num hc))) fun _ => Mono.ret _) fun _ => Mono.bd (Mono.of 1) fun _ => Mono.ret _) fun _ => Mono.bd (Mono.must _) fun _ => Mono.bd (Mono.of 1) fun _ => Mono.ret _) fun _ => Mono.bd (hm _) fun _ => Mono.bd (Mono.must _) fun _ => Mono.bd (Mono.of 1) fun _ => Mono.ret _
 ·exact Sim.bd (Sim.must _) (fun _ _ _ => Sim.bd (Sim.of 0) (fun a a' ha => Sim.ret ((El.one hf).snoc (En.name ha))) fun _ => Mono.ret _) fun _ => Mono.bd (Mono.of 0) fun _ => Mono.ret _
 ·exact ihs _ _ _ (El.one hf)
theorem Sim.T (w : ByteArray) (p p' nest : Int) : Sim true En (gT k w p nest) (gT k w p' nest) := by
 obtain ⟨hm, hms, hc⟩ := xDp k
 exact Sim.bd (Sim.must _) (fun _ _ _ => Sim.bd (ih _) (fun a a' ha => Sim.bdc (Sim.br k ih ihs w nest a a' ha) (fun L L' hL => Sim.bd (Sim.must _) (fun _ _ _ => Sim.ret (En.mk hL)) fun _ => Mono.ret _) fun _ => Cons.bd1 (Cons.must _) fun _ => Mono.ret _) fun _ => Mono.bd (Mono.br k hm hms w nest _) fun _ => Mono.bd (Mono.must _) fun _ => Mono.ret _) fun _ => Mono.bd (hm _) fun _ => Mono.bd (Mono.br k hm hms w nest _) fun _ => Mono.bd (Mono.must _) fun _ => Mono.ret _
end
theorem xLn : ∀ k, (∀ nest, Sim true En (xCo k nest) (xCo k nest)) ∧ (∀ nest acc acc', El acc acc' → Sim false El (xDi k nest acc) (xDi k nest acc'))
 | 0 => ⟨(fun nest V V' R R' en en' a T' _ h _ => by rw [xE0] at h; cases h), (fun nest acc acc' _ V V' R R' en en' a T' _ h _ => by rw [xE9] at h; cases h)⟩
 | k + 1 => by
  obtain ⟨ih, ihs⟩ := xLn k
  obtain ⟨hm, hms, hc⟩ := xDp k
  refine ⟨fun nest => ?_, fun nest acc acc' hacc => ?_⟩
  ·by_cases hn0 : nest < 0 ∨ nest > 100
   ·have e : ∀ T en, xCo (k + 1) nest T en = none := fun T en => by unfold xCo; rw [pexpr, if_pos hn0]
    intro V V' R R' en en' a T' _ h _
    rw [e] at h; cases h
   by_cases hn : nest > 12
   ·have e : ∀ T en, xCo (k + 1) nest T en = some (.error (112, xB4 T en)) := fun T en => by unfold xCo; rw [pexpr, if_neg hn0, if_pos hn]
    intro V V' R R' en en' a T' _ h _
    rw [e] at h; cases h
   intro V V' R R' en en' a T' hV h hl
   have hcons := (xDp (k + 1)).2.2 nest _ _ _ _ h
   cases V with
   | nil => rw [List.nil_append] at hcons; rcases hl with hl | hl <;> omega
   | cons t V =>
    cases V' with
    | nil => cases hV
    | cons t' V' =>
     simp only [List.map_cons, List.cons.injEq] at hV
     have ht : Et t t' := hV.1
     rw [List.cons_append, xD2 k nest hn0 hn] at h
     rw [List.cons_append, xD2 k nest hn0 hn, ← ht.f0, ← ht.f1]
     split at h
     ·rename_i hc1
      rw [if_pos hc1]
      exact Sim.T k ih ihs t.f1 t.f3 t'.f3 nest V V' R R' en en' a T' hV.2 h hl
     ·rename_i hc1
      rw [if_neg hc1]
      exact Sim.use (b := true) (t :: V) (t' :: V') R R' en en' a T' (by simp [hV.1, hV.2]) h hl
  ·intro V V' R R' en en' a T' hV h hl
   have hle := (((xDp (k + 1)).2.1 nest acc _ _).1 _ _ h).length_le
   rw [xEa] at h
   rw [xEa, ← hacc.len]
   split at h
   case isFalse => cases h
   rename_i hb
   rw [if_pos hb]
   cases V with
   | nil => rw [List.nil_append] at hle; rcases hl with hl | ⟨hl, _⟩; (omega); (cases hl)
   | cons t V =>
    cases V' with
    | nil => cases hV
    | cons t' V' =>
     simp only [List.map_cons, List.cons.injEq] at hV
     rw [List.cons_append] at h ⊢
     rw [xM3 (U := V' ++ R') hV.1] at h
     split at h
     ·rename_i hp
      rw [if_pos hp]
      exact Sim.bd (b := false) (Rb := El) (ih (nest + 1)) (fun a a' ha => ihs nest (acc ++ [a]) (acc' ++ [a']) (hacc.snoc ha)) (fun a => hms nest (acc ++ [a])) V V' R R' en en' a T' hV.2 h hl
     ·rename_i hp
      rw [if_neg hp]
      cases h
      exact ⟨acc', t :: V, t' :: V', rfl, by simp [hV.1, hV.2], rfl, hacc⟩

section
variable (k : Nat) (ihf : ∀ nest, FE (xCo k nest) (xCo k nest)) (ihfs : ∀ nest acc acc', El acc acc' → FE (xDi k nest acc) (xDi k nest acc'))
include ihf ihfs
end
/-! statements -/
def gro : G (Int × List S25) := fun T en => if pis T RO = true then some (.ok ((1, []), T.tail)) else some (.ok ((0, []), T))
def Rnl (a b : Int × List S25) : Prop := a.1 = b.1 ∧ El a.2 b.2
def gval (k : Nat) (w : ByteArray) : G (Int × List S25) :=
 gite (w.toList = ([100, 101, 118, 105, 99, 101] : List UInt8) ∨ w.toList = ([106, 111, 117, 114, 110, 97, 108] : List UInt8)) (bd (gof 1) fun a => gret (a.f2, []))
 (gite (w.toList = ([107, 101, 121] : List UInt8) ∨ w.toList = ([114, 111, 111, 116] : List UInt8)) (bd (gof 2) fun a => gret (0, [xFu a]))
 (gite (w.toList = ([118, 111, 108, 117, 109, 101] : List UInt8)) (bd (xEd EQ) fun _ => bd (xCo k 1) fun a => gret (0, [a]))
 (gite (w.toList = ([101, 120, 112, 111, 114, 116] : List UInt8)) gro (gret (0, [])))))
def xJs (k : Nat) (w nm : ByteArray) (pl : Int) : G S25 := bd (gval k w) fun nl => bd (xEd SC) fun _ => gret ⟨w, nm, nl.1, pl, nl.2⟩
def gstw : G S60 := xG1 (fun t => some (pstw t))
def xEz (k : Nat) : G S25 := bd gstw fun t => bd (gof 0) fun nm => xJs k t.f1 nm.f1 t.f3
theorem xKf (k : Nat) (T : List S60) (en : Int) : xIx k T en = xEz k T en := by
 cases T with
 | nil => rfl
 | cons t T =>
  unfold xIx xEz bd gstw xG1
  simp only [xEu, Option.map_some]
  split <;> rfl
theorem Mono.ro : Mono gro := by
 intro T en
 unfold gro
 split
 ·exact ⟨(fun a T' h => by cases h; exact List.tail_suffix _), (fun x h => by cases h)⟩
 ·exact ⟨(fun a T' h => by cases h; exact List.suffix_refl _), (fun x h => by cases h)⟩
theorem Sim.ro : Sim false Rnl gro gro := by
 intro V V' R R' en en' a T' hV h hl
 have hle := ((Mono.ro _ _).1 _ _ h).length_le
 cases V with
 | nil => rw [List.nil_append] at hle; rcases hl with hl | ⟨hl, _⟩; (omega); (cases hl)
 | cons t V =>
  cases V' with
  | nil => cases hV
  | cons t' V' =>
   simp only [List.map_cons, List.cons.injEq] at hV
   unfold gro at h ⊢
   rw [List.cons_append] at h ⊢
   rw [xM3 (U := V' ++ R') hV.1] at h
   split at h
   ·rename_i hp
    rw [if_pos hp]
    cases h
    exact ⟨_, V, V', rfl, hV.2, rfl, rfl, El.nil⟩
   ·rename_i hp
    rw [if_neg hp]
    cases h
    exact ⟨_, t :: V, t' :: V', rfl, by simp [hV.1, hV.2], rfl, rfl, El.nil⟩
theorem Mono.val (k : Nat) (w : ByteArray) : Mono (gval k w) := by
 obtain ⟨hm, hms, hc⟩ := xDp k
 exact Mono.gite (Mono.bd (Mono.of _) fun _ => Mono.ret _) (Mono.gite (Mono.bd (Mono.of _) fun _ => Mono.ret _) (Mono.gite (Mono.bd (Mono.must _) fun _ => Mono.bd (hm _) fun _ => Mono.ret _) (Mono.gite Mono.ro (Mono.ret _))))
theorem En.hex {t u : S60} (h : Et t u) : En (xFu t) (xFu u) := by unfold xFu; rw [h.f1]; exact En.mk (fun _ => rfl)
theorem Sim.val (k : Nat) (w : ByteArray) : Sim false Rnl (gval k w) (gval k w) := by
 obtain ⟨hm, hms, hc⟩ := xDp k
 obtain ⟨ih, ihs⟩ := xLn k
 exact Sim.gite (Sim.bd (Sim.of _) (fun a a' h => Sim.ret ⟨h.f2, El.nil⟩) fun _ => Mono.ret _) (Sim.gite (Sim.bd (Sim.of _) (fun a a' h => Sim.ret ⟨rfl, El.one (En.hex h)⟩) fun _ => Mono.ret _) (Sim.gite (Sim.bd (Sim.must _) (fun _ _ _ => Sim.bd (ih _) (fun a a' h => Sim.ret ⟨rfl, El.one h⟩) fun _ => Mono.ret _) fun _ => Mono.bd (hm _) fun _ => Mono.ret _) (Sim.gite Sim.ro (Sim.ret ⟨rfl, El.nil⟩))))
theorem Mono.tail (k : Nat) (w nm : ByteArray) (pl : Int) : Mono (xJs k w nm pl) := Mono.bd (Mono.val k w) fun _ => Mono.bd (Mono.must _) fun _ => Mono.ret _
theorem Sim.tail (k : Nat) (w nm : ByteArray) (pl pl' : Int) : Sim true En (xJs k w nm pl) (xJs k w nm pl') :=
 Sim.bdc (Sim.val k w) (fun a a' h => Sim.bd (Sim.must _) (fun _ _ _ => Sim.ret (by rw [h.1]; exact En.mk h.2)) fun _ => Mono.ret _) fun _ => Cons.bd1 (Cons.must _) fun _ => Mono.ret _
theorem Mono.stmt (k : Nat) : Mono (xEz k) := Mono.bd (Mono.take _) fun _ => Mono.bd (Mono.of _) fun _ => Mono.tail _ _ _ _
theorem Cons.stmt (k : Nat) : Cons (xEz k) := Cons.bd1 (Cons.take _) fun _ => Mono.bd (Mono.of _) fun _ => Mono.tail _ _ _ _
theorem Sim.stmt (k : Nat) : Sim true En (xEz k) (xEz k) :=
 Sim.bd (Sim.take _ pstw_er) (fun t t' ht => Sim.bd (Sim.of 0) (fun n n' hn => by rw [ht.f1, hn.f1]; exact Sim.tail _ _ _ _ _) fun _ => Mono.tail _ _ _ _) fun _ => Mono.bd (Mono.of _) fun _ => Mono.tail _ _ _ _
def xCt (k : Nat) (acc : List S25) : G (List S25) := fun T en => xE6 k T en acc
theorem xE8 (acc : List S25) : ∀ T en, xCt 0 acc T en = none := fun T en => by unfold xCt; rw [xE6]
theorem xEq (k : Nat) (acc : List S25) (T : List S60) (en : Int) : xCt (k + 1) acc T en = if acc.length ≤ 1000000 then (if T = [] then some (.ok (acc, T)) else bd (xEz k) (fun x => xCt k (acc ++ [x])) T en) else none := by
 unfold xCt
 rw [xE6]
 simp only [xKf]
 rfl
theorem LeO.rounds {α : Type} {f : Nat → Option α} (h : ∀ k, LeO (f k) (f (k + 1))) (j : Nat) : ∀ d, LeO (f j) (f (j + d))
 | 0 => LeO.refl _
 | d + 1 => fun r hr => h (j + d) r (LeO.rounds h j d r hr)
/-- A file's statements, others behind them. -/
theorem xHi : ∀ k T en acc L T', xCt k acc T en = some (.ok (L, T')) → T' = [] ∧ ∀ V' acc' R' en', T.map er = V'.map er → El acc acc' →
  ∃ L', El L L' ∧ ∀ j r, xCt j L' R' en' = some r → xCt (k + j) acc' (V' ++ R') en' = some r
 | 0, T, en, acc, L, T', h => by rw [xE8] at h; cases h
 | k + 1, T, en, acc, L, T', h => by
  rw [xEq] at h
  split at h
  case isFalse => cases h
  rename_i hb
  by_cases hT : T = []
  ·subst hT
   rw [if_pos rfl] at h
   cases h
   refine ⟨rfl, fun V' acc' R' en' hV hacc => ⟨acc', hacc, fun j r hr => ?_⟩⟩
   have : V' = [] := by simpa using hV.symm
   subst this
   rw [List.nil_append]
   have := LeO.rounds (f := fun j => xCt j acc' R' en') (fun j => xEv j R' en' acc') j (k + 1) r hr
   rw [Nat.add_comm]
   exact this
  ·rw [if_neg hT] at h
   rcases xBd h with ⟨e, _, he⟩ | ⟨x, T1, h1, h2⟩
   ·cases he
   obtain ⟨rfl, ih⟩ := xHi k T1 en (acc ++ [x]) L T' h2
   refine ⟨rfl, fun V' acc' R' en' hV hacc => ?_⟩
   obtain ⟨x', V2, V2', e1, hV2, h3, hx⟩ := Sim.stmt k T V' [] R' en en' x T1 hV (by simpa using h1) (.inr ⟨rfl, by simp⟩)
   rw [List.append_nil] at e1
   subst e1
   obtain ⟨L', hL, ih2⟩ := ih V2' (acc' ++ [x']) R' en' hV2 (hacc.snoc hx)
   refine ⟨L', hL, fun j r hr => ?_⟩
   have h4 := ih2 j r hr
   rw [show k + 1 + j = (k + j) + 1 by omega, xEq, ← hacc.len, if_pos hb, if_neg ?hne]
   case hne =>
    intro e
    apply hT
    have h5 := (List.append_eq_nil_iff.1 e).1
    subst h5
    simpa using hV
   have h5 := LeO.rounds (f := fun j => xEz j (V' ++ R') en') (fun j => by simp only [← xKf]; exact xHq j _ _) k j _ h3
   unfold bd
   rw [h5]
   exact h4
end Go.Proofs.YtknbfhhmjbnemaaDoor.P
end
section
namespace Go.Proofs.YtknbfhhmjbnemaaDoor.Pure
open Go.RowKit Go.Proofs.YtknbfhhmjbnemaaDoor.P Go.Proofs.YtknbfhhmjbnemaaDoorW.PrintWords Go.Proofs.YtknbfhhmjbnemaaDoorW.PrintLast


/-! ### what the scanner does, over lists of bytes -/
def xEk (c : Int) : Bool := c == 9 || c == 10 || c == 13 || c == 32
/-- What is left behind blanks and notes; the first: does it begin within a note? -/
def xCk : Bool → List Int → List Int
 | _, [] => []
 | true, c :: l => if c = 10 then xCk false l else xCk true l
 | false, c :: l => if xEk c = true then xCk false l else if c = 47 ∧ l.head? = some 47 then xCk true l else c :: l
def xGb : List Int → Bool
 | [] => false
 | c :: _ => xCd c || (c == 95)
structure One where
 kind : Int
 s : List Int
 n : Int
 len : Nat
 e : Int
 off : Nat
def oneL : List Int → One
 | [] => ⟨0, [], 0, 0, 0, 0⟩
 | c :: t =>
  if xCd c = true then ⟨0, (c :: t).takeWhile xCe, 0, ((c :: t).takeWhile xCe).length, if 16 < ((c :: t).takeWhile xCe).length then 102 else 0, 0⟩
  else if xAv c = true then ⟨1, [], xCz ((c :: t).takeWhile xAv), ((c :: t).takeWhile xAv).length,
   if 9 < ((c :: t).takeWhile xAv).length then 102 else if xGb ((c :: t).drop ((c :: t).takeWhile xAv).length) = true then 101 else 0,
   if 9 < ((c :: t).takeWhile xAv).length then 0 else ((c :: t).takeWhile xAv).length⟩
  else if c = 36 then ⟨2, t.takeWhile pHex, 0, (t.takeWhile pHex).length + 1,
   if (t.takeWhile pHex).length = 0 then 101 else if 128 < (t.takeWhile pHex).length then 102 else if xGb (t.drop (t.takeWhile pHex).length) = true then 101 else 0,
   if (t.takeWhile pHex).length = 0 then 1 else if 128 < (t.takeWhile pHex).length then 0 else (t.takeWhile pHex).length + 1⟩
  else if c = 40 ∨ c = 41 ∨ c = 44 ∨ c = 61 ∨ c = 59 then ⟨3, [c], 0, 1, 0, 0⟩
  else ⟨3, [], 0, 0, 101, 0⟩
def xKl (o : One) (p : Nat) : S60 := ⟨o.kind, strOfNums o.s, o.n, p⟩
def xDk : Nat → Nat → List Int → Nat → Except (Int × Int) (List S60)
 | 0, _, _, _ => .ok []
 | f + 1, cnt, r, total =>
  if r = [] then .ok []
  else if cnt = 500 then .error (103, ((total - r.length : Nat) : Int))
  else if (oneL r).e = 0 then (xDk f (cnt + 1) (xCk false (r.drop (oneL r).len)) total).map (xKl (oneL r) (total - r.length) :: ·)
  else .error ((oneL r).e, ((total - r.length + (oneL r).off : Nat) : Int))
def scan (l : List Int) : Except (Int × Int) (List S60) :=
 if 2000 < l.length then .error (103, 0) else xDk (l.length + 1) 0 (xCk false l) l.length
def told : Except (Int × Int) (List S60) → List S60 × Int × Int
 | .ok l => (l, 0, -1)
 | .error e => ([], e.1, e.2)

theorem xDd : ∀ (l : List Int) (q : Bool), (xCk q l).length ≤ l.length
 | [], q => by cases q <;> simp [xCk]
 | c :: l, true => by
  unfold xCk
  split
  ·exact Nat.le_succ_of_le (xDd l false)
  ·exact Nat.le_succ_of_le (xDd l true)
 | c :: l, false => by
  unfold xCk
  split
  ·exact Nat.le_succ_of_le (xDd l false)
  ·split
   ·exact Nat.le_succ_of_le (xDd l true)
   ·exact Nat.le_refl _
theorem xCx : ∀ (l : List Int) (q : Bool), xCk q l <:+ l
 | [], q => by cases q <;> simp [xCk]
 | c :: l, true => by
  unfold xCk
  split
  ·exact (xCx l false).trans (List.suffix_cons c l)
  ·exact (xCx l true).trans (List.suffix_cons c l)
 | c :: l, false => by
  unfold xCk
  split
  ·exact (xCx l false).trans (List.suffix_cons c l)
  ·split
   ·exact (xCx l true).trans (List.suffix_cons c l)
   ·exact List.suffix_refl _
theorem xDb (p : Int → Bool) (l : List Int) : (l.takeWhile p).length ≤ l.length := List.Sublist.length_le (List.takeWhile_sublist p)
theorem xKa (l : List Int) (h : l ≠ []) : (oneL l).len ≤ l.length ∧ ((oneL l).e = 0 → 1 ≤ (oneL l).len) := by
 cases l with
 | nil => exact absurd rfl h
 | cons c t =>
  have h1 := xDb xCe (c :: t)
  have h2 := xDb xAv (c :: t)
  have h3 := xDb pHex t
  simp only [oneL]
  by_cases c1 : xCd c = true
  ·rw [if_pos c1]
   refine ⟨h1, fun _ => ?_⟩
   have hw : xCe c = true := by simp [xCe, c1]
   simp [List.takeWhile_cons, hw]
  ·rw [if_neg c1]
   by_cases c2 : xAv c = true
   ·rw [if_pos c2]
    refine ⟨h2, fun _ => ?_⟩
    simp [List.takeWhile_cons, c2]
   ·rw [if_neg c2]
    by_cases c3 : c = 36
    ·rw [if_pos c3]
     simp only [List.length_cons]
     exact ⟨by omega, fun _ => by omega⟩
    ·rw [if_neg c3]
     by_cases c4 : c = 40 ∨ c = 41 ∨ c = 44 ∨ c = 61 ∨ c = 59
     ·rw [if_pos c4]
      simp
     ·rw [if_neg c4]
      simp
/-! ### the printed functions are these -/
theorem xC7 (s : ByteArray) (k : Nat) (h : k < s.size) : (xAj s).drop k = bt s k :: (xAj s).drop (k + 1) := by
 have hl : k < (xAj s).length := by rw [xAy]; exact h
 rw [List.drop_eq_getElem_cons hl]
 have := xEb s k h
 rw [List.getElem?_eq_getElem hl] at this
 injection this with this
 rw [this]
theorem xDm (p : Int → Bool) (s : ByteArray) : ∀ f k, s.size - k = f → k ≤ s.size → xBc p s f k = k + (((xAj s).drop k).takeWhile p).length
 | 0, k, hf, hk => by
  have : (xAj s).drop k = [] := List.drop_eq_nil_iff.2 (by rw [xAy]; omega)
  rw [this]
  rfl
 | f + 1, k, hf, hk => by
  rw [xC7 s k (by omega)]
  unfold xBc
  by_cases h : p (bt s k) = true
  ·rw [if_pos ⟨by omega, h⟩, xDm p s f (k + 1) (by omega) (by omega), List.takeWhile_cons, if_pos h, List.length_cons]
   omega
  ·rw [if_neg (fun h2 => h h2.2), List.takeWhile_cons, if_neg h]
   rfl
theorem xI1 (l : List UInt8) : (l.map fun b => (b.toNat : Int)).map (fun n => UInt8.ofNat n.toNat) = l := by
 rw [List.map_map]
 conv => rhs; rw [← List.map_id l]
 apply List.map_congr_left
 intro b _
 simp
theorem xDx {a b : ByteArray} (h : a.data.toList = b.data.toList) : a = b := by
 cases a; cases b
 simp only [ByteArray.mk.injEq]
 exact Array.toList_inj.1 h
theorem xFj (s : ByteArray) (i n : Nat) : (s.extract i (i + n)).data.toList = (s.data.toList.drop i).take n := by
 rw [ByteArray.data_extract, Array.toList_extract, List.extract_eq_take_drop]
 congr 1
 omega
theorem xGl (s : ByteArray) (i n : Nat) : s.extract i (i + n) = strOfNums (((xAj s).drop i).take n) := by
 apply xDx
 rw [xFj, strOfNums_data]
 unfold xAj
 rw [← List.map_drop, ← List.map_take, xI1]
theorem xDj (s : ByteArray) (i n : Nat) : xAj (s.extract i (i + n)) = ((xAj s).drop i).take n := by
 unfold xAj
 rw [xFj, ← List.map_drop, ← List.map_take]
theorem xIy (s : ByteArray) (k : Nat) : xFw s k = xGb ((xAj s).drop k) := by
 unfold xFw
 by_cases h : k < s.size
 ·rw [xC7 s k h]
  simp [h, xGb]
 ·have : (xAj s).drop k = [] := List.drop_eq_nil_iff.2 (by rw [xAy]; omega)
  rw [this]
  simp [h, xGb]
theorem xFf (p : Int → Bool) (l : List Int) : l.take (l.takeWhile p).length = l.takeWhile p := (List.prefix_iff_eq_take.1 (List.takeWhile_prefix p)).symm
def xHs (i : Nat) (o : One) : Int × ByteArray × Int × Int × Int × Int × Int :=
 (o.kind, strOfNums o.s, o.n, (i : Int), ((i + o.len : Nat) : Int), o.e, if o.e = 0 then -1 else ((i + o.off : Nat) : Int))
theorem one_run (s : ByteArray) (i : Nat) (hi : i < s.size) (hs : s.size ≤ 140737488351232) :
  xEj.f s i = some (xHs i (oneL ((xAj s).drop i))) := by
 unfold xEj.f
 rw [if_pos ⟨by omega, by omega, hs⟩]
 simp only [Int.toNat_natCast]
 have hw := xDm xCe s (s.size - i) i rfl (by omega)
 have hf := xDm xAv s (s.size - i) i rfl (by omega)
 have hh := xDm pHex s (s.size - (i + 1)) (i + 1) rfl (by omega)
 rw [hw, hf, hh]
 simp only [xIy, xDj]
 simp only [xGl]
 have hd := xC7 s i hi
 have hd2 : ∀ n, (xAj s).drop (i + n) = ((xAj s).drop i).drop n := fun n => by rw [List.drop_drop]
 have hd3 : ∀ n, (xAj s).drop (i + 1 + n) = ((xAj s).drop (i + 1)).drop n := fun n => by rw [List.drop_drop]
 rw [hd2, hd3]
 simp only [xFf]
 rw [hd]
 generalize bt s i = c
 generalize (xAj s).drop (i + 1) = t
 have hnil : strOfNums [] = ⟨#[]⟩ := rfl
 by_cases c1 : xCd c = true
 ·have ho : oneL (c :: t) = ⟨0, (c :: t).takeWhile xCe, 0, ((c :: t).takeWhile xCe).length, if 16 < ((c :: t).takeWhile xCe).length then 102 else 0, 0⟩ := by
   simp only [oneL]; rw [if_pos c1]
  rw [ho, if_pos c1]
  unfold xHs
  generalize (c :: t).takeWhile xCe = W
  by_cases c2 : 16 < W.length
  ·rw [if_pos (by omega)]; simp [c2]
  ·rw [if_neg (by omega)]; simp [c2]
 ·rw [if_neg c1]
  by_cases c2 : xAv c = true
  ·have ho : oneL (c :: t) = ⟨1, [], xCz ((c :: t).takeWhile xAv), ((c :: t).takeWhile xAv).length,
     if 9 < ((c :: t).takeWhile xAv).length then 102 else if xGb ((c :: t).drop ((c :: t).takeWhile xAv).length) = true then 101 else 0,
     if 9 < ((c :: t).takeWhile xAv).length then 0 else ((c :: t).takeWhile xAv).length⟩ := by
    simp only [oneL]; rw [if_neg c1, if_pos c2]
   rw [ho, if_pos c2]
   unfold xHs
   generalize (c :: t).takeWhile xAv = W
   generalize xGb ((c :: t).drop W.length) = G
   by_cases c3 : 9 < W.length
   ·rw [if_pos (by omega)]; simp [c3, hnil]
   ·rw [if_neg (by omega)]
    cases G
    ·simp [c3, hnil]
    ·simp [c3, hnil]
  ·rw [if_neg c2]
   by_cases c3 : c = 36
   ·have ho : oneL (c :: t) = ⟨2, t.takeWhile pHex, 0, (t.takeWhile pHex).length + 1,
      if (t.takeWhile pHex).length = 0 then 101 else if 128 < (t.takeWhile pHex).length then 102 else if xGb (t.drop (t.takeWhile pHex).length) = true then 101 else 0,
      if (t.takeWhile pHex).length = 0 then 1 else if 128 < (t.takeWhile pHex).length then 0 else (t.takeWhile pHex).length + 1⟩ := by
     simp only [oneL]; rw [if_neg c1, if_neg c2, if_pos c3]
    rw [ho, if_pos c3]
    unfold xHs
    generalize t.takeWhile pHex = W
    generalize xGb (t.drop W.length) = G
    by_cases c4 : W.length = 0
    ·rw [if_pos (by omega)]
     have c5 : W = [] := List.length_eq_zero_iff.1 c4
     subst c5
     simp [hnil]
    ·rw [if_neg (by omega)]
     by_cases c5 : 128 < W.length
     ·rw [if_pos (by omega)]
      simp only [c4, c5, if_true, if_false]
      simp
      omega
     ·rw [if_neg (by omega)]
      cases G
      ·simp only [c4, c5, if_true, if_false, Bool.false_eq_true]
       simp
       omega
      ·simp only [c4, c5, if_true, if_false]
       simp
       omega
   ·rw [if_neg c3]
    by_cases c4 : c = 40 ∨ c = 41 ∨ c = 44 ∨ c = 61 ∨ c = 59
    ·have ho : oneL (c :: t) = ⟨3, [c], 0, 1, 0, 0⟩ := by
      simp only [oneL]; rw [if_neg c1, if_neg c2, if_neg c3, if_pos c4]
     rw [ho, if_pos c4]
     simp [xHs]
    ·have ho : oneL (c :: t) = ⟨3, [], 0, 0, 101, 0⟩ := by
      simp only [oneL]; rw [if_neg c1, if_neg c2, if_neg c3, if_neg c4]
     rw [ho, if_neg c4]
     simp [xHs, hnil]

theorem xMt : ∀ n : Nat, n < 256 → (decide (0 ≤ Lib.indexByte [9, 10, 13, 32] n.toUInt8) = xEk n) := by decide +kernel
theorem xJ8 (c : Int) (h0 : 0 ≤ c) (h1 : c ≤ 255) : (Lib.indexByte (⟨#[9, 10, 13, 32]⟩ : ByteArray).data.toList c.toNat.toUInt8 ≥ 0) ↔ xEk c = true := by
 have h := xMt c.toNat (by omega)
 rw [show ((c.toNat : Nat) : Int) = c by omega] at h
 rw [← h]
 simp
theorem xIm : ∀ (l : List UInt8), xCk true (l.map fun b => (b.toNat : Int)) = if Lib.indexByte l 10 = -1 then [] else xCk false ((l.map fun b => (b.toNat : Int)).drop (Lib.indexByte l 10).toNat)
 | [] => by simp [xCk, Lib.indexByte]
 | b :: l => by
  have ih := xIm l
  have hge := Lib.indexByte_ge l 10
  simp only [List.map_cons, xCk, Lib.indexByte]
  by_cases hb : b = 10
  ·subst hb
   simp [xCk, xEk]
  ·have hb1 : (b == 10) = false := by simpa using hb
   have hb2 : ¬ ((b.toNat : Int) = 10) := by
    intro h
    apply hb
    apply UInt8.toNat_inj.1
    have : b.toNat = 10 := by omega
    rw [this]
    rfl
   rw [if_neg hb2, ih, hb1]
   simp only [Bool.false_eq_true, if_false, beq_iff_eq]
   by_cases hi : Lib.indexByte l 10 = -1
   ·simp [hi]
   ·rw [if_neg hi, if_neg hi, if_neg (by omega)]
    rw [show (Lib.indexByte l 10 + 1).toNat = (Lib.indexByte l 10).toNat + 1 by omega]
    rfl
theorem toI_inj {a b : List UInt8} (h : a.map (fun b => (b.toNat : Int)) = b.map (fun b => (b.toNat : Int))) : a = b := by
 have := congrArg (List.map fun n : Int => UInt8.ofNat n.toNat) h
 rwa [xI1, xI1] at this
theorem xMu (a b : ByteArray) : (a.toList == b.toList) = decide (xAj a = xAj b) := by
 rw [ByteArray.toList_eq, ByteArray.toList_eq]
 by_cases h : a.data.toList = b.data.toList
 ·simp [h, xAj]
 ·have : ¬ xAj a = xAj b := fun h2 => h (toI_inj h2)
  rw [beq_eq_false_iff_ne.2 h, decide_eq_false this]
theorem xKy (s : ByteArray) (i : Nat) (hi : i < s.size) (hs : s.size ≤ 140737488351232) :
  xBr.f (s.extract i s.size) (⟨#[47, 47]⟩ : ByteArray) = some (decide (bt s i = 47 ∧ ((xAj s).drop (i + 1)).head? = some 47)) := by
 have hsz : (s.extract i s.size).size = s.size - i := by rw [ByteArray.size_extract]; omega
 have h2 : (⟨#[47, 47]⟩ : ByteArray).size = 2 := rfl
 have hex : xAj (s.extract i s.size) = (xAj s).drop i := by
  have := xDj s i (s.size - i)
  rw [show i + (s.size - i) = s.size by omega, List.take_of_length_le (by rw [List.length_drop, xAy]; omega)] at this
  exact this
 unfold xBr.f xBx.f
 rw [hsz, h2, xC7 s i hi] at *
 by_cases h3 : 2 ≤ s.size - i
 ·rw [if_pos (by omega), if_pos (by omega), if_pos (by omega)]
  simp only [Option.bind_some]
  congr 1
  have hx := xDj (s.extract i s.size) 0 2
  rw [hex, List.drop_zero] at hx
  simp only [Nat.zero_add] at hx
  rw [show ((((2 : Nat) : Int)) : Int).toNat = 2 by rfl, xMu, hx]
  have hl : xAj (⟨#[47, 47]⟩ : ByteArray) = [47, 47] := rfl
  rw [hl, xC7 s (i + 1) (by omega)]
  simp
 ·rw [if_neg (by omega)]
  simp only [Option.bind_some]
  congr 1
  have : (xAj s).drop (i + 1) = [] := List.drop_eq_nil_iff.2 (by rw [xAy]; omega)
  rw [this]
  simp
/-- Where skip comes out, as a place. -/
def skipAt (s : ByteArray) (i : Nat) : Nat := s.size - (xCk false ((xAj s).drop i)).length
theorem xDv (s : ByteArray) (i : Nat) (hi : i ≤ s.size) : i ≤ skipAt s i ∧ skipAt s i ≤ s.size := by
 have h := xDd ((xAj s).drop i) false
 rw [List.length_drop, xAy] at h
 unfold skipAt
 omega
theorem xEt (s : ByteArray) (i : Nat) (hi : i ≤ s.size) : (xAj s).drop (skipAt s i) = xCk false ((xAj s).drop i) := by
 have h := (xCx ((xAj s).drop i) false).trans (List.drop_suffix i (xAj s))
 have h2 := List.suffix_iff_eq_drop.1 h
 rw [xAy] at h2
 exact h2.symm
theorem xK0 (s : ByteArray) (hs : s.size ≤ 140737488351232) : ∀ (d i k : Nat), s.size - i ≤ d → i ≤ s.size → d < k → xBw.l0 k s i = some ((skipAt s i : Nat) : Int) := by
 intro d
 induction d with
 | zero =>
  intro i k hd hi hk
  obtain ⟨k, rfl⟩ : ∃ m, k = m + 1 := ⟨k - 1, by omega⟩
  simp only [xBw.l0]
  rw [if_neg (by omega)]
  have : (xAj s).drop i = [] := List.drop_eq_nil_iff.2 (by rw [xAy]; omega)
  unfold skipAt
  rw [this]
  simp only [xCk, List.length_nil]
  congr 1
  omega
 | succ d ih =>
  intro i k hd hi hk
  obtain ⟨k, rfl⟩ : ∃ m, k = m + 1 := ⟨k - 1, by omega⟩
  simp only [xBw.l0]
  by_cases hlt : i < s.size
  ·rw [if_pos (by omega), if_pos (by omega)]
   have hr := xKg s i
   have hdr := xC7 s i hlt
   simp only [strings_IndexByte.f, Option.bind_some]
   by_cases hb : xEk (bt s i) = true
   ·rw [if_pos ((xJ8 _ hr.1 hr.2).2 hb)]
    have hwrap : wrap64 ((i : Int) + 1) = ((i + 1 : Nat) : Int) := by unfold wrap64; omega
    rw [hwrap, ih (i + 1) k (by omega) (by omega) (by omega)]
    congr 2
    unfold skipAt
    rw [hdr]
    simp only [xCk, hb, if_true]
   ·rw [if_neg (fun h => hb ((xJ8 _ hr.1 hr.2).1 h)), if_pos (by omega)]
    simp only [Int.toNat_natCast]
    rw [xKy s i hlt hs]
    simp only [Option.bind_some, decide_eq_true_eq]
    by_cases hc : bt s i = 47 ∧ ((xAj s).drop (i + 1)).head? = some 47
    ·rw [if_pos hc]
     have hn := xIm ((s.extract i s.size).data.toList)
     have hmap : ((s.extract i s.size).data.toList.map fun b => (b.toNat : Int)) = (xAj s).drop i := by
      have := xDj s i (s.size - i)
      rw [show i + (s.size - i) = s.size by omega, List.take_of_length_le (by rw [List.length_drop, xAy]; omega)] at this
      exact this
     rw [hmap] at hn
     have hge := Lib.indexByte_ge (s.extract i s.size).data.toList 10
     have hsk : xCk false ((xAj s).drop i) = xCk true ((xAj s).drop i) := by
      rw [hdr]
      simp only [xCk]
      rw [if_neg hb, if_pos hc, if_neg (by rw [hc.1]; omega)]
     simp only [show (10 : Int).toNat.toUInt8 = 10 from rfl]
     by_cases hq : Lib.indexByte (s.extract i s.size).data.toList 10 < 0
     ·rw [if_pos hq]
      rw [if_pos (by omega)] at hn
      unfold skipAt
      rw [hsk, hn]
      simp
     ·rw [if_neg hq]
      rw [if_neg (by omega)] at hn
      obtain ⟨n, hn2⟩ := Int.eq_ofNat_of_zero_le (show 0 ≤ Lib.indexByte (s.extract i s.size).data.toList 10 by omega)
      rw [hn2] at hn ⊢
      have hat := (Lib.indexByte_some hn2).1
      have hat2 : ((xAj s).drop i)[n]? = some 10 := by
       rw [← hmap, List.getElem?_map, hat]
       rfl
      have hpos : 1 ≤ n := by
       rcases Nat.eq_zero_or_pos n with h0 | h0
       ·subst h0
        rw [hdr] at hat2
        simp at hat2
        omega
       ·exact h0
      have hle : i + n ≤ s.size := by
       have := (List.getElem?_eq_some_iff.1 hat2).1
       rw [List.length_drop, xAy] at this
       omega
      have hwrap : wrap64 ((i : Int) + (n : Int)) = ((i + n : Nat) : Int) := by unfold wrap64; omega
      rw [hwrap, ih (i + n) k (by omega) hle (by omega)]
      congr 2
      unfold skipAt
      rw [hsk, hn, Int.toNat_natCast, List.drop_drop]
    ·rw [if_neg hc]
     unfold skipAt
     rw [hdr]
     simp only [xCk]
     rw [if_neg hb, if_neg hc]
     simp only [List.length_cons, List.length_drop, xAy]
     congr 1
     omega
  ·rw [if_neg (by omega)]
   have : (xAj s).drop i = [] := List.drop_eq_nil_iff.2 (by rw [xAy]; omega)
   unfold skipAt
   rw [this]
   simp only [xCk, List.length_nil]
   congr 1
   omega

def xEi (acc : List S60) : Except (Int × Int) (List S60) → List S60 × Int × Int
 | .ok l => (acc ++ l, 0, -1)
 | .error e => ([], e.1, e.2)
theorem xLo (s : ByteArray) (hs : s.size ≤ 2000) : ∀ (d i k : Nat) (acc : List S60), s.size - i ≤ d → i ≤ s.size → s.size + d < k → acc.length ≤ 500 →
  xBi.l0 k s acc i = some (xEi acc (xDk (d + 1) acc.length ((xAj s).drop i) s.size)) := by
 intro d
 induction d with
 | zero =>
  intro i k acc hd hi hk ha
  obtain ⟨k, rfl⟩ : ∃ m, k = m + 1 := ⟨k - 1, by omega⟩
  simp only [xBi.l0]
  rw [if_neg (by omega)]
  have : (xAj s).drop i = [] := List.drop_eq_nil_iff.2 (by rw [xAy]; omega)
  rw [this]
  simp [xDk, xEi]
 | succ d ih =>
  intro i k acc hd hi hk ha
  obtain ⟨k, rfl⟩ : ∃ m, k = m + 1 := ⟨k - 1, by omega⟩
  simp only [xBi.l0]
  by_cases hlt : i < s.size
  ·rw [if_pos (by omega)]
   have hne : (xAj s).drop i ≠ [] := by rw [xC7 s i hlt]; simp
   have hlen : ((xAj s).drop i).length = s.size - i := by rw [List.length_drop, xAy]
   have hpos : s.size - ((xAj s).drop i).length = i := by omega
   unfold xDk
   rw [if_neg hne]
   by_cases h500 : acc.length = 500
   ·rw [if_pos (by omega), if_pos h500, hpos]
    rfl
   ·rw [if_neg (by omega), if_neg h500]
    have hone : xEj.f s i = some ((oneL ((xAj s).drop i)).kind, strOfNums (oneL ((xAj s).drop i)).s, (oneL ((xAj s).drop i)).n, (i : Int), ((i + (oneL ((xAj s).drop i)).len : Nat) : Int), (oneL ((xAj s).drop i)).e,
      if (oneL ((xAj s).drop i)).e = 0 then -1 else ((i + (oneL ((xAj s).drop i)).off : Nat) : Int)) := one_run s i hlt (by omega)
    rw [hone]
    simp only [Option.bind_some]
    have hol := xKa _ hne
    by_cases he : (oneL ((xAj s).drop i)).e = 0
    ·rw [if_pos he, if_pos he, if_pos (by omega)]
     have hl1 := hol.2 he
     have hl2 := hol.1
     have hle : i + (oneL ((xAj s).drop i)).len ≤ s.size := by omega
     have hsk := xK0 s (by omega) s.size (i + (oneL ((xAj s).drop i)).len) k (by omega) hle (by omega)
     have hsb := xDv s (i + (oneL ((xAj s).drop i)).len) hle
     unfold xBw.f
     rw [hsk]
     simp only [Option.bind_some]
     rw [ih (skipAt s (i + (oneL ((xAj s).drop i)).len)) k _ (by omega) hsb.2 (by omega) (by simp; omega)]
     rw [xEt s _ hle, ← List.drop_drop, List.length_append, List.length_singleton]
     congr 1
     have htok : (⟨(oneL ((xAj s).drop i)).kind, strOfNums (oneL ((xAj s).drop i)).s, (oneL ((xAj s).drop i)).n, (i : Int)⟩ : S60) = xKl (oneL ((xAj s).drop i)) (s.size - ((xAj s).drop i).length) := by
      rw [hpos]
      rfl
     rw [htok]
     cases xDk (d + 1) (acc.length + 1) (xCk false (((xAj s).drop i).drop (oneL ((xAj s).drop i)).len)) s.size with
     | ok l => simp [xEi, Except.map]
     | error e => simp [xEi, Except.map]
    ·rw [if_neg he, if_neg he, if_neg he, hpos]
     rfl
  ·rw [if_neg (by omega)]
   have : (xAj s).drop i = [] := List.drop_eq_nil_iff.2 (by rw [xAy]; omega)
   rw [this]
   unfold xDk
   simp [xEi]
theorem scan_run (s : ByteArray) : ∀ k, 5000 ≤ k → xBi.f k s = some (told (scan (xAj s))) := by
 intro k hk
 unfold xBi.f scan
 rw [xAy]
 by_cases h : 2000 < s.size
 ·rw [if_pos (by omega), if_pos h]
  rfl
 ·rw [if_neg (by omega), if_neg h]
  have hsk := xK0 s (by omega) s.size 0 k (by omega) (by omega) (by omega)
  have hsb := xDv s 0 (by omega)
  unfold xBw.f
  simp only [Int.natCast_zero] at hsk
  rw [hsk]
  simp only [Option.bind_some]
  rw [xLo s (by omega) s.size (skipAt s 0) k [] (by omega) hsb.2 (by omega) (by simp), xEt s 0 (by omega), List.drop_zero]
  congr 1

/-- A byte that nothing goes on with. -/
def stops (x : Int) : Prop := xCe x = false ∧ xAv x = false ∧ pHex x = false ∧ (xCd x || (x == 95)) = false
theorem xHj (f cnt : Nat) (r : List Int) (total : Nat) : xDk (f + 1) cnt r total =
  if r = [] then .ok []
  else if cnt = 500 then .error (103, ((total - r.length : Nat) : Int))
  else if (oneL r).e = 0 then (xDk f (cnt + 1) (xCk false (r.drop (oneL r).len)) total).map (xKl (oneL r) (total - r.length) :: ·)
  else .error ((oneL r).e, ((total - r.length + (oneL r).off : Nat) : Int)) := rfl
theorem oneL_off (l : List Int) (h : l ≠ []) : (oneL l).off ≤ l.length := by
 cases l with
 | nil => exact absurd rfl h
 | cons c t =>
  have h2 := xDb xAv (c :: t)
  have h3 := xDb pHex t
  simp only [oneL]
  by_cases c1 : xCd c = true
  ·rw [if_pos c1]
   simp
  ·rw [if_neg c1]
   by_cases c2 : xAv c = true
   ·rw [if_pos c2]
    simp only
    split <;> omega
   ·rw [if_neg c2]
    by_cases c3 : c = 36
    ·rw [if_pos c3]
     simp only [List.length_cons]
     split
     ·omega
     ·split <;> omega
    ·rw [if_neg c3]
     by_cases c4 : c = 40 ∨ c = 41 ∨ c = 44 ∨ c = 61 ∨ c = 59
     ·rw [if_pos c4]
      simp
     ·rw [if_neg c4]
      simp
theorem xK2 : ∀ (f cnt : Nat) (r : List Int) (total : Nat) (l : List S60), xDk f cnt r total = .ok l → r.length ≤ total → ∀ t ∈ l, 0 ≤ t.f3 ∧ t.f3 ≤ total
 | 0, _, _, _, l, h, _ => by
  simp only [xDk, Except.ok.injEq] at h
  subst h
  intro t ht
  cases ht
 | f + 1, cnt, r, total, l, h, hr => by
  unfold xDk at h
  by_cases h1 : r = []
  ·rw [if_pos h1] at h
   simp only [Except.ok.injEq] at h
   subst h
   intro t ht
   cases ht
  ·rw [if_neg h1] at h
   by_cases h5 : cnt = 500
   ·rw [if_pos h5] at h; cases h
   ·rw [if_neg h5] at h
    by_cases he : (oneL r).e = 0
    ·rw [if_pos he] at h
     cases hx : xDk f (cnt + 1) (xCk false (r.drop (oneL r).len)) total with
     | error e => rw [hx] at h; cases h
     | ok m =>
      rw [hx] at h
      simp only [Except.map, Except.ok.injEq] at h
      subst h
      have hs := xDd (r.drop (oneL r).len) false
      rw [List.length_drop] at hs
      intro t ht
      rcases List.mem_cons.1 ht with rfl | ht
      ·simp only [xKl]; omega
      ·exact xK2 f (cnt + 1) _ total m hx (by omega) t ht
    ·rw [if_neg he] at h; cases h
theorem xIp : ∀ (f cnt : Nat) (r : List Int) (total : Nat) (e : Int × Int), xDk f cnt r total = .error e → r.length ≤ total → e.1 ≠ 0 ∧ 0 ≤ e.2 ∧ e.2 ≤ total
 | 0, _, _, _, l, h, _ => by simp [xDk] at h
 | f + 1, cnt, r, total, l, h, hr => by
  unfold xDk at h
  by_cases h1 : r = []
  ·rw [if_pos h1] at h; cases h
  ·rw [if_neg h1] at h
   by_cases h5 : cnt = 500
   ·rw [if_pos h5] at h
    simp only [Except.error.injEq] at h
    subst h
    simp only
    omega
   ·rw [if_neg h5] at h
    by_cases he : (oneL r).e = 0
    ·rw [if_pos he] at h
     cases hx : xDk f (cnt + 1) (xCk false (r.drop (oneL r).len)) total with
     | error e =>
      rw [hx] at h
      simp only [Except.map, Except.error.injEq] at h
      subst h
      have hs := xDd (r.drop (oneL r).len) false
      rw [List.length_drop] at hs
      exact xIp f (cnt + 1) _ total _ hx (by omega)
     | ok m => rw [hx] at h; cases h
    ·rw [if_neg he] at h
     simp only [Except.error.injEq] at h
     subst h
     refine ⟨he, by simp only; omega, ?_⟩
     simp only
     have := oneL_off r h1
     omega

theorem xDc (p : Int → Bool) : ∀ (l : List Int), ∀ x ∈ l.takeWhile p, p x = true
 | [], x, h => by simp at h
 | y :: l, x, h => by
  by_cases hx : p y = true
  ·rw [List.takeWhile_cons_of_pos hx] at h
   rcases List.mem_cons.1 h with rfl | h
   ·exact hx
   ·exact xDc p l x h
  ·rw [List.takeWhile_cons_of_neg hx] at h
   cases h
theorem xJ6 {c : Int} (h : xAv c = true) : 48 ≤ c ∧ c ≤ 57 := by
 unfold xAv at h
 simpa using h
/-- What a token without a fault is. -/
theorem oneL_ok (r : List Int) (h : r ≠ []) (he : (oneL r).e = 0) :
  ((oneL r).kind = 1 ∧ (oneL r).s = [] ∧ (oneL r).len = (r.takeWhile xAv).length ∧ 1 ≤ (oneL r).len ∧ (oneL r).len ≤ 9 ∧ (oneL r).n = xCz (r.takeWhile xAv)) ∨
  ((oneL r).kind = 2 ∧ r.head? = some 36 ∧ (oneL r).len = ((r.drop 1).takeWhile pHex).length + 1 ∧ (oneL r).s = (r.drop 1).takeWhile pHex ∧ 1 ≤ ((r.drop 1).takeWhile pHex).length ∧ ((r.drop 1).takeWhile pHex).length ≤ 128 ∧ (oneL r).n = 0) ∨
  ((oneL r).kind = 0 ∧ (∃ c, r.head? = some c ∧ xCd c = true) ∧ (oneL r).len = (r.takeWhile xCe).length ∧ (oneL r).s = r.takeWhile xCe ∧ 1 ≤ (r.takeWhile xCe).length ∧ (r.takeWhile xCe).length ≤ 16 ∧ (oneL r).n = 0) ∨
  ((oneL r).kind = 3 ∧ (∃ c t, r = c :: t ∧ (c = 40 ∨ c = 41 ∨ c = 44 ∨ c = 61 ∨ c = 59) ∧ (oneL r).s = [c]) ∧ (oneL r).len = 1 ∧ (oneL r).n = 0) := by
 cases r with
 | nil => exact absurd rfl h
 | cons c t =>
  simp only [oneL] at he ⊢
  by_cases h1 : xCd c = true
  ·rw [if_pos h1] at he ⊢
   have hw : xCe c = true := by unfold xCe; rw [h1]; rfl
   have : 1 ≤ ((c :: t).takeWhile xCe).length := by rw [List.takeWhile_cons_of_pos hw, List.length_cons]; omega
   refine Or.inr (Or.inr (Or.inl ⟨rfl, ⟨c, rfl, h1⟩, rfl, rfl, this, ?_, rfl⟩))
   simp only at he
   split at he
   ·exact absurd he (by decide)
   ·omega
  ·rw [if_neg h1] at he ⊢
   by_cases h2 : xAv c = true
   ·rw [if_pos h2] at he ⊢
    have : 1 ≤ ((c :: t).takeWhile xAv).length := by rw [List.takeWhile_cons_of_pos h2, List.length_cons]; omega
    refine Or.inl ⟨rfl, rfl, rfl, this, ?_, rfl⟩
    simp only at he ⊢
    split at he
    ·exact absurd he (by decide)
    ·omega
   ·rw [if_neg h2] at he ⊢
    by_cases h3 : c = 36
    ·rw [if_pos h3] at he ⊢
     subst h3
     simp only at he
     refine Or.inr (Or.inl ⟨rfl, rfl, rfl, rfl, ?_, ?_, rfl⟩)
     ·simp only [List.drop_succ_cons, List.drop_zero]
      split at he
      ·exact absurd he (by decide)
      ·omega
     ·simp only [List.drop_succ_cons, List.drop_zero]
      split at he
      ·exact absurd he (by decide)
      ·split at he
       ·exact absurd he (by decide)
       ·omega
    ·rw [if_neg h3] at he ⊢
     by_cases h4 : c = 40 ∨ c = 41 ∨ c = 44 ∨ c = 61 ∨ c = 59
     ·rw [if_pos h4]
      exact Or.inr (Or.inr (Or.inr ⟨rfl, ⟨c, t, rfl, h4, rfl⟩, rfl, rfl⟩))
     ·rw [if_neg h4] at he
      exact absurd he (by decide)
theorem xKb (x : Int) (h : x < 10000000000) : mn x 1099511627776 = x := by unfold mn; omega
theorem xH5 (D : List Int) (hD : ∀ x ∈ D, xAv x = true) (h9 : D.length ≤ 9) : ∀ (j q : Nat), j ≤ D.length → q = 10 ^ j → 0 ≤ xCz (D.take j) ∧ xCz (D.take j) < (q : Int) ∧ q ≤ 1000000000
 | 0, q, _, hq => by subst hq; simp [xCz]
 | j + 1, q, h, hq => by
  have ih := xH5 D hD h9 j (10 ^ j) (by omega) rfl
  have hx : D.take (j + 1) = D.take j ++ [D[j]] := by
   rw [List.take_add_one, List.getElem?_eq_getElem (by omega)]
   rfl
  have hd := xJ6 (hD D[j] (List.getElem_mem (by omega)))
  have hp : 10 ^ (j + 1) ≤ 1000000000 := by
   have := Nat.pow_le_pow_right (show 10 > 0 by decide) (show j + 1 ≤ 9 by omega)
   exact Nat.le_trans this (by decide)
  rw [← hq] at hp
  rw [Nat.pow_succ] at hq
  generalize 10 ^ j = b at *
  have hm := xKb (xCz (D.take j)) (by omega)
  rw [hx, xH6, hm]
  omega
theorem xJ0 (D : List Int) (hD : ∀ x ∈ D, xAv x = true) (h9 : D.length ≤ 9) (j : Nat) (hj : j ≤ D.length) : 0 ≤ xCz (D.take j) ∧ xCz (D.take j) < 1000000000 := by
 have := xH5 D hD h9 j (10 ^ j) hj rfl
 generalize 10 ^ j = b at *
 omega

theorem xFg : ∀ (f cnt : Nat) (r : List Int) (total : Nat) (l : List S60), xDk f cnt r total = .ok l → cnt ≤ 500 → cnt + l.length ≤ 500
 | 0, _, _, _, l, h, hc => by
  simp only [xDk, Except.ok.injEq] at h
  subst h
  simpa using hc
 | f + 1, cnt, r, total, l, h, hc => by
  rw [xHj] at h
  by_cases h1 : r = []
  ·rw [if_pos h1] at h
   simp only [Except.ok.injEq] at h
   subst h
   simpa using hc
  ·rw [if_neg h1] at h
   by_cases h5 : cnt = 500
   ·rw [if_pos h5] at h; cases h
   ·rw [if_neg h5] at h
    by_cases he : (oneL r).e = 0
    ·rw [if_pos he] at h
     cases hx : xDk f (cnt + 1) (xCk false (r.drop (oneL r).len)) total with
     | error e => rw [hx] at h; cases h
     | ok m =>
      rw [hx] at h
      simp only [Except.map, Except.ok.injEq] at h
      subst h
      have := xFg f (cnt + 1) _ total m hx (by omega)
      simp only [List.length_cons]
      omega
    ·rw [if_neg he] at h; cases h
theorem xLp {l : List Int} {m : List S60} (h : scan l = .ok m) : l.length ≤ 2000 ∧ m.length ≤ 500 ∧ ∀ t ∈ m, 0 ≤ t.f3 ∧ t.f3 ≤ l.length := by
 unfold scan at h
 by_cases h1 : 2000 < l.length
 ·rw [if_pos h1] at h; cases h
 ·rw [if_neg h1] at h
  have hs := xDd l false
  exact ⟨by omega, by have := xFg _ _ _ _ _ h (by omega); omega, xK2 _ _ _ _ _ h hs⟩
def digF : Nat → Nat → List Int
 | 0, _ => []
 | d + 1, n => if n = 0 then [] else digF d (n / 10) ++ [((48 + n % 10 : Nat) : Int)]
def digL (n : Nat) : List Int := if n = 0 then [48] else digF 9 n
def GoodK (kd : Int) (L : List Int) (n : Int) : Prop :=
 (kd = 1 ∧ L = [] ∧ 0 ≤ n ∧ n < 1000000000) ∨
 (kd = 2 ∧ (∀ x ∈ L, pHex x = true) ∧ 1 ≤ L.length ∧ L.length ≤ 128 ∧ n = 0) ∨
 (kd = 0 ∧ (∃ c t, L = c :: t ∧ xCd c = true) ∧ (∀ x ∈ L, xCe x = true) ∧ L.length ≤ 16 ∧ n = 0) ∨
 (kd = 3 ∧ (∃ c, L = [c] ∧ (c = 40 ∨ c = 41 ∨ c = 44 ∨ c = 61 ∨ c = 59)) ∧ n = 0)
def xDn (t : S60) : Prop := GoodK t.f0 (xAj t.f1) t.f2
def txt (kd : Int) (L : List Int) (n : Int) : List Int := if kd = 1 then digL n.toNat else if kd = 2 then 36 :: L else L
theorem xIc (s : ByteArray) : ∀ x ∈ xAj s, 0 ≤ x ∧ x ≤ 255 := by
 intro x hx
 unfold xAj at hx
 obtain ⟨b, _, rfl⟩ := List.mem_map.1 hx
 have := b.toNat_lt
 omega
theorem xGe (l : List Int) (h : ∀ x ∈ l, 0 ≤ x ∧ x ≤ 255) : xAj (strOfNums l) = l := by
 unfold xAj strOfNums
 rw [List.toList_toArray, List.map_map]
 conv => rhs; rw [← List.map_id l]
 apply List.map_congr_left
 intro x hx
 have := h x hx
 simp only [Function.comp, id]
 rw [UInt8.toNat_ofNat_of_lt' (by simp [UInt8.size]; omega)]
 omega
theorem xHk : ∀ (f cnt : Nat) (r : List Int) (total : Nat) (l : List S60), xDk f cnt r total = .ok l → (∀ x ∈ r, 0 ≤ x ∧ x ≤ 255) → ∀ t ∈ l, xDn t
 | 0, _, _, _, l, h, _ => by
  simp only [xDk, Except.ok.injEq] at h
  subst h
  intro t ht
  cases ht
 | f + 1, cnt, r, total, l, h, hr => by
  rw [xHj] at h
  by_cases h1 : r = []
  ·rw [if_pos h1] at h
   simp only [Except.ok.injEq] at h
   subst h
   intro t ht
   cases ht
  ·rw [if_neg h1] at h
   by_cases h5 : cnt = 500
   ·rw [if_pos h5] at h; cases h
   ·rw [if_neg h5] at h
    by_cases he : (oneL r).e = 0
    ·rw [if_pos he] at h
     cases hx : xDk f (cnt + 1) (xCk false (r.drop (oneL r).len)) total with
     | error e => rw [hx] at h; cases h
     | ok m =>
      rw [hx] at h
      simp only [Except.map, Except.ok.injEq] at h
      subst h
      intro t ht
      rcases List.mem_cons.1 ht with rfl | ht
      ·have hok := oneL_ok r h1 he
       have hmem : ∀ (p : Int → Bool) (q : Nat), ∀ x ∈ (r.drop q).takeWhile p, 0 ≤ x ∧ x ≤ 255 := fun p q x hx => hr x ((List.drop_sublist q r).subset ((List.takeWhile_sublist p).subset hx))
       have hrng : ∀ x ∈ (oneL r).s, 0 ≤ x ∧ x ≤ 255 := by
        rcases hok with ⟨_, hs, _⟩ | ⟨_, _, _, hs, _⟩ | ⟨_, _, _, hs, _⟩ | ⟨_, ⟨c, t, hr2, _, hs⟩, _⟩
        ·rw [hs]; intro x hx; cases hx
        ·rw [hs]; exact hmem pHex 1
        ·rw [hs]; exact hmem xCe 0
        ·rw [hs]
         intro x hx
         obtain rfl := List.mem_singleton.1 hx
         exact hr x (by rw [hr2]; exact List.mem_cons_self)
       unfold xDn
       simp only [xKl]
       rw [xGe _ hrng]
       rcases hok with ⟨hk, hs, hl, g1, g9, hn⟩ | ⟨hk, _, _, hs, g1, g2, hn⟩ | ⟨hk, ⟨c, hc, hlet⟩, hl, hs, g1, g2, hn⟩ | ⟨hk, ⟨c, t, hr2, hc, hs⟩, _, hn⟩
       ·have := xJ0 (r.takeWhile xAv) (xDc _ _) (by omega) (r.takeWhile xAv).length (Nat.le_refl _)
        rw [List.take_length, ← hn] at this
        exact Or.inl ⟨hk, hs, this⟩
       ·exact Or.inr (Or.inl ⟨hk, by rw [hs]; exact xDc _ _, by rw [hs]; exact g1, by rw [hs]; exact g2, hn⟩)
       ·refine Or.inr (Or.inr (Or.inl ⟨hk, ?_, by rw [hs]; exact xDc _ _, by rw [hs]; exact g2, hn⟩))
        cases r with
        | nil => cases hc
        | cons d t =>
         obtain rfl : d = c := Option.some.inj hc
         have hw : xCe d = true := by unfold xCe; rw [hlet]; rfl
         exact ⟨d, _, by rw [hs, List.takeWhile_cons_of_pos hw], hlet⟩
       ·exact Or.inr (Or.inr (Or.inr ⟨hk, ⟨c, hs, hc⟩, hn⟩))
      ·exact xHk f (cnt + 1) _ total m hx (fun x hx => hr x ((List.drop_sublist _ r).subset ((xCx _ _).subset hx))) t ht
    ·rw [if_neg he] at h; cases h
/-! ### the tokens, written, are read again -/
end Go.Proofs.YtknbfhhmjbnemaaDoor.Pure
end
section
namespace Go.Proofs.YtknbfhhmjbnemaaDoor.P
open Go.RowKit Go.Proofs.YtknbfhhmjbnemaaDoorW.PrintWords Go.Proofs.YtknbfhhmjbnemaaDoorW.PrintLast Go.Proofs.YtknbfhhmjbnemaaDoorW.PrintMore
attribute [local go_sem] xBh xBp

/-! ### xAr: function 75 -/
def xAr.l0 : Nat → ByteArray → List ByteArray → Int → Option (Bool)
 | 0, _, _, _ => none
 | k + 1, x0, x3, x4 => if x4 < (x3.length : Int) then (if 0 ≤ x4 then (if (rdOf ByteArray.empty x3 x4).toList = x0.toList then (some true) else (xAr.l0 k x0 x3 (wrap64 (x4 + 1)))) else (none)) else (some false)
def xAr.f (k : Nat) (a0 : ByteArray) : Option (Bool) := xAr.l0 k a0 (([(⟨#[100, 101, 118, 105, 99, 101]⟩ : ByteArray), (⟨#[106, 111, 117, 114, 110, 97, 108]⟩ : ByteArray), (⟨#[107, 101, 121]⟩ : ByteArray), (⟨#[114, 111, 111, 116]⟩ : ByteArray), (⟨#[118, 111, 108, 117, 109, 101]⟩ : ByteArray), (⟨#[101, 120, 112, 111, 114, 116]⟩ : ByteArray), (⟨#[114, 101, 97, 100, 111, 110, 108, 121]⟩ : ByteArray), (⟨#[108, 105, 110, 101, 97, 114]⟩ : ByteArray), (⟨#[99, 111, 110, 99, 97, 116]⟩ : ByteArray), (⟨#[109, 105, 114, 114, 111, 114]⟩ : ByteArray), (⟨#[115, 110, 97, 112, 115, 104, 111, 116]⟩ : ByteArray), (⟨#[99, 114, 121, 112, 116]⟩ : ByteArray), (⟨#[105, 110, 116, 101, 103, 114, 105, 116, 121]⟩ : ByteArray), (⟨#[118, 101, 114, 105, 116, 121]⟩ : ByteArray)] : List ByteArray)) 0
set_option maxHeartbeats 8000000 in
set_option maxRecDepth 100000 in
theorem xAr.calls (k : Nat) (a0 : ByteArray) (r : Bool) (w : World) (h : xAr.f k a0 = some r) :
  Calls Tryd.prog 75 #[.string a0] w fun e w' => e = .returned (.bool r) ∧ Below w.heap.size w w' := by
 have HB := Aside0.mk (Below.refl w.heap.size w)
 have H : (xAr.l0 k a0 (([(⟨#[100, 101, 118, 105, 99, 101]⟩ : ByteArray), (⟨#[106, 111, 117, 114, 110, 97, 108]⟩ : ByteArray), (⟨#[107, 101, 121]⟩ : ByteArray), (⟨#[114, 111, 111, 116]⟩ : ByteArray), (⟨#[118, 111, 108, 117, 109, 101]⟩ : ByteArray), (⟨#[101, 120, 112, 111, 114, 116]⟩ : ByteArray), (⟨#[114, 101, 97, 100, 111, 110, 108, 121]⟩ : ByteArray), (⟨#[108, 105, 110, 101, 97, 114]⟩ : ByteArray), (⟨#[99, 111, 110, 99, 97, 116]⟩ : ByteArray), (⟨#[109, 105, 114, 114, 111, 114]⟩ : ByteArray), (⟨#[115, 110, 97, 112, 115, 104, 111, 116]⟩ : ByteArray), (⟨#[99, 114, 121, 112, 116]⟩ : ByteArray), (⟨#[105, 110, 116, 101, 103, 114, 105, 116, 121]⟩ : ByteArray), (⟨#[118, 101, 114, 105, 116, 121]⟩ : ByteArray)] : List ByteArray)) 0) = some r := h
 clear h
 obtain ⟨y236, hy236⟩ : ∃ y_ : List ByteArray, y_ = (([(⟨#[100, 101, 118, 105, 99, 101]⟩ : ByteArray), (⟨#[106, 111, 117, 114, 110, 97, 108]⟩ : ByteArray), (⟨#[107, 101, 121]⟩ : ByteArray), (⟨#[114, 111, 111, 116]⟩ : ByteArray), (⟨#[118, 111, 108, 117, 109, 101]⟩ : ByteArray), (⟨#[101, 120, 112, 111, 114, 116]⟩ : ByteArray), (⟨#[114, 101, 97, 100, 111, 110, 108, 121]⟩ : ByteArray), (⟨#[108, 105, 110, 101, 97, 114]⟩ : ByteArray), (⟨#[99, 111, 110, 99, 97, 116]⟩ : ByteArray), (⟨#[109, 105, 114, 114, 111, 114]⟩ : ByteArray), (⟨#[115, 110, 97, 112, 115, 104, 111, 116]⟩ : ByteArray), (⟨#[99, 114, 121, 112, 116]⟩ : ByteArray), (⟨#[105, 110, 116, 101, 103, 114, 105, 116, 121]⟩ : ByteArray), (⟨#[118, 101, 114, 105, 116, 121]⟩ : ByteArray)] : List ByteArray)) := ⟨_, rfl⟩
 replace H : (xAr.l0 k a0 y236 0) = some r := by first | (rw [hy236]; with_reducible exact H) | (have H2_ := (Option.bind_some _ _).symm.trans H; rw [hy236]; with_reducible exact H2_) | (have H2_ := (Option.bind_some _ _).symm.trans H; with_reducible exact H2_) | with_reducible exact H | (rw [hy236]; exact H) | exact H
 have Ny236 := Aside0.mk hy236
 clear hy236
 have H' := Aside0.mk H
 clear H
 go_enter Tryd.func75, Tryd.ntmps75
 go_wp2_with (first | ((with_reducible refine xB0 (N := 5) rfl ?_); refine Kd.R_lit Kd.string _ 9 ?hg (N := 5) ?hd (xs := ([(⟨#[100, 101, 118, 105, 99, 101]⟩ : ByteArray), (⟨#[106, 111, 117, 114, 110, 97, 108]⟩ : ByteArray), (⟨#[107, 101, 121]⟩ : ByteArray), (⟨#[114, 111, 111, 116]⟩ : ByteArray), (⟨#[118, 111, 108, 117, 109, 101]⟩ : ByteArray), (⟨#[101, 120, 112, 111, 114, 116]⟩ : ByteArray), (⟨#[114, 101, 97, 100, 111, 110, 108, 121]⟩ : ByteArray), (⟨#[108, 105, 110, 101, 97, 114]⟩ : ByteArray), (⟨#[99, 111, 110, 99, 97, 116]⟩ : ByteArray), (⟨#[109, 105, 114, 114, 111, 114]⟩ : ByteArray), (⟨#[115, 110, 97, 112, 115, 104, 111, 116]⟩ : ByteArray), (⟨#[99, 114, 121, 112, 116]⟩ : ByteArray), (⟨#[105, 110, 116, 101, 103, 114, 105, 116, 121]⟩ : ByteArray), (⟨#[118, 101, 114, 105, 116, 121]⟩ : ByteArray)] : List ByteArray)) (inner := [.string (⟨#[100, 101, 118, 105, 99, 101]⟩ : ByteArray), .string (⟨#[106, 111, 117, 114, 110, 97, 108]⟩ : ByteArray), .string (⟨#[107, 101, 121]⟩ : ByteArray), .string (⟨#[114, 111, 111, 116]⟩ : ByteArray), .string (⟨#[118, 111, 108, 117, 109, 101]⟩ : ByteArray), .string (⟨#[101, 120, 112, 111, 114, 116]⟩ : ByteArray), .string (⟨#[114, 101, 97, 100, 111, 110, 108, 121]⟩ : ByteArray), .string (⟨#[108, 105, 110, 101, 97, 114]⟩ : ByteArray), .string (⟨#[99, 111, 110, 99, 97, 116]⟩ : ByteArray), .string (⟨#[109, 105, 114, 114, 111, 114]⟩ : ByteArray), .string (⟨#[115, 110, 97, 112, 115, 104, 111, 116]⟩ : ByteArray), .string (⟨#[99, 114, 121, 112, 116]⟩ : ByteArray), .string (⟨#[105, 110, 116, 101, 103, 114, 105, 116, 121]⟩ : ByteArray), .string (⟨#[118, 101, 114, 105, 116, 121]⟩ : ByteArray)]) (ok := fun _ => True) (okp := fun _ => True) ?hr ?hp (fun _ hk => hk) trivial (Below.refl _ _) (Nat.le_refl _) (by simp) ?_; (case hd => rfl); (case hg => rfl); (case hr => first | (go_simp; done) | (go_simp; rfl)); (case hp => exact (Reps.one (show Kd.M Kd.string _ _ _ (⟨#[100, 101, 118, 105, 99, 101]⟩ : ByteArray) [.string (⟨#[100, 101, 118, 105, 99, 101]⟩ : ByteArray)] from rfl) (Reps.one (show Kd.M Kd.string _ _ _ (⟨#[106, 111, 117, 114, 110, 97, 108]⟩ : ByteArray) [.string (⟨#[106, 111, 117, 114, 110, 97, 108]⟩ : ByteArray)] from rfl) (Reps.one (show Kd.M Kd.string _ _ _ (⟨#[107, 101, 121]⟩ : ByteArray) [.string (⟨#[107, 101, 121]⟩ : ByteArray)] from rfl) (Reps.one (show Kd.M Kd.string _ _ _ (⟨#[114, 111, 111, 116]⟩ : ByteArray) [.string (⟨#[114, 111, 111, 116]⟩ : ByteArray)] from rfl) (Reps.one (show Kd.M Kd.string _ _ _ (⟨#[118, 111, 108, 117, 109, 101]⟩ : ByteArray) [.string (⟨#[118, 111, 108, 117, 109, 101]⟩ : ByteArray)] from rfl) (Reps.one (show Kd.M Kd.string _ _ _ (⟨#[101, 120, 112, 111, 114, 116]⟩ : ByteArray) [.string (⟨#[101, 120, 112, 111, 114, 116]⟩ : ByteArray)] from rfl) (Reps.one (show Kd.M Kd.string _ _ _ (⟨#[114, 101, 97, 100, 111, 110, 108, 121]⟩ : ByteArray) [.string (⟨#[114, 101, 97, 100, 111, 110, 108, 121]⟩ : ByteArray)] from rfl) (Reps.one (show Kd.M Kd.string _ _ _ (⟨#[108, 105, 110, 101, 97, 114]⟩ : ByteArray) [.string (⟨#[108, 105, 110, 101, 97, 114]⟩ : ByteArray)] from rfl) (Reps.one (show Kd.M Kd.string _ _ _ (⟨#[99, 111, 110, 99, 97, 116]⟩ : ByteArray) [.string (⟨#[99, 111, 110, 99, 97, 116]⟩ : ByteArray)] from rfl) (Reps.one (show Kd.M Kd.string _ _ _ (⟨#[109, 105, 114, 114, 111, 114]⟩ : ByteArray) [.string (⟨#[109, 105, 114, 114, 111, 114]⟩ : ByteArray)] from rfl) (Reps.one (show Kd.M Kd.string _ _ _ (⟨#[115, 110, 97, 112, 115, 104, 111, 116]⟩ : ByteArray) [.string (⟨#[115, 110, 97, 112, 115, 104, 111, 116]⟩ : ByteArray)] from rfl) (Reps.one (show Kd.M Kd.string _ _ _ (⟨#[99, 114, 121, 112, 116]⟩ : ByteArray) [.string (⟨#[99, 114, 121, 112, 116]⟩ : ByteArray)] from rfl) (Reps.one (show Kd.M Kd.string _ _ _ (⟨#[105, 110, 116, 101, 103, 114, 105, 116, 121]⟩ : ByteArray) [.string (⟨#[105, 110, 116, 101, 103, 114, 105, 116, 121]⟩ : ByteArray)] from rfl) (Reps.one (show Kd.M Kd.string _ _ _ (⟨#[118, 101, 114, 105, 116, 121]⟩ : ByteArray) [.string (⟨#[118, 101, 114, 105, 116, 121]⟩ : ByteArray)] from rfl) (Reps.none _ _)))))))))))))))); intro v237 w2 ho3 hb hg_ hnew_; clear hg_ hnew_; (first | rw [← Ny236.out] at ho3 | (simp only [Int.reduceToNat] at ho3; rw [← Ny236.out] at ho3)); have n0_ := Aside0.mk (Kd.R_lower ho3 (xBa (by repeat (first | (with_reducible first | exact HB.out | apply xA2 | apply xA0 | apply xA3) | exact HB.out)))); have n1_ := Aside0.mk (xAz (by repeat (first | (with_reducible first | exact HB.out | apply xA2 | apply xA0 | apply xA3) | exact HB.out)) hb); clear HB; have HO238 := n0_; have HB := n1_; clear n0_ n1_; clear hb ho3))
 go_loopg [4] k (fun kq v4 w' => ∃ (x4_1 : Int), v4 = .int .i64 x4_1 ∧ Aside0 (xAr.l0 kq a0 y236 x4_1 = some r) ∧ Aside0 (kq ≤ k) ∧ Aside0 (Kd.R Kd.string 9 w' w.heap.size (fun _ => True) v237 y236) ∧ Aside0 (Below w.heap.size w w'))
 case atStart => exact ⟨(0), (by first | rfl | (simp; done) | (simp [*]; done)), H', ⟨Nat.le_refl _⟩, ⟨by (with_reducible repeat (first | apply Kd.R_alloc | apply Kd.R_drewN | apply Kd.R_drew)); exact HO238.out⟩, ⟨by repeat (first | (with_reducible first | exact HB.out | apply xA2 | apply xA0 | apply xA3) | exact HB.out)⟩⟩
 case round =>
  clear H'
  try clear p2
  obtain ⟨x4_1, rfl, HA, HK1, HO_3, HB⟩ := hrel
  cases gk with
  | zero => exact absurd HA.out (by simp [xAr.l0])
  | succ k1 =>
   have H := HA.out
   clear HA
   simp only [xAr.l0] at H
   by_cases c4 : x4_1 < (y236.length : Int)
   ·rw [if_pos c4] at H
    have c4b0 : decide (x4_1 < (y236.length : Int)) = true := decide_eq_true c4
    clear c4
    by_cases c5 : 0 ≤ x4_1
    ·rw [if_pos c5] at H
     have c5b0 : decide (0 ≤ x4_1) = true := decide_eq_true c5
     clear c5
     by_cases c6 : (rdOf ByteArray.empty y236 x4_1).toList = a0.toList
     ·rw [if_pos c6] at H
      have c6b0 : ((rdOf ByteArray.empty y236 x4_1).toList == a0.toList) = true := beq_iff_eq.mpr c6
      have c6b1 : ((rdOf ByteArray.empty y236 x4_1).toList != a0.toList) = false := bne_eq_false_iff_eq.mpr c6
      clear c6
      obtain rfl := Option.some.inj H
      obtain ⟨Ao7, co7, eo7⟩ := Kd.R_slice HO_3.out
      subst eo7
      have p239 : 0 ≤ (x4_1 : Int) := of_decide_eq_true (by first | (with_reducible assumption) | assumption)
      have q239 : x4_1 < (y236.length : Int) := of_decide_eq_true (by first | (with_reducible assumption) | assumption)
      obtain ⟨ad239, e239, hx239_0⟩ := Kd.at_string (Kd.R_reads' HO_3.out).2.2 x4_1 p239 q239
      cases e239
      replace p239 := eq_true p239
      replace q239 := eq_true q239
      go_wp2
      go_ret
      exact ⟨by first | rfl | (simp <;> rfl) | (simp [*] <;> rfl), by repeat (first | (with_reducible first | exact HB.out | apply xA2 | apply xA0 | apply xA3) | exact HB.out)⟩
     ·rw [if_neg c6] at H
      have c6b0 : ((rdOf ByteArray.empty y236 x4_1).toList == a0.toList) = false := beq_eq_false_iff_ne.mpr c6
      have c6b1 : ((rdOf ByteArray.empty y236 x4_1).toList != a0.toList) = true := bne_iff_ne.mpr c6
      have H' := Aside0.mk H
      clear H
      obtain ⟨Ao8, co8, eo8⟩ := Kd.R_slice HO_3.out
      subst eo8
      have p239 : 0 ≤ (x4_1 : Int) := of_decide_eq_true (by first | (with_reducible assumption) | assumption)
      have q239 : x4_1 < (y236.length : Int) := of_decide_eq_true (by first | (with_reducible assumption) | assumption)
      obtain ⟨ad239, e239, hx239_0⟩ := Kd.at_string (Kd.R_reads' HO_3.out).2.2 x4_1 p239 q239
      cases e239
      replace p239 := eq_true p239
      replace q239 := eq_true q239
      go_wp2
      go_roundg k1
      case measure => have := HK1.out; omega
      case rel => exact ⟨(wrap64 (x4_1 + 1)), (by first | rfl | (simp; done) | (simp [*]; done)), H', ⟨by have := HK1.out; omega⟩, ⟨by (with_reducible repeat (first | apply Kd.R_alloc | apply Kd.R_drewN | apply Kd.R_drew)); exact HO_3.out⟩, ⟨by repeat (first | (with_reducible first | exact HB.out | apply xA2 | apply xA0 | apply xA3) | exact HB.out)⟩⟩
    ·rw [if_neg c5] at H
     exact absurd H (by simp)
   ·rw [if_neg c4] at H
    have c4b0 : decide (x4_1 < (y236.length : Int)) = false := decide_eq_false c4
    clear c4
    obtain rfl := Option.some.inj H
    obtain ⟨Ao9, co9, eo9⟩ := Kd.R_slice HO_3.out
    subst eo9
    go_wp2
    go_ret
    exact ⟨by first | rfl | (simp <;> rfl) | (simp [*] <;> rfl), by repeat (first | (with_reducible first | exact HB.out | apply xA2 | apply xA0 | apply xA3) | exact HB.out)⟩

end Go.Proofs.YtknbfhhmjbnemaaDoor.P
end
section
namespace Go.Proofs.YtknbfhhmjbnemaaDoor.Pure
open Go.RowKit Go.Proofs.YtknbfhhmjbnemaaDoor.P Go.Proofs.YtknbfhhmjbnemaaDoorW.PrintWords Go.Proofs.YtknbfhhmjbnemaaDoorW.PrintLast

def xMh : List (List UInt8) → List UInt8
 | [] => [32]
 | v :: l => 32 :: (v ++ xMh l)
theorem xLc (l : List (List UInt8)) : ∃ r, xMh l = 32 :: r := by
 cases l with
 | nil => exact ⟨[], rfl⟩
 | cons v l => exact ⟨_, rfl⟩
theorem xDw (b : UInt8) (l sub : List UInt8) : Lib.contains (b :: l) sub = (sub.isPrefixOf (b :: l) || Lib.contains l sub) := by
 unfold Lib.contains
 have hge := Lib.index_ge l sub
 rw [Lib.index]
 by_cases h : sub.isPrefixOf (b :: l) = true
 ·simp [h]
 ·rw [Bool.eq_false_iff.2 h]
  by_cases h2 : Lib.index l sub = -1
  ·simp [h2]
  ·have h3 : (Lib.index l sub == -1) = false := by simpa using h2
   simp only [h3, Bool.false_or]
   rw [decide_eq_decide]
   simp
   omega
theorem xG2 (x : List UInt8) : ∀ (v l : List UInt8), 32 ∉ v → Lib.contains (v ++ l) (32 :: x) = Lib.contains l (32 :: x)
 | [], l, _ => rfl
 | b :: v, l, h => by
  have hb : b ≠ 32 := fun e => h (by rw [e]; exact List.mem_cons_self)
  rw [List.cons_append, xDw, xG2 x v l (fun e => h (List.mem_cons_of_mem _ e))]
  have : (32 :: x).isPrefixOf (b :: (v ++ l)) = false := by
   simp only [List.isPrefixOf, Bool.and_eq_false_iff]
   exact Or.inl (beq_eq_false_iff_ne.2 (fun e => hb e.symm))
  rw [this, Bool.false_or]
theorem xH1 : ∀ (u v r : List UInt8), 32 ∉ u → 32 ∉ v → (u ++ [32]).isPrefixOf (v ++ 32 :: r) = decide (u = v)
 | [], [], r, _, _ => by simp [List.isPrefixOf]
 | [], b :: v, r, _, hv => by
  have hb : b ≠ 32 := fun e => hv (by rw [e]; exact List.mem_cons_self)
  have : ((32 : UInt8) == b) = false := beq_eq_false_iff_ne.2 (fun e => hb e.symm)
  simp [List.isPrefixOf, this]
 | c :: u, [], r, hu, _ => by
  have hc : c ≠ 32 := fun e => hu (by rw [e]; exact List.mem_cons_self)
  have : (c == (32 : UInt8)) = false := beq_eq_false_iff_ne.2 hc
  simp [List.isPrefixOf, this]
 | c :: u, b :: v, r, hu, hv => by
  rw [List.cons_append, List.cons_append, List.isPrefixOf, xH1 u v r (fun e => hu (List.mem_cons_of_mem _ e)) (fun e => hv (List.mem_cons_of_mem _ e))]
  by_cases h : c = b
  ·subst h; simp
  ·have : (c == b) = false := beq_eq_false_iff_ne.2 h
   rw [this]
   simp [h]
theorem xFk (u : List UInt8) (hu : 32 ∉ u) : ∀ (l : List (List UInt8)), (∀ v ∈ l, 32 ∉ v) → Lib.contains (xMh l) (32 :: (u ++ [32])) = l.any (fun v => decide (u = v))
 | [], _ => by
  show Lib.contains [32] (32 :: (u ++ [32])) = false
  rw [xDw]
  have h1 : (32 :: (u ++ [32])).isPrefixOf [32] = false := by
   cases u <;> simp [List.isPrefixOf]
  rw [h1]
  unfold Lib.contains
  rw [Lib.index]
  simp
 | v :: l, h => by
  obtain ⟨r, hr⟩ := xLc l
  show Lib.contains (32 :: (v ++ xMh l)) (32 :: (u ++ [32])) = _
  rw [xDw, xG2 _ v _ (h v List.mem_cons_self), xFk u hu l (fun x hx => h x (List.mem_cons_of_mem _ hx)), List.any_cons]
  congr 1
  rw [List.isPrefixOf, hr, xH1 u v r hu (h v List.mem_cons_self)]
  simp
def xGo : List (List UInt8) := [[100, 101, 118, 105, 99, 101], [106, 111, 117, 114, 110, 97, 108], [107, 101, 121], [114, 111, 111, 116], [118, 111, 108, 117, 109, 101], [101, 120, 112, 111, 114, 116], [114, 101, 97, 100, 111, 110, 108, 121], [108, 105, 110, 101, 97, 114], [99, 111, 110, 99, 97, 116], [109, 105, 114, 114, 111, 114], [115, 110, 97, 112, 115, 104, 111, 116], [99, 114, 121, 112, 116], [105, 110, 116, 101, 103, 114, 105, 116, 121], [118, 101, 114, 105, 116, 121]]
def resB (u : List UInt8) : Bool := xGo.any (fun v => decide (u = v))
theorem xGu : ∀ v ∈ xGo, 32 ∉ v ∧ v ≠ [] := by decide
theorem xLu (u : List UInt8) (h : u = [] ∨ 32 ∈ u) : resB u = false := by
 unfold resB
 rw [List.any_eq_false]
 intro v hv he
 have he := of_decide_eq_true he
 subst he
 have := xGu u hv
 rcases h with h | h
 ·exact this.2 h
 ·exact this.1 h
theorem xHy : ∀ (u : List UInt8), Lib.contains u [32] = decide (32 ∈ u)
 | [] => rfl
 | b :: u => by
  rw [xDw, xHy u]
  by_cases h : b = 32
  ·subst h; simp [List.isPrefixOf]
  ·have h2 : ((32 : UInt8) == b) = false := beq_eq_false_iff_ne.2 (fun e => h e.symm)
   have h3 : ¬ (32 : UInt8) = b := fun e => h e.symm
   simp [List.isPrefixOf, h2, h3]
def xJg : ByteArray := ⟨#[32, 100, 101, 118, 105, 99, 101, 32, 106, 111, 117, 114, 110, 97, 108, 32, 107, 101, 121, 32, 114, 111, 111, 116, 32, 118, 111, 108, 117, 109, 101, 32, 101, 120, 112, 111, 114, 116, 32, 114, 101, 97, 100, 111, 110, 108, 121, 32, 108, 105, 110, 101, 97, 114, 32, 99, 111, 110, 99, 97, 116, 32, 109, 105, 114, 114, 111, 114, 32, 115, 110, 97, 112, 115, 104, 111, 116, 32, 99, 114, 121, 112, 116, 32, 105, 110, 116, 101, 103, 114, 105, 116, 121, 32, 118, 101, 114, 105, 116, 121, 32]⟩
theorem xIr : xJg.data.toList = xMh xGo := by decide
theorem xGj (a : ByteArray) (ha : a.size ≤ 140737488351232) : xC6.f a = some (resB a.data.toList) := by
 unfold xC6.f
 rw [ByteArray.toList_eq]
 by_cases h0 : a.data.toList = []
 ·rw [if_pos h0, xLu _ (Or.inl h0)]
 ·rw [if_neg h0]
  have h1 : strings_Contains.f a (⟨#[32]⟩ : ByteArray) = some (decide (32 ∈ a.data.toList)) := by
   unfold strings_Contains.f
   rw [if_pos (Or.inl (show (⟨#[32]⟩ : ByteArray).size = 1 from rfl)), ← xHy]
  rw [h1]
  simp only [Option.bind_some]
  by_cases h2 : 32 ∈ a.data.toList
  ·rw [if_pos (decide_eq_true h2), xLu _ (Or.inr h2)]
  ·rw [if_neg (by simpa using h2), if_pos (by omega), if_pos (by rw [ByteArray.size_append]; show 1 + a.size + 1 ≤ _; omega)]
   have h3 : strings_Contains.f xJg (((⟨#[32]⟩ : ByteArray) ++ a) ++ (⟨#[32]⟩ : ByteArray)) = some (resB a.data.toList) := by
    unfold strings_Contains.f
    rw [if_pos (Or.inr (by decide)), xIr]
    have h4 : (((⟨#[32]⟩ : ByteArray) ++ a) ++ (⟨#[32]⟩ : ByteArray)).data.toList = 32 :: (a.data.toList ++ [32]) := by
     rw [ByteArray.data_append, ByteArray.data_append, Array.toList_append, Array.toList_append]
     rfl
    rw [h4, xFk _ h2 xGo (fun v hv => (xGu v hv).1)]
    rfl
   show (strings_Contains.f xJg (((⟨#[32]⟩ : ByteArray) ++ a) ++ (⟨#[32]⟩ : ByteArray))).bind _ = _
   rw [h3]
   rfl
theorem ref_run0 (a : ByteArray) (xs : List ByteArray) (hx : xs.length ≤ 1000) : ∀ (d i k : Nat), xs.length - i ≤ d → i ≤ xs.length → d < k → xAr.l0 k a xs i = some ((xs.drop i).any (fun x => decide (a.data.toList = x.data.toList))) := by
 intro d
 induction d with
 | zero =>
  intro i k hd hi hk
  obtain ⟨k, rfl⟩ : ∃ m, k = m + 1 := ⟨k - 1, by omega⟩
  rw [xAr.l0, if_neg (by omega), List.drop_of_length_le (by omega)]
  rfl
 | succ d ih =>
  intro i k hd hi hk
  obtain ⟨k, rfl⟩ : ∃ m, k = m + 1 := ⟨k - 1, by omega⟩
  by_cases hlt : i < xs.length
  ·have c1 : ((i : Nat) : Int) < (xs.length : Int) := by omega
   have hd2 : xs.drop i = xs[i] :: xs.drop (i + 1) := List.drop_eq_getElem_cons hlt
   have hg : rdOf ByteArray.empty xs (i : Int) = xs[i] := by
    unfold rdOf
    rw [Int.toNat_natCast, List.getD_eq_getElem?_getD, List.getElem?_eq_getElem hlt]
    rfl
   rw [xAr.l0, if_pos c1, if_pos (Int.natCast_nonneg _), hg, hd2, List.any_cons, ByteArray.toList_eq, ByteArray.toList_eq]
   by_cases he : xs[i].data.toList = a.data.toList
   ·rw [if_pos he, decide_eq_true he.symm]
    rfl
   ·have ih2 := ih (i + 1) k (by omega) (by omega) (by omega)
    have hw : wrap64 ((i : Int) + 1) = ((i + 1 : Nat) : Int) := by unfold wrap64; omega
    rw [if_neg he, hw, ih2, decide_eq_false (fun e => he e.symm), Bool.false_or]
  ·rw [xAr.l0, if_neg (by omega), List.drop_of_length_le (by omega)]
   rfl
theorem xLx (a : ByteArray) (k : Nat) (hk : 20 < k) : xAr.f k a = some (resB a.data.toList) := by
 unfold xAr.f
 exact ref_run0 a _ (by decide) 14 0 k (by decide) (by decide) (by omega)
end Go.Proofs.YtknbfhhmjbnemaaDoor.Pure
end
section
namespace Go.Proofs.YtknbfhhmjbnemaaDoor.P
open Go.RowKit Go.Proofs.YtknbfhhmjbnemaaDoorW.PrintWords Go.Proofs.YtknbfhhmjbnemaaDoorW.PrintLast Go.Proofs.YtknbfhhmjbnemaaDoorW.PrintMore Go.Proofs.YtknbfhhmjbnemaaDoor.Pure

/-- The rounds suffice. -/
def Gd (t : S60) : Prop := ∃ b, presv t.f1 = some b
def Tot {α : Type} (m : Nat) (g : G α) : Prop := ∀ T en, T.length < m → (∀ t ∈ T, Gd t) → ∃ r, g T en = some r
section
variable {α β : Type} {g : G α} {h : α → G β} {m : Nat}
theorem Tot.bd (hg : Tot m g) (hm : Mono g) (hh : ∀ a, Tot m (h a)) : Tot m (P.bd g h) := by
 intro T en hl hT
 obtain ⟨r, hr⟩ := hg T en hl hT
 unfold P.bd
 rw [hr]
 rcases r with x | ⟨a, T1⟩
 ·exact ⟨_, rfl⟩
 ·have hs := (hm T en).1 a T1 hr
  exact hh a T1 en (by have := hs.length_le; omega) (fun t ht => hT t (hs.subset ht))
theorem Tot.ret (a : α) : Tot m (gret a) := fun T en _ _ => ⟨_, rfl⟩
theorem Tot.must (s : ByteArray) : Tot m (xEd s) := fun T en _ _ => ⟨_, rfl⟩
theorem Tot.gite {c : Prop} [Decidable c] {f g : G α} (hf : Tot m f) (hg : Tot m g) : Tot m (P.gite c f g) := by by_cases h : c; rw [xFc h]; exact hf; rw [xFd h]; exact hg
end
theorem Tot.of {m : Nat} (k : Int) : Tot m (gof k) := by
 intro T en hl hT
 unfold gof pof
 cases T with
 | nil => exact ⟨_, rfl⟩
 | cons t T =>
  obtain ⟨b, hb⟩ := hT t (List.mem_cons_self ..)
  have : ∃ c, pmay k t = some c := by
   unfold pmay
   split
   ·split
    ·exact ⟨!b, by rw [hb]; rfl⟩
    ·exact ⟨_, rfl⟩
   ·exact ⟨_, rfl⟩
  obtain ⟨c, hc⟩ := this
  exact ⟨_, by simp only [xEu, hc]; rfl⟩
theorem xLk : ∀ k, (∀ m nest, m ≤ k → m ≤ 1000 → 0 ≤ nest → nest ≤ 13 → Tot m (xCo k nest)) ∧ (∀ m nest acc, m ≤ k → acc.length + m ≤ 2000 → m ≤ 1000 → 0 ≤ nest → nest ≤ 12 → Tot m (xDi k nest acc))
 | 0 => ⟨fun m nest hm _ _ _ T en hl _ => by omega, fun m nest acc hm _ _ _ _ T en hl _ => by omega⟩
 | k + 1 => by
  obtain ⟨ih, ihs⟩ := xLk k
  obtain ⟨hm, hms, hc⟩ := xDp k
  refine ⟨fun m nest hmk hm1 h0 h1 => ?_, fun m nest acc hmk hacc hm1 h0 h1 => ?_⟩
  ·intro T en hl hT
   have hn0 : ¬ (nest < 0 ∨ nest > 100) := by omega
   by_cases hn : nest > 12
   ·exact ⟨_, by unfold xCo; rw [pexpr, if_neg hn0, if_pos hn]⟩
   cases T with
   | nil =>
    rw [xEr k nest hn0 hn]
    exact Tot.bd (m := m) (Tot.of 0) (Mono.of 0) (fun _ => Tot.ret _) [] en hl hT
   | cons t T =>
    rw [xD2 k nest hn0 hn]
    have hT' : ∀ u ∈ T, Gd u := fun u hu => hT u (List.mem_cons_of_mem _ hu)
    have hl' : T.length < m - 1 := by rw [List.length_cons] at hl; omega
    split
    ·have m1 : ∀ L : List S25, Tot (m - 1) (bd (xEd RP) fun _ => gret (⟨t.f1, ⟨#[]⟩, 0, t.f3, L⟩ : S25)) := fun L => Tot.bd (Tot.must _) (Mono.must _) fun _ => Tot.ret _
     have m2 : ∀ first : S25, Tot (m - 1) (gbr k t.f1 nest first) := fun first =>
      Tot.gite (Tot.bd (Tot.must _) (Mono.must _) fun _ => Tot.bd (Tot.of 1) (Mono.of 1) fun _ => Tot.bd (Tot.must _) (Mono.must _) fun _ => Tot.bd (Tot.of 1) (Mono.of 1) fun _ => Tot.ret _) (Tot.gite (Tot.bd (Tot.must _) (Mono.must _) fun _ => Tot.bd (ih (m - 1) _ (by omega) (by omega) (by omega) (by omega)) (hm _) fun _ => Tot.bd (Tot.must _) (Mono.must _) fun _ => Tot.bd (Tot.of 1) (Mono.of 1) fun _ => Tot.ret _) (Tot.gite (Tot.bd (Tot.must _) (Mono.must _) fun _ => Tot.bd (Tot.of 0) (Mono.of 0) fun _ => Tot.ret _) (ihs (m - 1) _ _ (by omega) (by simp; omega) (by omega) h0 (by omega))))
     exact Tot.bd (Tot.must _) (Mono.must _) (fun _ => Tot.bd (ih (m - 1) _ (by omega) (by omega) (by omega) (by omega)) (hm _) fun first => Tot.bd (m2 first) (Mono.br k hm hms t.f1 nest first) m1) T en hl' hT'
    ·exact Tot.bd (m := m) (Tot.of 0) (Mono.of 0) (fun _ => Tot.ret _) (t :: T) en hl hT
  ·intro T en hl hT
   rw [xEa, if_pos (by omega)]
   split
   ·rename_i hp
    obtain ⟨t, T1, rfl⟩ := xI7 hp
    rw [List.tail_cons]
    exact Tot.bd (m := m - 1) (ih (m - 1) (nest + 1) (by omega) (by omega) (by omega) (by omega)) (hm _) (fun a => ihs (m - 1) nest (acc ++ [a]) (by omega) (by simp; omega) (by omega) h0 h1) T1 en (by rw [List.length_cons] at hl; omega) (fun u hu => hT u (List.mem_cons_of_mem _ hu))
   ·exact ⟨_, rfl⟩
theorem Tot.ro {m : Nat} : Tot m gro := by
 intro T en hl hT
 unfold gro
 split <;> exact ⟨_, rfl⟩
theorem xIj : ∀ k m acc, m ≤ k → m ≤ 1000 → acc.length + m ≤ 2000 → Tot m (xCt k acc)
 | 0, m, acc, hmk, _, _ => fun T en hl _ => by omega
 | k + 1, m, acc, hmk, hm1, hacc => by
  intro T en hl hT
  rw [xEq, if_pos (by omega)]
  split
  ·exact ⟨_, rfl⟩
  rename_i hne
  obtain ⟨t, T, rfl⟩ : ∃ t T', T = t :: T' := by
   cases T with
   | nil => exact absurd rfl hne
   | cons t T => exact ⟨t, T, rfl⟩
  have hT' : ∀ u ∈ T, Gd u := fun u hu => hT u (List.mem_cons_of_mem _ hu)
  have hl' : T.length < m - 1 := by rw [List.length_cons] at hl; omega
  -- the statement's word is taken first
  show ∃ r, bd (xEz k) (fun x => xCt k (acc ++ [x])) (t :: T) en = some r
  have hst : ∃ r, xEz k (t :: T) en = some r := by
   unfold xEz bd gstw xG1
   simp only [xEu, Option.map_some]
   split
   ·obtain ⟨ih, ihs⟩ := xLk k
    obtain ⟨hm, hms, hc⟩ := xDp k
    have h1 : Tot (m - 1) (bd (gof 0) fun nm => xJs k t.f1 nm.f1 t.f3) := Tot.bd (Tot.of 0) (Mono.of 0) fun nm => Tot.bd (Tot.gite (Tot.bd (Tot.of _) (Mono.of _) fun _ => Tot.ret _) (Tot.gite (Tot.bd (Tot.of _) (Mono.of _) fun _ => Tot.ret _) (Tot.gite (Tot.bd (Tot.must _) (Mono.must _) fun _ => Tot.bd (ih (m - 1) 1 (by omega) (by omega) (by omega) (by omega)) (hm _) fun _ => Tot.ret _) (Tot.gite Tot.ro (Tot.ret _))))) (Mono.val k _) fun nl => Tot.bd (Tot.must _) (Mono.must _) fun _ => Tot.ret _
    exact h1 T en hl' hT'
   ·exact ⟨_, rfl⟩
  obtain ⟨r, hr⟩ := hst
  unfold bd
  rw [hr]
  rcases r with x | ⟨a, T1⟩
  ·exact ⟨_, rfl⟩
  ·have hc := Cons.stmt k _ _ _ _ hr
   have hs := (Mono.stmt k (t :: T) en).1 a T1 hr
   exact xIj k (m - 1) (acc ++ [a]) (by omega) (by omega) (by simp; omega) T1 en (by rw [List.length_cons] at hc; omega) (fun u hu => hT u (hs.subset hu))
theorem xLd {t : S60} (h : t.f1.size ≤ 140737488351232) : Gd t := ⟨_, xGj t.f1 h⟩
/-- What Parse makes of a text, in plain words. -/
def xDq (s : ByteArray) : S25 × Int × Int :=
 match scan (xAj s) with
 | .error e => (z25, e.1, e.2)
 | .ok T => match xCt 1000 [] T s.size with | some r => xFo r | none => (z25, 0, 0)
theorem xJ5 {t : S60} (h : xDn t) : t.f1.size ≤ 1000 := by
 have e : t.f1.size = (xAj t.f1).length := (xAy _).symm
 rw [e]
 rcases h with ⟨_, h, _⟩ | ⟨_, _, _, h, _⟩ | ⟨_, _, _, h, _⟩ | ⟨_, ⟨c, h, _⟩, _⟩
 ·rw [h]; simp
 ·omega
 ·omega
 ·rw [h]; simp
theorem xIo {s : ByteArray} {T : List S60} (h : scan (xAj s) = .ok T) : ∀ t ∈ T, xDn t := by
 unfold scan at h
 split at h
 ·cases h
 ·exact xHk _ _ _ _ _ h (fun x hx => xIc s x ((xCx _ _).subset hx))
theorem xEl {s : ByteArray} {T : List S60} (h : scan (xAj s) = .ok T) (k : Nat) (hk : 600 ≤ k) : ∃ r, ∀ k, 600 ≤ k → xCt k [] T s.size = some r := by
 have h5 := (xLp h).2.1
 obtain ⟨r, hr⟩ := xIj 600 600 [] (Nat.le_refl _) (by omega) (by simp) T s.size (by omega) (fun t ht => xLd (Nat.le_trans (xJ5 (xIo h t ht)) (by omega)))
 exact ⟨r, fun k hk => by
  have := LeO.rounds (f := fun j => xCt j [] T s.size) (fun j => xEv j T s.size []) 600 (k - 600) r hr
  rwa [show 600 + (k - 600) = k by omega] at this⟩
theorem xM8 {k : Nat} {s : ByteArray} {T : List S60} {q : Int} (h : xBi.f k s = some (T, 0, q)) : xFv k s = (xE6 k T s.size []).bind fun r => some (xFo r) := by
 unfold xFv
 rw [h, Option.bind_some]
 exact if_pos rfl
theorem xL8 {k : Nat} {s : ByteArray} {T : List S60} {e q : Int} (he : e ≠ 0) (h : xBi.f k s = some (T, e, q)) : xFv k s = some (z25, e, q) := by
 unfold xFv
 rw [h, Option.bind_some]
 exact if_neg he
theorem xGs {l : List Int} {e : Int × Int} (h : scan l = .error e) : e.1 ≠ 0 := by
 unfold scan at h
 split at h
 ·cases h; decide
 ·exact (xIp _ _ _ _ _ h (xDd _ _)).1
theorem xL7 (s : ByteArray) (k : Nat) (hk : 5000 ≤ k) : xFv k s = some (xDq s) := by
 have hs := scan_run s k hk
 unfold xDq
 cases h : scan (xAj s) with
 | error e =>
  rw [h] at hs
  exact xL8 (xGs h) hs
 | ok T =>
  rw [h] at hs
  rw [xM8 hs]
  obtain ⟨r, hr⟩ := xEl h 600 (Nat.le_refl _)
  have h1 := hr k (by omega)
  have h2 := hr 1000 (by omega)
  unfold xCt at h1
  simp only
  rw [h1, h2]
  rfl
end Go.Proofs.YtknbfhhmjbnemaaDoor.P
end
section
namespace Go.Proofs.YtknbfhhmjbnemaaDoor.P
open Go.RowKit Go.Proofs.YtknbfhhmjbnemaaDoorW.PrintWords Go.Proofs.YtknbfhhmjbnemaaDoorW.PrintLast Go.Proofs.YtknbfhhmjbnemaaDoorW.PrintMore
attribute [local go_sem] xBh xBp

/-! ### cofferdamref11_Same: function 10 -/
mutual
def cofferdamref11_Same.j0 : Nat → Bool → Bool → ByteArray → ByteArray → Int → Int → List (S25) → ByteArray → ByteArray → Int → Int → List (S25) → Option (Bool)
 | 0, _, _, _, _, _, _, _, _, _, _, _, _ => none
 | k + 1, x2, x46, x202000, x202001, x202002, x202003, x202004, x203000, x203001, x203002, x203003, x203004 => if x46 = true then (some false) else (cofferdamref11_Same.l0 k x2 0 x202000 x202001 x202002 x202003 x202004 x203000 x203001 x203002 x203003 x203004)
def cofferdamref11_Same.l0 : Nat → Bool → Int → ByteArray → ByteArray → Int → Int → List (S25) → ByteArray → ByteArray → Int → Int → List (S25) → Option (Bool)
 | 0, _, _, _, _, _, _, _, _, _, _, _, _ => none
 | k + 1, x2, x7, x202000, x202001, x202002, x202003, x202004, x203000, x203001, x203002, x203003, x203004 => if x7 < (x202004.length : Int) then (if 0 ≤ x7 then (if x7 < (x203004.length : Int) then ((cofferdamref11_Same.f k ((xAd x202004 x7).f0) ((xAd x202004 x7).f1) ((xAd x202004 x7).f2) ((xAd x202004 x7).f3) ((xAd x202004 x7).f4) ((xAd x203004 x7).f0) ((xAd x203004 x7).f1) ((xAd x203004 x7).f2) ((xAd x203004 x7).f3) ((xAd x203004 x7).f4) x2).bind fun t205 => (if t205 = true then (cofferdamref11_Same.l0 k x2 (wrap64 (x7 + 1)) x202000 x202001 x202002 x202003 x202004 x203000 x203001 x203002 x203003 x203004) else (some false))) else (none)) else (none)) else (some true)
def cofferdamref11_Same.f : Nat → ByteArray → ByteArray → Int → Int → List (S25) → ByteArray → ByteArray → Int → Int → List (S25) → Bool → Option (Bool)
 | 0, _, _, _, _, _, _, _, _, _, _, _ => none
 | k + 1, a0_0, a0_1, a0_2, a0_3, l0_4, a1_0, a1_1, a1_2, a1_3, l1_4, a2 => if a0_0.toList = a1_0.toList then (if a0_1.toList = a1_1.toList then (if a0_2 = a1_2 then (if a2 = true then (if a0_3 = a1_3 then (cofferdamref11_Same.j0 k a2 ((l0_4.length : Int) != (l1_4.length : Int)) a0_0 a0_1 a0_2 a0_3 l0_4 a1_0 a1_1 a1_2 a1_3 l1_4) else (cofferdamref11_Same.j0 k a2 true a0_0 a0_1 a0_2 a0_3 l0_4 a1_0 a1_1 a1_2 a1_3 l1_4)) else (cofferdamref11_Same.j0 k a2 ((l0_4.length : Int) != (l1_4.length : Int)) a0_0 a0_1 a0_2 a0_3 l0_4 a1_0 a1_1 a1_2 a1_3 l1_4)) else (cofferdamref11_Same.j0 k a2 true a0_0 a0_1 a0_2 a0_3 l0_4 a1_0 a1_1 a1_2 a1_3 l1_4)) else (cofferdamref11_Same.j0 k a2 true a0_0 a0_1 a0_2 a0_3 l0_4 a1_0 a1_1 a1_2 a1_3 l1_4)) else (cofferdamref11_Same.j0 k a2 true a0_0 a0_1 a0_2 a0_3 l0_4 a1_0 a1_1 a1_2 a1_3 l1_4)
end
end Go.Proofs.YtknbfhhmjbnemaaDoor.P
end
section
namespace Go.Proofs.YtknbfhhmjbnemaaDoor.P
open Go.RowKit Go.Proofs.YtknbfhhmjbnemaaDoorW.PrintWords Go.Proofs.YtknbfhhmjbnemaaDoorW.PrintLast Go.Proofs.YtknbfhhmjbnemaaDoorW.PrintMore Go.Proofs.YtknbfhhmjbnemaaDoor.Pure

/-! trees that the parser makes are of a modest width; alike trees are the same -/
def bnd : Nat → S25 → Prop
 | 0, _ => True
 | k + 1, n => n.f4.length ≤ 1000002 ∧ ∀ x ∈ n.f4, bnd k x
def Bn (n : S25) : Prop := ∀ k, bnd k n
def Bl (l : List S25) : Prop := l.length ≤ 1000002 ∧ ∀ x ∈ l, Bn x
theorem Bn.mk {a b : ByteArray} {c d : Int} {l : List S25} (h : Bl l) : Bn ⟨a, b, c, d, l⟩ := fun k => by
 cases k with
 | zero => trivial
 | succ k => exact ⟨h.1, fun x hx => h.2 x hx k⟩
theorem Bn.get {n : S25} (h : Bn n) : Bl n.f4 := ⟨(h 1).1, fun x hx k => (h (k + 1)).2 x hx⟩
theorem Bl.nil : Bl [] := ⟨by simp, fun x hx => by cases hx⟩
theorem Bl.snoc {l : List S25} {a : S25} (h : Bl l) (ha : Bn a) (hl : l.length ≤ 1000001) : Bl (l ++ [a]) := ⟨by simp; omega, fun x hx => by
 rcases List.mem_append.1 hx with hx | hx
 ·exact h.2 x hx
 ·obtain rfl : x = a := by simpa using hx
  exact ha⟩
theorem Bl.one {a : S25} (ha : Bn a) : Bl [a] := ⟨by simp, fun x hx => by
 obtain rfl : x = a := by simpa using hx
 exact ha⟩
/-- What a result is like. -/
def Post {α : Type} (g : G α) (Q : α → Prop) : Prop := ∀ T en a T', g T en = some (.ok (a, T')) → Q a
section
variable {α β : Type} {g : G α} {h : α → G β} {Q : α → Prop} {R : β → Prop}
theorem Post.bd (hg : Post g Q) (hh : ∀ a, Q a → Post (h a) R) : Post (P.bd g h) R := by
 intro T en b T' hb
 rcases xBd hb with ⟨e, _, he⟩ | ⟨a, T1, h1, h2⟩
 ·cases he
 ·exact hh a (hg T en a T1 h1) T1 en b T' h2
theorem Post.ret {a : α} (h : Q a) : Post (gret a) Q := fun T en b T' hb => by cases hb; exact h
theorem Post.any : Post g (fun _ => True) := fun _ _ _ _ _ => trivial
theorem Post.gite {c : Prop} [Decidable c] {f g : G α} (hf : Post f Q) (hg : Post g Q) : Post (P.gite c f g) Q := by by_cases h : c; rw [xFc h]; exact hf; rw [xFd h]; exact hg
end
theorem Bn.num (t : S60) : Bn (xC8 t) := Bn.mk Bl.nil
theorem Bn.name (t : S60) : Bn (xBu t) := Bn.mk Bl.nil
theorem Post.use : Post guse Bn := Post.bd Post.any fun _ _ => Post.ret (Bn.mk Bl.nil)
theorem xK8 : ∀ k, (∀ nest, Post (xCo k nest) Bn) ∧ (∀ nest acc, Bl acc → Post (xDi k nest acc) Bl)
 | 0 => ⟨(fun nest T en a T' h => by rw [xE0] at h; cases h), (fun nest acc _ T en a T' h => by rw [xE9] at h; cases h)⟩
 | k + 1 => by
  obtain ⟨ih, ihs⟩ := xK8 k
  refine ⟨fun nest => ?_, fun nest acc hacc => ?_⟩
  ·intro T en a T' h
   by_cases hn0 : nest < 0 ∨ nest > 100
   ·unfold xCo at h; rw [pexpr, if_pos hn0] at h; cases h
   by_cases hn : nest > 12
   ·unfold xCo at h; rw [pexpr, if_neg hn0, if_pos hn] at h; cases h
   cases T with
   | nil => rw [xEr k nest hn0 hn] at h; exact Post.use _ _ _ _ h
   | cons t T =>
    rw [xD2 k nest hn0 hn] at h
    split at h
    ·have hbr : ∀ first, Bn first → Post (gbr k t.f1 nest first) Bl := fun first hf =>
      Post.gite (Post.bd Post.any fun _ _ => Post.bd Post.any fun a _ => Post.bd Post.any fun _ _ => Post.bd Post.any fun b _ => Post.ret (((Bl.one hf).snoc (Bn.num a) (by simp)).snoc (Bn.num b) (by simp))) (Post.gite (Post.bd Post.any fun _ _ => Post.bd (ih _) fun a ha => Post.bd Post.any fun _ _ => Post.bd Post.any fun b _ => Post.ret (((Bl.one hf).snoc ha (by simp)).snoc (Bn.num b) (by simp))) (Post.gite (Post.bd Post.any fun _ _ => Post.bd Post.any fun a _ => Post.ret ((Bl.one hf).snoc (Bn.name a) (by simp))) (ihs _ _ (Bl.one hf))))
     exact (Post.bd Post.any fun _ _ => Post.bd (ih _) fun first hf => Post.bd (hbr first hf) fun L hL => Post.bd (R := Bn) Post.any fun _ _ => Post.ret (Bn.mk hL)) T en a T' h
    ·exact Post.use _ _ _ _ h
  ·intro T en a T' h
   rw [xEa] at h
   split at h
   case isFalse => cases h
   rename_i hb
   split at h
   ·exact (Post.bd (ih (nest + 1)) fun a ha => ihs nest (acc ++ [a]) (hacc.snoc ha (by omega))) T.tail en a T' h
   ·cases h
    exact hacc
theorem Post.stmt (k : Nat) : Post (xEz k) Bn := by
 obtain ⟨ih, ihs⟩ := xK8 k
 refine Post.bd Post.any fun t _ => Post.bd Post.any fun nm _ => Post.bd (Q := fun nl : Int × List S25 => Bl nl.2) ?_ fun nl hnl => Post.bd (R := Bn) Post.any fun _ _ => Post.ret (Bn.mk hnl)
 refine Post.gite (Post.bd Post.any fun _ _ => Post.ret Bl.nil) (Post.gite (Post.bd Post.any fun a _ => Post.ret (Bl.one (Bn.mk Bl.nil))) (Post.gite (Post.bd Post.any fun _ _ => Post.bd (ih 1) fun a ha => Post.ret (Bl.one ha)) (Post.gite ?_ (Post.ret Bl.nil))))
 intro T en a T' h
 unfold gro at h
 split at h <;> (cases h; exact Bl.nil)
theorem Post.stmts : ∀ k acc, Bl acc → Post (xCt k acc) Bl
 | 0, acc, _ => fun T en a T' h => by rw [xE8] at h; cases h
 | k + 1, acc, hacc => by
  intro T en a T' h
  rw [xEq] at h
  split at h
  case isFalse => cases h
  rename_i hb
  split at h
  ·cases h; exact hacc
  ·exact (Post.bd (Post.stmt k) fun x hx => Post.stmts k (acc ++ [x]) (hacc.snoc hx (by omega))) T en a T' h
/-! Same -/
theorem xKn {n x : S25} (h : x ∈ n.f4) : SizeOf.sizeOf x < SizeOf.sizeOf n := by
 have h1 := List.sizeOf_lt_of_mem h
 cases n
 simp only [S25.mk.sizeOf_spec]
 simp only at h1
 omega
theorem xJt {k : Nat} {T : List S60} {en : Int} {acc : List S25} {r : Except PErr (List S25 × List S60)} (h : xCt k acc T en = some r) (j : Nat) (hj : k ≤ j) : xCt j acc T en = some r := by
 have := LeO.rounds (f := fun j => xCt j acc T en) (fun j => xEv j T en acc) k (j - k) r h
 rwa [show k + (j - k) = j by omega] at this
/-- What Parse makes, by its ways. -/
theorem xG9 {s : ByteArray} {e : Int × Int} (h : scan (xAj s) = .error e) : xDq s = (z25, e.1, e.2) := by unfold xDq; rw [h]
theorem xH4 {s : ByteArray} {T : List S60} {r : Except PErr (List S25 × List S60)} {k : Nat} (h : scan (xAj s) = .ok T) (hr : xCt k [] T s.size = some r) : xDq s = xFo r := by
 unfold xDq
 rw [h]
 obtain ⟨r', hr'⟩ := xEl h 600 (Nat.le_refl _)
 have h1 := hr' (1000 + k) (by omega)
 have h2 := xJt hr (1000 + k) (by omega)
 rw [h1] at h2
 cases h2
 simp only
 rw [hr' 1000 (by omega)]
def Ec {α : Type} (g : G α) : Prop := ∀ T en x, g T en = some (.error x) → x.1 = 111 ∨ x.1 = 112
theorem Ec.bd {α β : Type} {g : G α} {h : α → G β} (hg : Ec g) (hh : ∀ a, Ec (h a)) : Ec (P.bd g h) := by
 intro T en x hx
 rcases xBd hx with ⟨e, h1, he⟩ | ⟨a, T1, h1, h2⟩
 ·cases he; exact hg T en x h1
 ·exact hh a T1 en x h2
theorem Ec.ret {α : Type} {a : α} : Ec (gret a) := fun T en x h => by cases h
theorem Ec.gite {α : Type} {c : Prop} [Decidable c] {f g : G α} (hf : Ec f) (hg : Ec g) : Ec (P.gite c f g) := by by_cases h : c; rw [xFc h]; exact hf; rw [xFd h]; exact hg
theorem Ec.must (s : ByteArray) : Ec (xEd s) := fun T en x h => by
 unfold xEd xDl at h
 split at h <;> cases h
 exact .inl rfl
theorem Ec.take (may : S60 → Option Bool) : Ec (xG1 may) := fun T en x h => by
 unfold xG1 at h
 cases T with
 | nil => cases h; exact .inl rfl
 | cons t T =>
  simp only [xEu] at h
  obtain ⟨b, hb, h⟩ := Option.map_eq_some_iff.1 h
  split at h <;> cases h
  exact .inl rfl
theorem Ec.of (k : Int) : Ec (gof k) := Ec.take _
theorem ec_all : ∀ k, (∀ nest, Ec (xCo k nest)) ∧ (∀ nest acc, Ec (xDi k nest acc))
 | 0 => ⟨(fun nest T en x h => by rw [xE0] at h; cases h), (fun nest acc T en x h => by rw [xE9] at h; cases h)⟩
 | k + 1 => by
  obtain ⟨ih, ihs⟩ := ec_all k
  have hu : Ec guse := Ec.bd (Ec.of 0) fun _ => Ec.ret
  refine ⟨fun nest => ?_, fun nest acc => ?_⟩
  ·intro T en x h
   by_cases hn0 : nest < 0 ∨ nest > 100
   ·unfold xCo at h; rw [pexpr, if_pos hn0] at h; cases h
   by_cases hn : nest > 12
   ·unfold xCo at h; rw [pexpr, if_neg hn0, if_pos hn] at h; cases h; exact .inr rfl
   cases T with
   | nil => rw [xEr k nest hn0 hn] at h; exact hu _ _ _ h
   | cons t T =>
    rw [xD2 k nest hn0 hn] at h
    split at h
    ·have hbr : ∀ first, Ec (gbr k t.f1 nest first) := fun first =>
      Ec.gite (Ec.bd (Ec.must _) fun _ => Ec.bd (Ec.of _) fun _ => Ec.bd (Ec.must _) fun _ => Ec.bd (Ec.of _) fun _ => Ec.ret) (Ec.gite (Ec.bd (Ec.must _) fun _ => Ec.bd (ih _) fun _ => Ec.bd (Ec.must _) fun _ => Ec.bd (Ec.of _) fun _ => Ec.ret) (Ec.gite (Ec.bd (Ec.must _) fun _ => Ec.bd (Ec.of _) fun _ => Ec.ret) (ihs _ _)))
     exact (Ec.bd (Ec.must _) fun _ => Ec.bd (ih _) fun first => Ec.bd (hbr first) fun _ => Ec.bd (Ec.must _) fun _ => Ec.ret) T en x h
    ·exact hu _ _ _ h
  ·intro T en x h
   rw [xEa] at h
   split at h
   case isFalse => cases h
   split at h
   ·exact (Ec.bd (ih (nest + 1)) fun a => ihs nest (acc ++ [a])) T.tail en x h
   ·cases h
theorem Ec.stmt (k : Nat) : Ec (xEz k) := by
 obtain ⟨ih, ihs⟩ := ec_all k
 refine Ec.bd (Ec.take _) fun t => Ec.bd (Ec.of _) fun nm => Ec.bd (Ec.gite (Ec.bd (Ec.of _) fun _ => Ec.ret) (Ec.gite (Ec.bd (Ec.of _) fun _ => Ec.ret) (Ec.gite (Ec.bd (Ec.must _) fun _ => Ec.bd (ih 1) fun _ => Ec.ret) (Ec.gite ?_ Ec.ret)))) fun _ => Ec.bd (Ec.must _) fun _ => Ec.ret
 intro T en x h
 unfold gro at h
 split at h <;> cases h
theorem Ec.stmts : ∀ k acc, Ec (xCt k acc)
 | 0, acc => fun T en x h => by rw [xE8] at h; cases h
 | k + 1, acc => by
  intro T en x h
  rw [xEq] at h
  split at h
  case isFalse => cases h
  split at h
  ·cases h
  ·exact (Ec.bd (Ec.stmt k) fun a => Ec.stmts k (acc ++ [a])) T en x h
theorem xL4 {k : Nat} {acc : List S25} {T : List S60} {en : Int} {x : PErr} (h : xCt k acc T en = some (.error x)) : x.1 = 111 ∨ x.1 = 112 := Ec.stmts k acc T en x h
/-- A text that is a file. -/
theorem xJp {s : ByteArray} (h : (xDq s).2.1 = 0) : ∃ T L, scan (xAj s) = .ok T ∧ (∀ k, 600 ≤ k → xCt k [] T s.size = some (.ok (L, []))) ∧ xDq s = (⟨FILE, ⟨#[]⟩, 0, 0, L⟩, 0, -1) := by
 cases hs : scan (xAj s) with
 | error e =>
  rw [xG9 hs] at h
  exact absurd h (xGs hs)
 | ok T =>
  obtain ⟨r, hr⟩ := xEl hs 600 (Nat.le_refl _)
  have h1 := xH4 hs (hr 600 (Nat.le_refl _))
  rcases r with x | ⟨L, T'⟩
  ·rw [h1] at h
   have := xL4 (hr 600 (Nat.le_refl _))
   simp only [xFo] at h
   omega
  ·have h2 := (xHi 600 T s.size [] L T' (hr 600 (Nat.le_refl _))).1
   subst h2
   exact ⟨T, L, rfl, hr, h1⟩

/-! words of the laws' walks -/
/-- A node that is read: what it leads to lies in ok. -/
structure NodeF (W : World) (ok : Nat → Prop) (n : S25) (A : Option Addr) (c : Nat) : Prop where
 hc : n.f4.length ≤ c
 hF : Kd.F k25 W ok A n.f4.length n.f4
theorem NodeF.C {W : World} {ok : Nat → Prop} {n : S25} {A : Option Addr} {c : Nat} (h : NodeF W ok n A c) : Kd.C k25 W A n.f4.length n.f4 := Kd.F_now h.hF
theorem NodeF.below {W W1 : World} {ok : Nat → Prop} {n : S25} {A : Option Addr} {c : Nat} (h : NodeF W ok n A c) (hb : Below W.heap.size W W1) : NodeF W1 ok n A c := ⟨h.hc, Kd.F_below h.hF hb⟩
/-- .. in a box. -/
structure NodeX (W : World) (b : Nat) (ok : Nat → Prop) (n : S25) (A : Option Addr) (c : Nat) : Prop where
 blk : W.heap[b]? = some (.cells #[.string n.f0, .string n.f1, .int .i64 n.f2, .int .i64 n.f3, .slice A n.f4.length c] 25 (0, 0))
 nd : NodeF W ok n A c
theorem NodeX.below {W W1 : World} {b : Nat} {ok : Nat → Prop} {n : S25} {A : Option Addr} {c : Nat} (h : NodeX W b ok n A c) (hb : Below W.heap.size W W1) : NodeX W1 b ok n A c := ⟨xAx h.blk hb, h.nd.below hb⟩
theorem NodeX.new {W : World} {ok : Nat → Prop} {n : S25} {A : Option Addr} {c : Nat} (h : NodeF W ok n A c) : NodeX (W.alloc (.cells #[.string n.f0, .string n.f1, .int .i64 n.f2, .int .i64 n.f3, .slice A n.f4.length c] 25 (0, 0))) W.heap.size ok n A c :=
 ⟨xBj _ _, h.below (xA2 (Below.refl _ _) _)⟩
/-- What a law's walk carries: memory as it was, the library's variables. -/
structure LawW (m : Int) (w W : World) : Prop where
 hm : W.cell? ⟨0, 0, none⟩ = some (.int .i64 m)
 ht : TabW W
 bel : Below w.heap.size w W
theorem LawW.below {m : Int} {w W W1 : World} (h : LawW m w W) (hb : Below W.heap.size W W1) : LawW m w W1 := ⟨xAb hb h.hm, h.ht.below hb, xBv h.bel h.bel.size hb⟩
theorem LawW.alloc {m : Int} {w W : World} (h : LawW m w W) (o : Obj) : LawW m w (W.alloc o) := h.below (xA2 (Below.refl _ _) _)
def ParX (s : ByteArray) (r : S25 × Int × Int) : Prop := xDq s = r
theorem xMd {m : Int} {w W : World} (h : LawW m w W) (s : ByteArray) {n : S25} {er at_ : Int} (hx : ParX s (n, er, at_)) :
  Calls Tryd.prog 9 #[.string s] W fun e w' => ∃ A c, e = .returned (.tuple #[.agg #[.string n.f0, .string n.f1, .int .i64 n.f2, .int .i64 n.f3, .slice A n.f4.length c], .int .i64 er, .int .i64 at_]) ∧ NodeF w' (fun k => W.heap.size ≤ k ∧ k < w'.heap.size) n A c ∧ LawW m w w' ∧ Below W.heap.size W w' := by
 have h1 := xL7 s 5000 (Nat.le_refl _)
 rw [show xDq s = _ from hx] at h1
 refine (xH3 5000 s n er at_ m W h.hm h1).mono ?_
 rintro e w' ⟨v, he, hN, hb⟩
 obtain ⟨A, c, rfl⟩ := Kd.N_slice hN
 exact ⟨A, c, he, ⟨(Kd.N_reads' hN).2.1, Kd.F_bound (Kd.N_F hN)⟩, h.below hb, hb⟩
theorem xMe {m : Int} {w W : World} (h : LawW m w W) : Calls Tryd.prog 8 #[] W fun e w' => e = .returned (.bool true) ∧ LawW m w w' ∧ Below W.heap.size W w' :=
 (xJz m W h.hm h.ht).mono fun e w' ⟨he, hb⟩ => ⟨he, h.below hb, hb⟩
/-- How a law ends. -/
def LawEnd (w : World) (e : Ending) (w' : World) : Prop := e = .returned (.bool true) ∧ Below w.heap.size w w'
end Go.Proofs.YtknbfhhmjbnemaaDoor.P
end
section
namespace Go.Proofs.YtknbfhhmjbnemaaDoor
open Go.ChangeShapes Go.WideShapes Go.ChangeAt Go.RowKit
open Go.ChangeMaps (open_string shut_string)

/-! what all rows of this seat share: the listed variables, the world's shape -/
def laid3 : List (String × DataW Unit) := Rows.parseJoinedRow.laid
theorem own : ownKnob Tryd.prog.godebug = none := by kernel_rfl
theorem gPow : Tryd.prog.globalNamed "internal/strconv.uint64pow10" = some 1 := by kernel_rfl
theorem tPow : (Tryd.prog.globals[1]?).map (·.type) = some 98 := by kernel_rfl
theorem datPow : (Rows.laid_internal_strconv_uint64pow10 : DataW Unit) = Lib.tabData .u64 Lib.pow10Tab := by kernel_rfl
theorem door_met (os : Os) (args : Array Value) : laidMetH Tryd.prog laid3 ((World.doorLaid Tryd.prog 400 os).forCall (fun _ _ => 0) ⟨#[], args, []⟩).memory :=
 laidMetH_of_parts3 (fuel := 8) (laidMet_of_run' 8 (by kernel_rfl) (by kernel_rfl)) (by kernel_rfl) (by kernel_rfl)
set_option maxRecDepth 100000 in
theorem xJd {W : World} (h : laidMetH Tryd.prog laid3 W) : P.TabW W := by
 rw [MakeChecks.laidMetH_plain _ _ _ (by kernel_rfl)] at h
 obtain ⟨ps, ⟨g0, t0, cs0, f0, p0, q0, hg0, ht0, hv0, hd0, ⟨g1, t1, cs1, f1, p1, q1, hg1, ht1, hv1, hd1, ⟨g2, t2, cs2, f2, p2, q2, hg2, ht2, hv2, hd2, _, _⟩, _⟩, _⟩, _, _⟩ := h
 obtain rfl := Option.some.inj (gPow.symm.trans hg2)
 obtain rfl := Option.some.inj (tPow.symm.trans ht2)
 rw [datPow] at hd2
 show Lib.TabIs _ _ _ _ _
 unfold Lib.TabIs
 rw [hv2, ← Lib.cells_of_tab Tryd.underlying98 Tryd.underlying91 (by kernel_rfl) (by kernel_rfl) hd2]
variable {H : Type} {enc : TypeId × Value → H}
theorem xGd {a : Assume} {C : Checked} {os : Os} {f : FuncId} {fn : Func} {s : ChangeSpec} {conds : List PathCond} {apart fresh handsOn again : Bool} {X : World → Array Value → Prop}
  (hX : ∀ (w w' : World) (args : Array Value), w.heap = w'.heap → X w args → X w' args)
  (own : ownKnob C.prog.godebug = none) (started : os.Started) (noInit : C.prog.inits.idxOf? f = none) (hfn : C.prog.funcs[f]? = some fn)
  (witness : ∃ (w : World) (tape : Tape) (i : Input), w.os = os ∧ (w.forCall tape i).Shaped C.prog ∧ i.vars = [] ∧ Input.okWide C.prog (w.forCall tape i) .any w.heap.size f i ∧
   ((s.pre enc C.prog fn conds apart (w.forCall tape i).memory i.args ∧ X (w.forCall tape i).memory i.args) ∧ sizedMet enc C.prog fn (OpenSpec.ofChange s) apart (w.forCall tape i).memory i.args) ∧ a.holds C.prog (lone (Frame.enter C.prog f i.args .normal) [] (w.forCall tape i)))
  (contract : ∀ (W : World) (base : Nat) (args : Array Value) (ds gs : List (DataW H)) (before : List MemPlace),
   (∀ (j : Nat) t v, fn.params[j]? = some t → args[j]? = some v → Value.okWide C.prog W .any base t v) →
   DataW.Whole enc C.prog fn.params.toList s.vars apart W args.toList ds gs before →
   conds.all (PathCond.test C.prog ⟨fn.params.toList, ds, s.plain.varTypes C.prog, gs⟩) = true →
   (DataW.weightsEach C.prog (fn.params.toList ++ s.plain.varTypes C.prog) (ds ++ gs)).all (· ≤ reachBytes) = true → X W args → W.ShapedOpen C.prog →
   a.holds C.prog (lone (Frame.enter C.prog f args .normal) [] W) →
   Calls C.prog f args W fun e W' => ∃ v, e = .returned v ∧ s.post enc C.prog fn apart fresh handsOn again W args v W') :
  ReturnsInHanded a C os f .any (fun w args => (s.pre enc C.prog fn conds apart w args ∧ X w args) ∧ sizedMet enc C.prog fn (OpenSpec.ofChange s) apart w args) (s.post enc C.prog fn apart fresh handsOn again) := by
 refine returnsInHanded_of_calls own started noInit witness ?_
 intro w tape i _ hsh _ hok hpre hholds
 obtain ⟨_, _, _, fn', hfn', _, _, _, _, hval⟩ := hok
 have e : fn' = fn := Option.some.inj (hfn'.symm.trans hfn)
 subst e
 obtain ⟨⟨⟨ds, gs, before, hw, hc⟩, hx⟩, hz⟩ := hpre
 have hw' := DataW.Whole.of_heap (w' := w.forCall tape i) (by rfl) hw
 refine (contract (w.forCall tape i) w.heap.size i.args ds gs before hval hw' hc (hz.weights hw) (hX _ _ _ (by rfl) hx) hsh hholds).mono fun e W' ⟨v, he, hp⟩ => ?_
 subst he
 exact ChangeSpec.post_blind hp
end Go.Proofs.YtknbfhhmjbnemaaDoor
end
