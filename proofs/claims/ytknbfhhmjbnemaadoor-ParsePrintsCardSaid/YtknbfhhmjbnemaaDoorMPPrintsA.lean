/- Proved here, for the claim of parsePrints_holds: what it is made of: the texts of this work, one behind the other, laid by a program of this session. Conditions: none beside the statement's own. -/
import Derived.Test.YtknbfhhmjbnemaaDoorMP1
import Derived.Test.YtknbfhhmjbnemaaDoorMP2
import Derived.Test.YtknbfhhmjbnemaaDoorMP4
set_option linter.unusedVariables false
set_option linter.unusedSimpArgs false
section
namespace Go.Proofs.YtknbfhhmjbnemaaDoor.P
open Go.RowKit Go.Proofs.YtknbfhhmjbnemaaDoorW.PrintWords Go.Proofs.YtknbfhhmjbnemaaDoorW.PrintLast Go.Proofs.YtknbfhhmjbnemaaDoorW.PrintMore
attribute [local go_sem] xB9 xBe

/-! ### xAv: function 72 -/
def xAv.f (a0 : Int) : Option (Bool) := if a0 ≥ 48 then (some (decide (a0 ≤ 57))) else (some false)
set_option maxHeartbeats 8000000 in
set_option maxRecDepth 100000 in
theorem xAv.calls (a0 : Int) (r : Bool) (w : World) (h : xAv.f a0 = some r) :
  Calls Tryd.prog 72 #[.int .u8 a0] w fun e w' => e = .returned (.bool r) ∧ Drawn0 w w' := by
 have H : (if a0 ≥ 48 then (some (decide (a0 ≤ 57))) else (some false)) = some r := h
 clear h
 by_cases c2 : a0 ≥ 48
 ·rw [if_pos c2] at H
  have c2b0 : decide (48 ≤ a0) = true := decide_eq_true c2
  clear c2
  obtain rfl := Option.some.inj H
  go_enter Tryd.func72, Tryd.ntmps72
  go_wp2
  go_ret
  exact ⟨by first | rfl | (simp; done) | (simp [*]; done), by repeat (first | exact Drawn0.refl _ | apply Drawn0.step)⟩
 ·rw [if_neg c2] at H
  have c2b0 : decide (48 ≤ a0) = false := decide_eq_false c2
  clear c2
  obtain rfl := Option.some.inj H
  go_enter Tryd.func72, Tryd.ntmps72
  go_wp2
  go_ret
  exact ⟨by first | rfl | (simp; done) | (simp [*]; done), by repeat (first | exact Drawn0.refl _ | apply Drawn0.step)⟩

end Go.Proofs.YtknbfhhmjbnemaaDoor.P
end
section
namespace Go.Proofs.YtknbfhhmjbnemaaDoor.P
open Go.RowKit Go.Proofs.YtknbfhhmjbnemaaDoorW.PrintWords Go.Proofs.YtknbfhhmjbnemaaDoorW.PrintLast Go.Proofs.YtknbfhhmjbnemaaDoorW.PrintMore
attribute [local go_sem] xB9 xBe

/-! ### xBh: function 87 -/
def xBh.f (a0 : Int) : Option (Bool) := (xAv.f a0).bind fun t208 => (if t208 = true then (some true) else (if a0 ≥ 97 then (some (decide (a0 ≤ 102))) else (some false)))
set_option maxHeartbeats 8000000 in
set_option maxRecDepth 100000 in
theorem xBh.calls (a0 : Int) (r : Bool) (w : World) (h : xBh.f a0 = some r) :
  Calls Tryd.prog 87 #[.int .u8 a0] w fun e w' => e = .returned (.bool r) ∧ Drawn0 w w' := by
 have H : ((xAv.f a0).bind fun t208 => (if t208 = true then (some true) else (if a0 ≥ 97 then (some (decide (a0 ≤ 102))) else (some false)))) = some r := h
 clear h
 replace H := Option.bind_eq_some_iff.mp H
 obtain ⟨t208, A20, H⟩ := H
 replace H : (if t208 = true then (some true) else (if a0 ≥ 97 then (some (decide (a0 ≤ 102))) else (some false))) = some r := H
 have A2 := Aside0.mk A20
 clear A20
 by_cases c3 : t208 = true
 ·subst c3
  have H1 : (some true) = some r := by rw [if_pos rfl] at H; exact H
  clear H
  have H := H1
  clear H1
  obtain rfl := Option.some.inj H
  go_enter Tryd.func87, Tryd.ntmps87
  go_wp2_with (first | ((with_reducible refine xAj (f := 72) rfl ?_); refine xB6 (some 4) rfl rfl Tryd.func72 (by kernel_rfl) rfl #[.int .u8 a0] rfl (by (try simp only [List.map_toArray, List.map_cons, List.map_nil]); first | done | rfl | (simp only [List.length_drop, List.length_take]; rfl)) ?_; (with_reducible refine (xAv.calls a0 true _ A2.out).mono ?_); rintro e w' ⟨rfl, ⟨nd, rfl⟩⟩; refine ⟨_, rfl, ?_⟩))
  go_ret
  exact ⟨by first | rfl | (simp; done) | (simp [*]; done), by repeat (first | exact Drawn0.refl _ | apply Drawn0.step)⟩
 ·replace c3 := Bool.eq_false_iff.mpr c3
  subst c3
  have H1 : (if a0 ≥ 97 then (some (decide (a0 ≤ 102))) else (some false)) = some r := by rw [if_neg (show ¬ (false = true) by decide)] at H; exact H
  clear H
  have H := H1
  clear H1
  by_cases c4 : a0 ≥ 97
  ·rw [if_pos c4] at H
   have c4b0 : decide (97 ≤ a0) = true := decide_eq_true c4
   clear c4
   obtain rfl := Option.some.inj H
   go_enter Tryd.func87, Tryd.ntmps87
   go_wp2_with (first | ((with_reducible refine xAj (f := 72) rfl ?_); refine xB6 (some 4) rfl rfl Tryd.func72 (by kernel_rfl) rfl #[.int .u8 a0] rfl (by (try simp only [List.map_toArray, List.map_cons, List.map_nil]); first | done | rfl | (simp only [List.length_drop, List.length_take]; rfl)) ?_; (with_reducible refine (xAv.calls a0 false _ A2.out).mono ?_); rintro e w' ⟨rfl, ⟨nd, rfl⟩⟩; refine ⟨_, rfl, ?_⟩))
   go_ret
   exact ⟨by first | rfl | (simp; done) | (simp [*]; done), by repeat (first | exact Drawn0.refl _ | apply Drawn0.step)⟩
  ·rw [if_neg c4] at H
   have c4b0 : decide (97 ≤ a0) = false := decide_eq_false c4
   clear c4
   obtain rfl := Option.some.inj H
   go_enter Tryd.func87, Tryd.ntmps87
   go_wp2_with (first | ((with_reducible refine xAj (f := 72) rfl ?_); refine xB6 (some 4) rfl rfl Tryd.func72 (by kernel_rfl) rfl #[.int .u8 a0] rfl (by (try simp only [List.map_toArray, List.map_cons, List.map_nil]); first | done | rfl | (simp only [List.length_drop, List.length_take]; rfl)) ?_; (with_reducible refine (xAv.calls a0 false _ A2.out).mono ?_); rintro e w' ⟨rfl, ⟨nd, rfl⟩⟩; refine ⟨_, rfl, ?_⟩))
   go_ret
   exact ⟨by first | rfl | (simp; done) | (simp [*]; done), by repeat (first | exact Drawn0.refl _ | apply Drawn0.step)⟩

end Go.Proofs.YtknbfhhmjbnemaaDoor.P
end
section
namespace Go.Proofs.YtknbfhhmjbnemaaDoor.P
open Go.RowKit Go.Proofs.YtknbfhhmjbnemaaDoorW.PrintWords Go.Proofs.YtknbfhhmjbnemaaDoorW.PrintLast Go.Proofs.YtknbfhhmjbnemaaDoorW.PrintMore
attribute [local go_sem] xB9 xBe

/-! ### xB2: function 71 -/
def xB2.f (a0 : Int) : Option (Bool) := if a0 ≥ 97 then (some (decide (a0 ≤ 122))) else (some false)
set_option maxHeartbeats 8000000 in
set_option maxRecDepth 100000 in
theorem xB2.calls (a0 : Int) (r : Bool) (w : World) (h : xB2.f a0 = some r) :
  Calls Tryd.prog 71 #[.int .u8 a0] w fun e w' => e = .returned (.bool r) ∧ Drawn0 w w' := by
 have H : (if a0 ≥ 97 then (some (decide (a0 ≤ 122))) else (some false)) = some r := h
 clear h
 by_cases c2 : a0 ≥ 97
 ·rw [if_pos c2] at H
  have c2b0 : decide (97 ≤ a0) = true := decide_eq_true c2
  clear c2
  obtain rfl := Option.some.inj H
  go_enter Tryd.func71, Tryd.ntmps71
  go_wp2
  go_ret
  exact ⟨by first | rfl | (simp; done) | (simp [*]; done), by repeat (first | exact Drawn0.refl _ | apply Drawn0.step)⟩
 ·rw [if_neg c2] at H
  have c2b0 : decide (97 ≤ a0) = false := decide_eq_false c2
  clear c2
  obtain rfl := Option.some.inj H
  go_enter Tryd.func71, Tryd.ntmps71
  go_wp2
  go_ret
  exact ⟨by first | rfl | (simp; done) | (simp [*]; done), by repeat (first | exact Drawn0.refl _ | apply Drawn0.step)⟩

end Go.Proofs.YtknbfhhmjbnemaaDoor.P
end
section
namespace Go.Proofs.YtknbfhhmjbnemaaDoor.P
open Go.RowKit Go.Proofs.YtknbfhhmjbnemaaDoorW.PrintWords Go.Proofs.YtknbfhhmjbnemaaDoorW.PrintLast Go.Proofs.YtknbfhhmjbnemaaDoorW.PrintMore
attribute [local go_sem] xB9 xBe

/-! ### xBd: function 86 -/
def xBd.f (a0 : Int) : Option (Bool) := (xB2.f a0).bind fun t206 => (if t206 = true then (some true) else ((xAv.f a0).bind fun t207 => (if t207 = true then (some true) else (some (a0 == 95)))))
set_option maxHeartbeats 8000000 in
set_option maxRecDepth 100000 in
theorem xBd.calls (a0 : Int) (r : Bool) (w : World) (h : xBd.f a0 = some r) :
  Calls Tryd.prog 86 #[.int .u8 a0] w fun e w' => e = .returned (.bool r) ∧ Drawn0 w w' := by
 have H : ((xB2.f a0).bind fun t206 => (if t206 = true then (some true) else ((xAv.f a0).bind fun t207 => (if t207 = true then (some true) else (some (a0 == 95)))))) = some r := h
 clear h
 replace H := Option.bind_eq_some_iff.mp H
 obtain ⟨t206, A20, H⟩ := H
 replace H : (if t206 = true then (some true) else ((xAv.f a0).bind fun t207 => (if t207 = true then (some true) else (some (a0 == 95))))) = some r := H
 have A2 := Aside0.mk A20
 clear A20
 by_cases c3 : t206 = true
 ·subst c3
  have H1 : (some true) = some r := by rw [if_pos rfl] at H; exact H
  clear H
  have H := H1
  clear H1
  obtain rfl := Option.some.inj H
  go_enter Tryd.func86, Tryd.ntmps86
  go_wp2_with (first | ((with_reducible refine xAj (f := 71) rfl ?_); refine xB6 (some 4) rfl rfl Tryd.func71 (by kernel_rfl) rfl #[.int .u8 a0] rfl (by (try simp only [List.map_toArray, List.map_cons, List.map_nil]); first | done | rfl | (simp only [List.length_drop, List.length_take]; rfl)) ?_; (with_reducible refine (xB2.calls a0 true _ A2.out).mono ?_); rintro e w' ⟨rfl, ⟨nd, rfl⟩⟩; refine ⟨_, rfl, ?_⟩))
  go_ret
  exact ⟨by first | rfl | (simp; done) | (simp [*]; done), by repeat (first | exact Drawn0.refl _ | apply Drawn0.step)⟩
 ·replace c3 := Bool.eq_false_iff.mpr c3
  subst c3
  have H1 : ((xAv.f a0).bind fun t207 => (if t207 = true then (some true) else (some (a0 == 95)))) = some r := by rw [if_neg (show ¬ (false = true) by decide)] at H; exact H
  clear H
  have H := H1
  clear H1
  replace H := Option.bind_eq_some_iff.mp H
  obtain ⟨t207, A40, H⟩ := H
  replace H : (if t207 = true then (some true) else (some (a0 == 95))) = some r := H
  have A4 := Aside0.mk A40
  clear A40
  by_cases c5 : t207 = true
  ·subst c5
   have H1 : (some true) = some r := by rw [if_pos rfl] at H; exact H
   clear H
   have H := H1
   clear H1
   obtain rfl := Option.some.inj H
   go_enter Tryd.func86, Tryd.ntmps86
   go_wp2_with (first | ((with_reducible refine xAj (f := 71) rfl ?_); refine xB6 (some 4) rfl rfl Tryd.func71 (by kernel_rfl) rfl #[.int .u8 a0] rfl (by (try simp only [List.map_toArray, List.map_cons, List.map_nil]); first | done | rfl | (simp only [List.length_drop, List.length_take]; rfl)) ?_; (with_reducible refine (xB2.calls a0 false _ A2.out).mono ?_); rintro e w' ⟨rfl, ⟨nd, rfl⟩⟩; refine ⟨_, rfl, ?_⟩) | (go_at_call 72; (with_reducible refine (xAv.calls a0 true _ A4.out).mono ?_); rintro e w' ⟨rfl, ⟨nd, rfl⟩⟩))
   go_ret
   exact ⟨by first | rfl | (simp; done) | (simp [*]; done), by repeat (first | exact Drawn0.refl _ | apply Drawn0.step)⟩
  ·replace c5 := Bool.eq_false_iff.mpr c5
   subst c5
   have H1 : (some (a0 == 95)) = some r := by rw [if_neg (show ¬ (false = true) by decide)] at H; exact H
   clear H
   have H := H1
   clear H1
   obtain rfl := Option.some.inj H
   go_enter Tryd.func86, Tryd.ntmps86
   go_wp2_with (first | ((with_reducible refine xAj (f := 71) rfl ?_); refine xB6 (some 4) rfl rfl Tryd.func71 (by kernel_rfl) rfl #[.int .u8 a0] rfl (by (try simp only [List.map_toArray, List.map_cons, List.map_nil]); first | done | rfl | (simp only [List.length_drop, List.length_take]; rfl)) ?_; (with_reducible refine (xB2.calls a0 false _ A2.out).mono ?_); rintro e w' ⟨rfl, ⟨nd, rfl⟩⟩; refine ⟨_, rfl, ?_⟩) | (go_at_call 72; (with_reducible refine (xAv.calls a0 false _ A4.out).mono ?_); rintro e w' ⟨rfl, ⟨nd, rfl⟩⟩))
   go_ret
   exact ⟨by first | rfl | (simp; done) | (simp [*]; done), by repeat (first | exact Drawn0.refl _ | apply Drawn0.step)⟩

end Go.Proofs.YtknbfhhmjbnemaaDoor.P
end
section
namespace Go.Proofs.YtknbfhhmjbnemaaDoor.P
open Go.RowKit Go.Proofs.YtknbfhhmjbnemaaDoorW.PrintWords Go.Proofs.YtknbfhhmjbnemaaDoorW.PrintLast Go.Proofs.YtknbfhhmjbnemaaDoorW.PrintMore
attribute [local go_sem] xB9 xBe

/-! ### xAe: function 73 -/
mutual
def xAe.l0 : Nat → ByteArray → Int → Int → Bool → Option (Int)
 | 0, _, _, _, _ => none
 | k + 1, x0, x1, x2, x7 => if x1 < (x0.size : Int) then (xAe.j1 k x0 x1 x2 x7) else (xAe.j1 k x0 x1 x2 false)
def xAe.j1 : Nat → ByteArray → Int → Int → Bool → Option (Int)
 | 0, _, _, _, _ => none
 | k + 1, x0, x1, x2, x14 => if x14 = true then (if x2 = 0 then (if 0 ≤ x1 then (if x1 < (x0.size : Int) then ((xBd.f (bt x0 x1)).bind fun t209 => (if t209 = true then (xAe.l0 k x0 (wrap64 (x1 + 1)) x2 t209) else (xAe.l0 k x0 x1 x2 t209))) else (none)) else (none)) else (if x2 = 1 then (if 0 ≤ x1 then (if x1 < (x0.size : Int) then ((xAv.f (bt x0 x1)).bind fun t210 => (if t210 = true then (xAe.l0 k x0 (wrap64 (x1 + 1)) x2 t210) else (xAe.l0 k x0 x1 x2 t210))) else (none)) else (none)) else (if 0 ≤ x1 then (if x1 < (x0.size : Int) then ((xBh.f (bt x0 x1)).bind fun t211 => (if t211 = true then (xAe.l0 k x0 (wrap64 (x1 + 1)) x2 t211) else (xAe.l0 k x0 x1 x2 t211))) else (none)) else (none)))) else (some x1)
end
def xAe.f (k : Nat) (a0 : ByteArray) (a1 : Int) (a2 : Int) : Option (Int) := xAe.l0 k a0 a1 a2 true
set_option maxHeartbeats 8000000 in
set_option maxRecDepth 100000 in
theorem xAe.calls (k : Nat) (a0 : ByteArray) (a1 : Int) (a2 : Int) (r : Int) (w : World) (h : xAe.f k a0 a1 a2 = some r) :
  Calls Tryd.prog 73 #[.string a0, .int .i64 a1, .int .i64 a2] w fun e w' => e = .returned (.int .i64 r) ∧ Drawn0 w w' := by
 have H : (xAe.l0 k a0 a1 a2 true) = some r := h
 clear h
 have H' := Aside0.mk H
 clear H
 go_enter Tryd.func73, Tryd.ntmps73
 go_wp2
 go_loopg [1, 7] k (fun kq v1 v7 w' => ∃ (x1_1 : Int) (x7_1 : Bool), v1 = .int .i64 x1_1 ∧ v7 = .bool x7_1 ∧ Aside0 (xAe.l0 kq a0 x1_1 a2 x7_1 = some r) ∧ Aside0 (kq ≤ k) ∧ Drawn0 w w')
 case atStart => exact ⟨(a1), (true), (by first | rfl | (simp; done) | (simp [*]; done)), (by first | rfl | (simp; done) | (simp [*]; done)), H', ⟨Nat.le_refl _⟩, by repeat (first | exact Drawn0.refl _ | apply Drawn0.step)⟩
 case round =>
  clear H'
  try clear p2
  obtain ⟨x1_1, x7_1, rfl, rfl, HA, HK1, ⟨m1, rfl⟩⟩ := hrel
  cases gk with
  | zero => exact absurd HA.out (by simp [xAe.l0])
  | succ k1 =>
   have H := HA.out
   clear HA
   simp only [xAe.l0] at H
   have HC4 := Aside0.mk H
   clear H
   go_upto_region 2 with (fail)
   go_cut [14] (fun v14 wc => ∃ (kq : Nat) (x14_3 : Bool), v14 = .bool x14_3 ∧ Aside0 (xAe.j1 kq a0 x1_1 a2 x14_3 = some r) ∧ Aside0 (kq ≤ k1) ∧ Drawn0 w wc)
   case first =>
    have H := HC4.out
    clear HC4
    by_cases c5 : x1_1 < (a0.size : Int)
    ·rw [if_pos c5] at H
     have c5b0 : decide (x1_1 < (a0.size : Int)) = true := decide_eq_true c5
     clear c5
     (first | rw [c5b0] | (simp only [xB0, xB1]; rw [c5b0]) | skip)
     have H' := Aside0.mk H
     clear H
     go_wp2
     go_meet
     case rel => exact ⟨_, (x7_1), (by first | rfl | (simp; done) | (simp [*]; done)), H', ⟨by have := HK1.out; first | omega | exact Nat.le_refl _⟩, by repeat (first | exact Drawn0.refl _ | apply Drawn0.step)⟩
    ·rw [if_neg c5] at H
     have c5b0 : decide (x1_1 < (a0.size : Int)) = false := decide_eq_false c5
     clear c5
     (first | rw [c5b0] | (simp only [xB0, xB1]; rw [c5b0]) | skip)
     have H' := Aside0.mk H
     clear H
     go_wp2
     go_meet
     case rel => exact ⟨_, (false), (by first | rfl | (simp; done) | (simp [*]; done)), H', ⟨by have := HK1.out; first | omega | exact Nat.le_refl _⟩, by repeat (first | exact Drawn0.refl _ | apply Drawn0.step)⟩
   case rest =>
    clear HC4
    try clear p2
    try clear c5
    try clear c5b0
    try clear p2
    obtain ⟨kq, x14_3, rfl, HA, HJ3, ⟨mc3, rfl⟩⟩ := hcut
    cases kq with
    | zero => exact absurd HA.out (by simp [xAe.j1])
    | succ kj3 =>
     have H := HA.out
     clear HA
     simp only [xAe.j1] at H
     by_cases c6 : x14_3 = true
     ·subst c6
      have H1 : (if a2 = 0 then (if 0 ≤ x1_1 then (if x1_1 < (a0.size : Int) then ((xBd.f (bt a0 x1_1)).bind fun t209 => (if t209 = true then (xAe.l0 kj3 a0 (wrap64 (x1_1 + 1)) a2 t209) else (xAe.l0 kj3 a0 x1_1 a2 t209))) else (none)) else (none)) else (if a2 = 1 then (if 0 ≤ x1_1 then (if x1_1 < (a0.size : Int) then ((xAv.f (bt a0 x1_1)).bind fun t210 => (if t210 = true then (xAe.l0 kj3 a0 (wrap64 (x1_1 + 1)) a2 t210) else (xAe.l0 kj3 a0 x1_1 a2 t210))) else (none)) else (none)) else (if 0 ≤ x1_1 then (if x1_1 < (a0.size : Int) then ((xBh.f (bt a0 x1_1)).bind fun t211 => (if t211 = true then (xAe.l0 kj3 a0 (wrap64 (x1_1 + 1)) a2 t211) else (xAe.l0 kj3 a0 x1_1 a2 t211))) else (none)) else (none)))) = some r := by rw [if_pos rfl] at H; exact H
      clear H
      have H := H1
      clear H1
      by_cases c7 : a2 = 0
      ·rw [if_pos c7] at H
       have c7b0 : (a2 == 0) = true := beq_iff_eq.mpr c7
       have c7b1 : (a2 != 0) = false := bne_eq_false_iff_eq.mpr c7
       clear c7
       by_cases c8 : 0 ≤ x1_1
       ·rw [if_pos c8] at H
        have c8b0 : decide (0 ≤ x1_1) = true := decide_eq_true c8
        clear c8
        by_cases c9 : x1_1 < (a0.size : Int)
        ·rw [if_pos c9] at H
         have c9b0 : decide (x1_1 < (a0.size : Int)) = true := decide_eq_true c9
         clear c9
         replace H := Option.bind_eq_some_iff.mp H
         obtain ⟨t209, A110, H⟩ := H
         replace H : (if t209 = true then (xAe.l0 kj3 a0 (wrap64 (x1_1 + 1)) a2 t209) else (xAe.l0 kj3 a0 x1_1 a2 t209)) = some r := H
         have A11 := Aside0.mk A110
         clear A110
         by_cases c12 : t209 = true
         ·subst c12
          have H1 : (xAe.l0 kj3 a0 (wrap64 (x1_1 + 1)) a2 true) = some r := by rw [if_pos rfl] at H; exact H
          clear H
          have H := H1
          clear H1
          have H' := Aside0.mk H
          clear H
          have p10 : 0 ≤ (x1_1 : Int) := of_decide_eq_true (by first | (with_reducible assumption) | assumption)
          have q10 : x1_1 < (a0.size : Int) := of_decide_eq_true (by first | (with_reducible assumption) | assumption)
          have hx10 := xCn a0 x1_1
          replace p10 := eq_true p10
          replace q10 := eq_true q10
          go_wp2_with (first | ((with_reducible refine xAj (f := 86) rfl ?_); refine xB6 (some 25) rfl rfl Tryd.func86 (by kernel_rfl) rfl #[.int .u8 (bt a0 x1_1)] rfl (by (try simp only [List.map_toArray, List.map_cons, List.map_nil]); first | done | rfl | (simp only [List.length_drop, List.length_take]; rfl)) ?_; (with_reducible refine (xBd.calls (bt a0 x1_1) true _ A11.out).mono ?_); rintro e w' ⟨rfl, ⟨nd, rfl⟩⟩; refine ⟨_, rfl, ?_⟩))
          go_roundg kj3
          case measure => have := HK1.out; have := HJ3.out; omega
          case rel => exact ⟨(wrap64 (x1_1 + 1)), (true), (by first | rfl | (simp; done) | (simp [*]; done)), (by first | rfl | (simp; done) | (simp [*]; done)), H', ⟨by have := HK1.out; have := HJ3.out; omega⟩, by repeat (first | exact Drawn0.refl _ | apply Drawn0.step)⟩
         ·replace c12 := Bool.eq_false_iff.mpr c12
          subst c12
          have H1 : (xAe.l0 kj3 a0 x1_1 a2 false) = some r := by rw [if_neg (show ¬ (false = true) by decide)] at H; exact H
          clear H
          have H := H1
          clear H1
          have H' := Aside0.mk H
          clear H
          have p10 : 0 ≤ (x1_1 : Int) := of_decide_eq_true (by first | (with_reducible assumption) | assumption)
          have q10 : x1_1 < (a0.size : Int) := of_decide_eq_true (by first | (with_reducible assumption) | assumption)
          have hx10 := xCn a0 x1_1
          replace p10 := eq_true p10
          replace q10 := eq_true q10
          go_wp2_with (first | ((with_reducible refine xAj (f := 86) rfl ?_); refine xB6 (some 25) rfl rfl Tryd.func86 (by kernel_rfl) rfl #[.int .u8 (bt a0 x1_1)] rfl (by (try simp only [List.map_toArray, List.map_cons, List.map_nil]); first | done | rfl | (simp only [List.length_drop, List.length_take]; rfl)) ?_; (with_reducible refine (xBd.calls (bt a0 x1_1) false _ A11.out).mono ?_); rintro e w' ⟨rfl, ⟨nd, rfl⟩⟩; refine ⟨_, rfl, ?_⟩))
          go_roundg kj3
          case measure => have := HK1.out; have := HJ3.out; omega
          case rel => exact ⟨(x1_1), (false), (by first | rfl | (simp; done) | (simp [*]; done)), (by first | rfl | (simp; done) | (simp [*]; done)), H', ⟨by have := HK1.out; have := HJ3.out; omega⟩, by repeat (first | exact Drawn0.refl _ | apply Drawn0.step)⟩
        ·rw [if_neg c9] at H
         exact absurd H (by simp)
       ·rw [if_neg c8] at H
        exact absurd H (by simp)
      ·rw [if_neg c7] at H
       have c7b0 : (a2 == 0) = false := beq_eq_false_iff_ne.mpr c7
       have c7b1 : (a2 != 0) = true := bne_iff_ne.mpr c7
       by_cases c13 : a2 = 1
       ·rw [if_pos c13] at H
        have c13b0 : (a2 == 1) = true := beq_iff_eq.mpr c13
        have c13b1 : (a2 != 1) = false := bne_eq_false_iff_eq.mpr c13
        clear c13
        by_cases c14 : 0 ≤ x1_1
        ·rw [if_pos c14] at H
         have c14b0 : decide (0 ≤ x1_1) = true := decide_eq_true c14
         clear c14
         by_cases c15 : x1_1 < (a0.size : Int)
         ·rw [if_pos c15] at H
          have c15b0 : decide (x1_1 < (a0.size : Int)) = true := decide_eq_true c15
          clear c15
          replace H := Option.bind_eq_some_iff.mp H
          obtain ⟨t210, A170, H⟩ := H
          replace H : (if t210 = true then (xAe.l0 kj3 a0 (wrap64 (x1_1 + 1)) a2 t210) else (xAe.l0 kj3 a0 x1_1 a2 t210)) = some r := H
          have A17 := Aside0.mk A170
          clear A170
          by_cases c18 : t210 = true
          ·subst c18
           have H1 : (xAe.l0 kj3 a0 (wrap64 (x1_1 + 1)) a2 true) = some r := by rw [if_pos rfl] at H; exact H
           clear H
           have H := H1
           clear H1
           have H' := Aside0.mk H
           clear H
           have p16 : 0 ≤ (x1_1 : Int) := of_decide_eq_true (by first | (with_reducible assumption) | assumption)
           have q16 : x1_1 < (a0.size : Int) := of_decide_eq_true (by first | (with_reducible assumption) | assumption)
           have hx16 := xCn a0 x1_1
           replace p16 := eq_true p16
           replace q16 := eq_true q16
           go_wp2_with (first | ((with_reducible refine xAj (f := 72) rfl ?_); refine xB6 (some 31) rfl rfl Tryd.func72 (by kernel_rfl) rfl #[.int .u8 (bt a0 x1_1)] rfl (by (try simp only [List.map_toArray, List.map_cons, List.map_nil]); first | done | rfl | (simp only [List.length_drop, List.length_take]; rfl)) ?_; (with_reducible refine (xAv.calls (bt a0 x1_1) true _ A17.out).mono ?_); rintro e w' ⟨rfl, ⟨nd, rfl⟩⟩; refine ⟨_, rfl, ?_⟩))
           go_roundg kj3
           case measure => have := HK1.out; have := HJ3.out; omega
           case rel => exact ⟨(wrap64 (x1_1 + 1)), (true), (by first | rfl | (simp; done) | (simp [*]; done)), (by first | rfl | (simp; done) | (simp [*]; done)), H', ⟨by have := HK1.out; have := HJ3.out; omega⟩, by repeat (first | exact Drawn0.refl _ | apply Drawn0.step)⟩
          ·replace c18 := Bool.eq_false_iff.mpr c18
           subst c18
           have H1 : (xAe.l0 kj3 a0 x1_1 a2 false) = some r := by rw [if_neg (show ¬ (false = true) by decide)] at H; exact H
           clear H
           have H := H1
           clear H1
           have H' := Aside0.mk H
           clear H
           have p16 : 0 ≤ (x1_1 : Int) := of_decide_eq_true (by first | (with_reducible assumption) | assumption)
           have q16 : x1_1 < (a0.size : Int) := of_decide_eq_true (by first | (with_reducible assumption) | assumption)
           have hx16 := xCn a0 x1_1
           replace p16 := eq_true p16
           replace q16 := eq_true q16
           go_wp2_with (first | ((with_reducible refine xAj (f := 72) rfl ?_); refine xB6 (some 31) rfl rfl Tryd.func72 (by kernel_rfl) rfl #[.int .u8 (bt a0 x1_1)] rfl (by (try simp only [List.map_toArray, List.map_cons, List.map_nil]); first | done | rfl | (simp only [List.length_drop, List.length_take]; rfl)) ?_; (with_reducible refine (xAv.calls (bt a0 x1_1) false _ A17.out).mono ?_); rintro e w' ⟨rfl, ⟨nd, rfl⟩⟩; refine ⟨_, rfl, ?_⟩))
           go_roundg kj3
           case measure => have := HK1.out; have := HJ3.out; omega
           case rel => exact ⟨(x1_1), (false), (by first | rfl | (simp; done) | (simp [*]; done)), (by first | rfl | (simp; done) | (simp [*]; done)), H', ⟨by have := HK1.out; have := HJ3.out; omega⟩, by repeat (first | exact Drawn0.refl _ | apply Drawn0.step)⟩
         ·rw [if_neg c15] at H
          exact absurd H (by simp)
        ·rw [if_neg c14] at H
         exact absurd H (by simp)
       ·rw [if_neg c13] at H
        have c13b0 : (a2 == 1) = false := beq_eq_false_iff_ne.mpr c13
        have c13b1 : (a2 != 1) = true := bne_iff_ne.mpr c13
        by_cases c19 : 0 ≤ x1_1
        ·rw [if_pos c19] at H
         have c19b0 : decide (0 ≤ x1_1) = true := decide_eq_true c19
         clear c19
         by_cases c20 : x1_1 < (a0.size : Int)
         ·rw [if_pos c20] at H
          have c20b0 : decide (x1_1 < (a0.size : Int)) = true := decide_eq_true c20
          clear c20
          replace H := Option.bind_eq_some_iff.mp H
          obtain ⟨t211, A220, H⟩ := H
          replace H : (if t211 = true then (xAe.l0 kj3 a0 (wrap64 (x1_1 + 1)) a2 t211) else (xAe.l0 kj3 a0 x1_1 a2 t211)) = some r := H
          have A22 := Aside0.mk A220
          clear A220
          by_cases c23 : t211 = true
          ·subst c23
           have H1 : (xAe.l0 kj3 a0 (wrap64 (x1_1 + 1)) a2 true) = some r := by rw [if_pos rfl] at H; exact H
           clear H
           have H := H1
           clear H1
           have H' := Aside0.mk H
           clear H
           have p21 : 0 ≤ (x1_1 : Int) := of_decide_eq_true (by first | (with_reducible assumption) | assumption)
           have q21 : x1_1 < (a0.size : Int) := of_decide_eq_true (by first | (with_reducible assumption) | assumption)
           have hx21 := xCn a0 x1_1
           replace p21 := eq_true p21
           replace q21 := eq_true q21
           go_wp2_with (first | ((with_reducible refine xAj (f := 87) rfl ?_); refine xB6 (some 19) rfl rfl Tryd.func87 (by kernel_rfl) rfl #[.int .u8 (bt a0 x1_1)] rfl (by (try simp only [List.map_toArray, List.map_cons, List.map_nil]); first | done | rfl | (simp only [List.length_drop, List.length_take]; rfl)) ?_; (with_reducible refine (xBh.calls (bt a0 x1_1) true _ A22.out).mono ?_); rintro e w' ⟨rfl, ⟨nd, rfl⟩⟩; refine ⟨_, rfl, ?_⟩))
           go_roundg kj3
           case measure => have := HK1.out; have := HJ3.out; omega
           case rel => exact ⟨(wrap64 (x1_1 + 1)), (true), (by first | rfl | (simp; done) | (simp [*]; done)), (by first | rfl | (simp; done) | (simp [*]; done)), H', ⟨by have := HK1.out; have := HJ3.out; omega⟩, by repeat (first | exact Drawn0.refl _ | apply Drawn0.step)⟩
          ·replace c23 := Bool.eq_false_iff.mpr c23
           subst c23
           have H1 : (xAe.l0 kj3 a0 x1_1 a2 false) = some r := by rw [if_neg (show ¬ (false = true) by decide)] at H; exact H
           clear H
           have H := H1
           clear H1
           have H' := Aside0.mk H
           clear H
           have p21 : 0 ≤ (x1_1 : Int) := of_decide_eq_true (by first | (with_reducible assumption) | assumption)
           have q21 : x1_1 < (a0.size : Int) := of_decide_eq_true (by first | (with_reducible assumption) | assumption)
           have hx21 := xCn a0 x1_1
           replace p21 := eq_true p21
           replace q21 := eq_true q21
           go_wp2_with (first | ((with_reducible refine xAj (f := 87) rfl ?_); refine xB6 (some 19) rfl rfl Tryd.func87 (by kernel_rfl) rfl #[.int .u8 (bt a0 x1_1)] rfl (by (try simp only [List.map_toArray, List.map_cons, List.map_nil]); first | done | rfl | (simp only [List.length_drop, List.length_take]; rfl)) ?_; (with_reducible refine (xBh.calls (bt a0 x1_1) false _ A22.out).mono ?_); rintro e w' ⟨rfl, ⟨nd, rfl⟩⟩; refine ⟨_, rfl, ?_⟩))
           go_roundg kj3
           case measure => have := HK1.out; have := HJ3.out; omega
           case rel => exact ⟨(x1_1), (false), (by first | rfl | (simp; done) | (simp [*]; done)), (by first | rfl | (simp; done) | (simp [*]; done)), H', ⟨by have := HK1.out; have := HJ3.out; omega⟩, by repeat (first | exact Drawn0.refl _ | apply Drawn0.step)⟩
         ·rw [if_neg c20] at H
          exact absurd H (by simp)
        ·rw [if_neg c19] at H
         exact absurd H (by simp)
     ·replace c6 := Bool.eq_false_iff.mpr c6
      subst c6
      have H1 : (some x1_1) = some r := by rw [if_neg (show ¬ (false = true) by decide)] at H; exact H
      clear H
      have H := H1
      clear H1
      obtain rfl := Option.some.inj H
      go_wp2
      go_ret
      exact ⟨by first | rfl | (simp; done) | (simp [*]; done), by repeat (first | exact Drawn0.refl _ | apply Drawn0.step)⟩

end Go.Proofs.YtknbfhhmjbnemaaDoor.P
end
section
namespace Go.Proofs.YtknbfhhmjbnemaaDoor.P
open Go.RowKit Go.Proofs.YtknbfhhmjbnemaaDoorW.PrintWords Go.Proofs.YtknbfhhmjbnemaaDoorW.PrintLast Go.Proofs.YtknbfhhmjbnemaaDoorW.PrintMore
attribute [local go_sem] xB9 xBe

/-! ### xBs: function 74 -/
def xBs.f (a0 : ByteArray) (a1 : Int) : Option (Bool) := if a1 ≥ (a0.size : Int) then (some true) else (if 0 ≤ a1 then (if a1 < (a0.size : Int) then ((xB2.f (bt a0 a1)).bind fun t212 => (if t212 = true then (some false) else (some ((bt a0 a1) != 95)))) else (none)) else (none))
set_option maxHeartbeats 8000000 in
set_option maxRecDepth 100000 in
theorem xBs.calls (a0 : ByteArray) (a1 : Int) (r : Bool) (w : World) (h : xBs.f a0 a1 = some r) :
  Calls Tryd.prog 74 #[.string a0, .int .i64 a1] w fun e w' => e = .returned (.bool r) ∧ Drawn0 w w' := by
 have H : (if a1 ≥ (a0.size : Int) then (some true) else (if 0 ≤ a1 then (if a1 < (a0.size : Int) then ((xB2.f (bt a0 a1)).bind fun t212 => (if t212 = true then (some false) else (some ((bt a0 a1) != 95)))) else (none)) else (none))) = some r := h
 clear h
 by_cases c3 : a1 ≥ (a0.size : Int)
 ·rw [if_pos c3] at H
  have c3b0 : decide ((a0.size : Int) ≤ a1) = true := decide_eq_true c3
  clear c3
  obtain rfl := Option.some.inj H
  go_enter Tryd.func74, Tryd.ntmps74
  go_wp2
  go_ret
  exact ⟨by first | rfl | (simp; done) | (simp [*]; done), by repeat (first | exact Drawn0.refl _ | apply Drawn0.step)⟩
 ·rw [if_neg c3] at H
  have c3b0 : decide ((a0.size : Int) ≤ a1) = false := decide_eq_false c3
  clear c3
  by_cases c4 : 0 ≤ a1
  ·rw [if_pos c4] at H
   have c4b0 : decide (0 ≤ a1) = true := decide_eq_true c4
   clear c4
   by_cases c5 : a1 < (a0.size : Int)
   ·rw [if_pos c5] at H
    have c5b0 : decide (a1 < (a0.size : Int)) = true := decide_eq_true c5
    clear c5
    replace H := Option.bind_eq_some_iff.mp H
    obtain ⟨t212, A70, H⟩ := H
    replace H : (if t212 = true then (some false) else (some ((bt a0 a1) != 95))) = some r := H
    have A7 := Aside0.mk A70
    clear A70
    by_cases c8 : t212 = true
    ·subst c8
     have H1 : (some false) = some r := by rw [if_pos rfl] at H; exact H
     clear H
     have H := H1
     clear H1
     obtain rfl := Option.some.inj H
     have p6 : 0 ≤ (a1 : Int) := of_decide_eq_true (by first | (with_reducible assumption) | assumption)
     have q6 : a1 < (a0.size : Int) := of_decide_eq_true (by first | (with_reducible assumption) | assumption)
     have hx6 := xCn a0 a1
     replace p6 := eq_true p6
     replace q6 := eq_true q6
     go_enter Tryd.func74, Tryd.ntmps74
     go_wp2_with (first | (go_at_call 71; (with_reducible refine (xB2.calls (bt a0 a1) true _ A7.out).mono ?_); rintro e w' ⟨rfl, ⟨nd, rfl⟩⟩))
     go_ret
     exact ⟨by first | rfl | (simp; done) | (simp [*]; done), by repeat (first | exact Drawn0.refl _ | apply Drawn0.step)⟩
    ·replace c8 := Bool.eq_false_iff.mpr c8
     subst c8
     have H1 : (some ((bt a0 a1) != 95)) = some r := by rw [if_neg (show ¬ (false = true) by decide)] at H; exact H
     clear H
     have H := H1
     clear H1
     obtain rfl := Option.some.inj H
     have p6 : 0 ≤ (a1 : Int) := of_decide_eq_true (by first | (with_reducible assumption) | assumption)
     have q6 : a1 < (a0.size : Int) := of_decide_eq_true (by first | (with_reducible assumption) | assumption)
     have hx6 := xCn a0 a1
     replace p6 := eq_true p6
     replace q6 := eq_true q6
     go_enter Tryd.func74, Tryd.ntmps74
     go_wp2_with (first | (go_at_call 71; (with_reducible refine (xB2.calls (bt a0 a1) false _ A7.out).mono ?_); rintro e w' ⟨rfl, ⟨nd, rfl⟩⟩; have p9 : 0 ≤ (a1 : Int) := of_decide_eq_true (by first | (with_reducible assumption) | assumption); have q9 : a1 < (a0.size : Int) := of_decide_eq_true (by first | (with_reducible assumption) | assumption); have hx9 := xCn a0 a1; replace p9 := eq_true p9; replace q9 := eq_true q9))
     go_ret
     exact ⟨by first | rfl | (simp; done) | (simp [*]; done), by repeat (first | exact Drawn0.refl _ | apply Drawn0.step)⟩
   ·rw [if_neg c5] at H
    exact absurd H (by simp)
  ·rw [if_neg c4] at H
   exact absurd H (by simp)

end Go.Proofs.YtknbfhhmjbnemaaDoor.P
end
section
namespace Go.Proofs.YtknbfhhmjbnemaaDoor.P
open Go.RowKit Go.Proofs.YtknbfhhmjbnemaaDoorW.PrintWords Go.Proofs.YtknbfhhmjbnemaaDoorW.PrintLast Go.Proofs.YtknbfhhmjbnemaaDoorW.PrintMore

/-! ref10's small functions, plainly -/
theorem xEm (c : Int) : xB2.f c = some (xC2 c) := by
 unfold xB2.f xC2
 by_cases h : c ≥ 97
 ·rw [if_pos h, decide_eq_true (show 97 ≤ c from h)]; simp
 ·rw [if_neg h, decide_eq_false (show ¬ 97 ≤ c from h)]; simp
theorem xDy (c : Int) : xAv.f c = some (xAx c) := by
 unfold xAv.f xAx
 by_cases h : c ≥ 48
 ·rw [if_pos h, decide_eq_true (show 48 ≤ c from h)]; simp
 ·rw [if_neg h, decide_eq_false (show ¬ 48 ≤ c from h)]; simp
theorem xKc (c : Int) : xBd.f c = some (xC6 c) := by
 unfold xBd.f xC6
 rw [xEm, xDy]
 simp only [Option.bind_some]
 cases xC2 c <;> cases xAx c <;> simp
theorem ref_hexy (c : Int) : xBh.f c = some (pHex c) := by
 unfold xBh.f pHex
 rw [xDy]
 simp only [Option.bind_some]
 cases xAx c
 ·by_cases h : c ≥ 97
  ·rw [if_neg (by decide), if_pos h, decide_eq_true (show 97 ≤ c from h)]; simp
  ·rw [if_neg (by decide), if_neg h, decide_eq_false (show ¬ 97 ≤ c from h)]; simp
 ·simp
def xGt (kind : Int) : Int → Bool := if kind = 0 then xC6 else if kind = 1 then xAx else pHex
theorem xIs (s : ByteArray) (kind : Int) (hs : s.size ≤ 140737488351232) : ∀ (f k i : Nat), s.size - i = f → i ≤ s.size → 2 * f + 4 < k → xAe.l0 k s (i : Int) kind true = some ((xB7 (xGt kind) s f i : Nat) : Int)
 | 0, k, i, hf, hi, hk => by
  obtain ⟨k, rfl⟩ : ∃ m, k = m + 2 := ⟨k - 2, by omega⟩
  rw [xAe.l0, if_neg (by omega), xAe.j1, if_neg (by decide)]
  rfl
 | f + 1, k, i, hf, hi, hk => by
  obtain ⟨k, rfl⟩ : ∃ m, k = m + 4 := ⟨k - 4, by omega⟩
  have h1 : (i : Int) < (s.size : Int) := by omega
  have h2 : (0 : Int) ≤ (i : Int) := by omega
  have e0 : wrap64 ((i : Int) + 1) = ((i + 1 : Nat) : Int) := by unfold wrap64; omega
  have ih := xIs s kind hs f (k + 2) (i + 1) (by omega) (by omega) (by omega)
  have hstop : ∀ t : Int, xAe.l0 (k + 2) s (i : Int) t false = some (i : Int) := fun t => by
   rw [xAe.l0, if_pos h1, xAe.j1, if_neg (by decide)]
  rw [xAe.l0, if_pos h1, xAe.j1, if_pos rfl]
  have hE : xB7 (xGt kind) s (f + 1) i = if xGt kind (bt s (i : Int)) = true then xB7 (xGt kind) s f (i + 1) else i := by
   show (if i < s.size ∧ xGt kind (bt s (i : Int)) = true then xB7 (xGt kind) s f (i + 1) else i) = _
   by_cases hp : xGt kind (bt s (i : Int)) = true
   ·rw [if_pos ⟨by omega, hp⟩, if_pos hp]
   ·rw [if_neg (fun h => hp h.2), if_neg hp]
  rw [hE]
  unfold xGt at ih ⊢
  by_cases k0 : kind = 0
  ·rw [if_pos k0] at ih ⊢
   rw [if_pos k0, if_pos h2, if_pos h1, xKc]
   simp only [Option.bind_some, e0]
   cases hp : xC6 (bt s (i : Int))
   ·rw [if_neg (by decide), if_neg (by decide), hstop]
   ·rw [if_pos rfl, if_pos rfl, ih]
  ·rw [if_neg k0] at ih ⊢
   rw [if_neg k0]
   by_cases k1 : kind = 1
   ·rw [if_pos k1] at ih ⊢
    rw [if_pos k1, if_pos h2, if_pos h1, xDy]
    simp only [Option.bind_some, e0]
    cases hp : xAx (bt s (i : Int))
    ·rw [if_neg (by decide), if_neg (by decide), hstop]
    ·rw [if_pos rfl, if_pos rfl, ih]
   ·rw [if_neg k1] at ih ⊢
    rw [if_neg k1, if_pos h2, if_pos h1, ref_hexy]
    simp only [Option.bind_some, e0]
    cases hp : pHex (bt s (i : Int))
    ·rw [if_neg (by decide), if_neg (by decide), hstop]
    ·rw [if_pos rfl, if_pos rfl, ih]
theorem xI8 (s : ByteArray) (kind : Int) (i : Nat) (hs : s.size ≤ 140737488351232) (hi : i ≤ s.size) : xAe.f (2 * s.size + 5) s (i : Int) kind = some ((xB7 (xGt kind) s (s.size - i) i : Nat) : Int) :=
 xIs s kind hs (s.size - i) _ i rfl hi (by omega)
theorem xIt (s : ByteArray) (i : Nat) (hi : i ≤ s.size) : xBs.f s (i : Int) = some (!xEc s i) := by
 unfold xBs.f xEc
 by_cases h : i < s.size
 ·rw [if_neg (by omega), if_pos (by omega), if_pos (by omega), xEm, decide_eq_true h]
  simp only [Option.bind_some]
  cases xC2 (bt s (i : Int))
  ·simp [bne]
  ·simp
 ·rw [if_pos (by omega), decide_eq_false h]; simp
/-- The number of figures. -/
def xD6 (l : List Int) : Int := l.foldl (fun n b => 10 * n + (b - 48)) 0
theorem xI9 (l : List Int) (b : Int) : xD6 (l ++ [b]) = 10 * xD6 l + (b - 48) := by
 unfold xD6; rw [List.foldl_append]; rfl
theorem xG7 : ∀ (l : List Int) (n : Int), 0 ≤ n → (∀ x ∈ l, 48 ≤ x ∧ x ≤ 57) → 0 ≤ l.foldl (fun n b => 10 * n + (b - 48)) n ∧ l.foldl (fun n b => 10 * n + (b - 48)) n < (n + 1) * (10 : Int) ^ l.length
 | [], n, h0, _ => by simp; omega
 | b :: l, n, h0, h => by
  have h2 := h b (List.mem_cons_self ..)
  have ih := xG7 l (10 * n + (b - 48)) (by omega) (fun x hx => h x (List.mem_cons_of_mem _ hx))
  rw [List.foldl_cons, List.length_cons, Int.pow_succ]
  refine ⟨ih.1, Int.lt_of_lt_of_le ih.2 ?_⟩
  have h3 : 10 * n + (b - 48) + 1 ≤ (n + 1) * 10 := by omega
  have h4 : (0 : Int) ≤ (10 : Int) ^ l.length := Int.le_of_lt (Int.pow_pos (by decide))
  calc (10 * n + (b - 48) + 1) * (10 : Int) ^ l.length ≤ ((n + 1) * 10) * (10 : Int) ^ l.length := Int.mul_le_mul_of_nonneg_right h3 h4
   _ = (n + 1) * ((10 : Int) ^ l.length * 10) := by rw [Int.mul_assoc, Int.mul_comm 10]
theorem xHk (l : List Int) (h : ∀ x ∈ l, 48 ≤ x ∧ x ≤ 57) : 0 ≤ xD6 l ∧ xD6 l < (10 : Int) ^ l.length := by
 have := xG7 l 0 (Int.le_refl _) h
 unfold xD6
 omega
theorem pow10_le {l : List Int} (h : l.length ≤ 9) : (10 : Int) ^ l.length ≤ 1000000000 := by
 have h2 : ∀ n : Nat, n ≤ 9 → (10 : Int) ^ n ≤ 1000000000 := by decide
 exact h2 _ h
def xGs (a0 : ByteArray) (a1 : Int) : Option (Int × ByteArray × Int × Int × Int × Int × Int) :=
 if 0 ≤ a1 ∧ a1 < (a0.size : Int) ∧ a0.size ≤ 140737488351232 then
  if xC2 (bt a0 a1) = true then
   if a1.toNat + 16 < xB7 xC6 a0 (a0.size - a1.toNat) a1.toNat then some (0, ⟨#[]⟩, 0, a1, (xB7 xC6 a0 (a0.size - a1.toNat) a1.toNat : Nat), 102, a1)
   else some (0, a0.extract a1.toNat (xB7 xC6 a0 (a0.size - a1.toNat) a1.toNat), 0, a1, (xB7 xC6 a0 (a0.size - a1.toNat) a1.toNat : Nat), 0, -1)
  else if xAx (bt a0 a1) = true then
   if a1.toNat + 9 < xB7 xAx a0 (a0.size - a1.toNat) a1.toNat then some (0, ⟨#[]⟩, 0, a1, (xB7 xAx a0 (a0.size - a1.toNat) a1.toNat : Nat), 102, a1)
   else if xEc a0 (xB7 xAx a0 (a0.size - a1.toNat) a1.toNat) = true then some (0, ⟨#[]⟩, 0, a1, (xB7 xAx a0 (a0.size - a1.toNat) a1.toNat : Nat), 101, (xB7 xAx a0 (a0.size - a1.toNat) a1.toNat : Nat))
   else some (1, ⟨#[]⟩, xD6 (((xAl a0).drop a1.toNat).take (xB7 xAx a0 (a0.size - a1.toNat) a1.toNat - a1.toNat)), a1, (xB7 xAx a0 (a0.size - a1.toNat) a1.toNat : Nat), 0, -1)
  else if bt a0 a1 = 36 then
   if xB7 pHex a0 (a0.size - (a1.toNat + 1)) (a1.toNat + 1) = a1.toNat + 1 then some (0, ⟨#[]⟩, 0, a1, (xB7 pHex a0 (a0.size - (a1.toNat + 1)) (a1.toNat + 1) : Nat), 101, (xB7 pHex a0 (a0.size - (a1.toNat + 1)) (a1.toNat + 1) : Nat))
   else if a1.toNat + 129 < xB7 pHex a0 (a0.size - (a1.toNat + 1)) (a1.toNat + 1) then some (0, ⟨#[]⟩, 0, a1, (xB7 pHex a0 (a0.size - (a1.toNat + 1)) (a1.toNat + 1) : Nat), 102, a1)
   else if xEc a0 (xB7 pHex a0 (a0.size - (a1.toNat + 1)) (a1.toNat + 1)) = true then some (0, ⟨#[]⟩, 0, a1, (xB7 pHex a0 (a0.size - (a1.toNat + 1)) (a1.toNat + 1) : Nat), 101, (xB7 pHex a0 (a0.size - (a1.toNat + 1)) (a1.toNat + 1) : Nat))
   else some (2, a0.extract (a1.toNat + 1) (xB7 pHex a0 (a0.size - (a1.toNat + 1)) (a1.toNat + 1)), 0, a1, (xB7 pHex a0 (a0.size - (a1.toNat + 1)) (a1.toNat + 1) : Nat), 0, -1)
  else if bt a0 a1 = 40 ∨ bt a0 a1 = 41 ∨ bt a0 a1 = 44 ∨ bt a0 a1 = 61 ∨ bt a0 a1 = 59 then some (3, a0.extract a1.toNat (a1.toNat + 1), 0, a1, a1 + 1, 0, -1)
  else some (0, ⟨#[]⟩, 0, a1, a1, 101, a1)
 else none
theorem xKd (s : ByteArray) (i : Nat) (hs : s.size ≤ 140737488351232) (hi : i ≤ s.size) : xAe.f (2 * s.size + 5) s (i : Int) 0 = some ((xB7 xC6 s (s.size - i) i : Nat) : Int) := xI8 s 0 i hs hi
theorem xKf (s : ByteArray) (i : Nat) (hs : s.size ≤ 140737488351232) (hi : i ≤ s.size) : xAe.f (2 * s.size + 5) s (i : Int) 1 = some ((xB7 xAx s (s.size - i) i : Nat) : Int) := xI8 s 1 i hs hi
theorem xKe (s : ByteArray) (i : Nat) (hs : s.size ≤ 140737488351232) (hi : i ≤ s.size) : xAe.f (2 * s.size + 5) s (i : Int) 2 = some ((xB7 pHex s (s.size - i) i : Nat) : Int) := xI8 s 2 i hs hi
/-- Where ref10's one stands: the result's cells, the token's. -/
structure OnS (w W : World) (b4 b8 : Nat) (k : Int) (s : ByteArray) (n a : Int) : Prop where
 bel : Below w.heap.size w W
 r4 : W.heap[b4]? = some (.cells #[.int .i64 0, .string ⟨#[]⟩, .int .i64 0, .int .i64 0] 60 (0, 0))
 t8 : W.heap[b8]? = some (.cells #[.int .i64 k, .string s, .int .i64 n, .int .i64 a] 60 (0, 0))
 g4 : w.heap.size ≤ b4
 g8 : w.heap.size ≤ b8
 ne : b4 ≠ b8
section
variable {w W W1 : World} {b4 b8 : Nat} {k n a k' n' a' : Int} {s s' : ByteArray}
theorem OnS.below (h : OnS w W b4 b8 k s n a) (hb : Below W.heap.size W W1) : OnS w W1 b4 b8 k s n a := ⟨xC5 h.bel h.bel.size hb, xAt h.r4 hb, xAt h.t8 hb, h.g4, h.g8, h.ne⟩
theorem OnS.drew (h : OnS w W b4 b8 k s n a) : OnS w W.drew b4 b8 k s n a := h.below (xCe (Below.refl _ _))
theorem OnS.call (h : OnS w W b4 b8 k s n a) (hd : Drawn0 W W1) : OnS w W1 b4 b8 k s n a := h.below hd.below
theorem OnS.set_ (h : OnS w W b4 b8 k s n a) (j : Nat) (u : Value) (hj : (#[.int .i64 k, .string s, .int .i64 n, .int .i64 a] : Array Value).setIfInBounds j u = #[.int .i64 k', .string s', .int .i64 n', .int .i64 a']) : OnS w (W.setCell ⟨b8, j, none⟩ u) b4 b8 k' s' n' a' :=
 ⟨h.bel.setCell h.g8 u, xAk (p := ⟨b8, j, none⟩) h.r4 h.ne _, xAh h.t8 j u hj, h.g4, h.g8, h.ne⟩
end
end Go.Proofs.YtknbfhhmjbnemaaDoor.P
end
section
namespace Go.Proofs.YtknbfhhmjbnemaaDoor.P
open Go.RowKit Go.Proofs.YtknbfhhmjbnemaaDoorW.PrintWords Go.Proofs.YtknbfhhmjbnemaaDoorW.PrintLast Go.Proofs.YtknbfhhmjbnemaaDoorW.PrintMore
attribute [local go_sem] xB9 xBe

/-! ### xBp: function 40 -/
-- IMPORTS Derived.Test.YtknbfhhmjbnemaaDoorRef10
def xBp.f (a0 : ByteArray) (a1 : Int) : Option (Int × ByteArray × Int × Int × Int × Int × Int) := xGs a0 a1
set_option maxHeartbeats 16000000 in
set_option maxRecDepth 100000 in
theorem xBp.calls (a0 : ByteArray) (a1 : Int) (r1 : Int) (r2 : ByteArray) (r3 : Int) (r4 : Int) (r5 : Int) (r6 : Int) (r7 : Int) (w : World) (h : xBp.f a0 a1 = some (r1, r2, r3, r4, r5, r6, r7)) :
    Calls Tryd.prog 40 #[.string a0, .int .i64 a1] w fun e w' => e = .returned (.tuple #[.agg #[.int .i64 r1, .string r2, .int .i64 r3, .int .i64 r4], .int .i64 r5, .int .i64 r6, .int .i64 r7]) ∧ Below w.heap.size w w' := by
  have hu60 := Tryd.underlying60
  unfold xBp.f xGs at h
  by_cases hc : 0 ≤ a1 ∧ a1 < (a0.size : Int) ∧ a0.size ≤ 140737488351232
  rw [if_pos hc] at h
  rotate_left 1
  · rw [if_neg hc] at h
    cases h
  obtain ⟨h0, h1, hs⟩ := hc
  obtain ⟨i, rfl⟩ : ∃ i : Nat, a1 = (i : Int) := ⟨a1.toNat, by omega⟩
  simp only [Int.toNat_natCast] at h
  have hi : i < a0.size := by omega
  have HS := Aside0.mk hs
  have HI := Aside0.mk hi
  have hb := xCn a0 i (by simpa using hi)
  simp only [Int.toNat_natCast] at hb
  obtain ⟨c, hcc⟩ : ∃ c, c = bt a0 (i : Int) := ⟨_, rfl⟩
  rw [← hcc] at hb h
  have HCC := Aside0.mk hcc
  clear hcc
  have HR4 := Aside0.mk (xBn w (.cells #[.int .i64 0, .string (⟨#[]⟩ : ByteArray), .int .i64 0, .int .i64 0] 60))
  have HB4 := Aside0.mk (xA1 (Below.refl w.heap.size w) (.cells #[.int .i64 0, .string (⟨#[]⟩ : ByteArray), .int .i64 0, .int .i64 0] 60))
  go_enter Tryd.func40, Tryd.ntmps40
  go_upto_region 3 with (first | ((with_reducible refine xBq (N := 8) rfl ?_); refine xBm ?hg (N := 8) ?hd (cs := #[.int .i64 0, .string (⟨#[]⟩ : ByteArray), .int .i64 0, .int .i64 0]) (t := 60) ?hr ?_; (case hd => rfl); (case hg => rfl); (case hr => first | (go_simp; done) | (go_simp; rfl)); intro b8 hg w3 hbox hb8; have BX := Aside0.mk hb8; have NB := Aside0.mk hbox; have HG := Aside0.mk hg; obtain ⟨c0, c1, c2, c3, f0, f1, f2, f3⟩ := ex4 hbox; clear hb8 hbox hg))
  generalize hW : World.setCell (World.setCell (World.setCell (World.setCell w3 _ _) _ _) _ _) _ _ = W3
  have OS := Aside0.mk (show OnS w W3 w.heap.size b8 0 ⟨#[]⟩ 0 (i : Int) from by
      have hge : w.heap.size + 1 ≤ b8 := by have := HG.out; rw [World.size_alloc] at this; omega
      have o3 : OnS w w3 w.heap.size b8 0 ⟨#[]⟩ 0 0 := ⟨xC5 HB4.out HB4.out.size BX.out, xAt HR4.out BX.out, NB.out, Nat.le_refl _, by omega, by omega⟩
      rw [← hW]; exact (((o3.set_ 0 (.int .i64 0) rfl).set_ 1 (.string ⟨#[]⟩) rfl).set_ 2 (.int .i64 0) rfl).set_ 3 (.int .i64 (i : Int)) rfl)
  clear hW BX NB HG c0 c1 c2 c3 f0 f1 f2 f3 HR4 HB4 hb
  go_upto_region 4 with (go_at_call 71; (with_reducible refine (xB2.calls c _ _ (xEm c)).mono ?_); rintro e wq1 ⟨rfl, hd⟩; have OS1 := Aside0.mk (OS.out.call hd); clear hd)
  go_upto_region 5 with (go_at_call 72; (with_reducible refine (xAv.calls c _ _ (xDy c)).mono ?_); rintro e wq2 ⟨rfl, hd⟩; have OS2 := Aside0.mk (OS1.out.call hd); clear hd)
  cases hL : xC2 c with
  | true =>
    rw [hL, if_pos rfl] at h
    have hE := xD7 xC6 a0 (a0.size - i) (i) (by omega)
    have hEa := xDk xC6 a0 (a0.size - i) (i)
    have HEN := Aside0.mk (xKd a0 i hs (by omega))
    generalize xB7 xC6 a0 (a0.size - i) i = e at *
    have q0 : (0 : Int) ≤ (i : Int) := by omega
    have q1 : (i : Int) ≤ 140737488351232 := by omega
    have q2 : (e : Int) ≤ 140737488351232 := by omega
    have q3 : (i : Int) ≤ (e : Int) := by omega
    have q4 : (e : Int) ≤ (a0.size : Int) := by omega
    clear hL
    go_upto_region 7 with (go_at_call 73; (with_reducible refine (xAe.calls _ a0 _ 0 _ _ HEN.out).mono ?_); rintro e wq3 ⟨rfl, hd⟩; have OS3 := Aside0.mk (OS2.out.call hd); clear hd)
    by_cases hl : i + 16 < e
    · skip
      rw [if_pos hl] at h
      simp only [Option.some.injEq, Prod.mk.injEq] at h
      obtain ⟨rfl, rfl, rfl, rfl, rfl, rfl, rfl⟩ := h
      have d1 : decide ((e : Int) - (i : Int) > 16) = true := decide_eq_true (by omega)
      have d2 : decide (16 < (e : Int) - (i : Int)) = true := decide_eq_true (by omega)
      obtain ⟨ht0, ht1, ht2, ht3⟩ := ey4 OS3.out.t8
      obtain ⟨hr0, hr1, hr2, hr3, hf0, hf1, hf2, hf3⟩ := ex4 OS3.out.r4
      go_wp2
      refine bodyPost_ret (xBl (rs := [.cell 4 60, .tmp 5, .tmp 6, .tmp 7]) rfl (by simp) (.cell w.heap.size 60 #[.int .i64 0, .string ⟨#[]⟩, .int .i64 0, .int .i64 (i : Int)] (0, 0) _ rfl (xAh ((xAh ((xAh ((xAh (OS3.out.r4) 0 (.int .i64 0) rfl)) 1 (.string ⟨#[]⟩) rfl)) 2 (.int .i64 0) rfl)) 3 (.int .i64 (i : Int)) rfl) Tryd.underlying60 rfl (by kernel_rfl) (.tmp (.tmp (.tmp .nil))))) rfl ?_
      exact ⟨by first | rfl | simp, ((((((((OS3.out.bel).setCell (p := ⟨w.heap.size, 0, none⟩) (Nat.le_refl _) (.int .i64 0))).setCell (p := ⟨w.heap.size, 1, none⟩) (Nat.le_refl _) (.string ⟨#[]⟩))).setCell (p := ⟨w.heap.size, 2, none⟩) (Nat.le_refl _) (.int .i64 0))).setCell (p := ⟨w.heap.size, 3, none⟩) (Nat.le_refl _) (.int .i64 (i : Int)))⟩
    · skip
      rw [if_neg hl] at h
      simp only [Option.some.injEq, Prod.mk.injEq] at h
      obtain ⟨rfl, rfl, rfl, rfl, rfl, rfl, rfl⟩ := h
      have d1 : decide ((e : Int) - (i : Int) > 16) = false := decide_eq_false (by omega)
      have d2 : decide (16 < (e : Int) - (i : Int)) = false := decide_eq_false (by omega)
      clear hl hE hEa
      obtain ⟨ht0, ht1, ht2, ht3, hg0, hg1, hg2, hg3⟩ := ex4 OS3.out.t8
      go_upto_region 10 with (fail)
      generalize hW : World.setCell wq3 _ _ = Ws4
      have OS4 := Aside0.mk (show OnS w Ws4 w.heap.size b8 0 (a0.extract i e) 0 (i : Int) from by rw [← hW]; exact OS3.out.set_ 1 (.string (a0.extract i e)) rfl)
      clear hW ht0 ht1 ht2 ht3 hg0 hg1 hg2 hg3
      obtain ⟨ht0, ht1, ht2, ht3⟩ := ey4 OS4.out.t8
      obtain ⟨hr0, hr1, hr2, hr3, hf0, hf1, hf2, hf3⟩ := ex4 OS4.out.r4
      go_wp2
      refine bodyPost_ret (xBl (rs := [.cell 4 60, .tmp 5, .tmp 6, .tmp 7]) rfl (by simp) (.cell w.heap.size 60 #[.int .i64 0, .string (a0.extract i e), .int .i64 0, .int .i64 (i : Int)] (0, 0) _ rfl (xAh ((xAh ((xAh ((xAh (OS4.out.r4) 0 (.int .i64 0) rfl)) 1 (.string (a0.extract i e)) rfl)) 2 (.int .i64 0) rfl)) 3 (.int .i64 (i : Int)) rfl) Tryd.underlying60 rfl (by kernel_rfl) (.tmp (.tmp (.tmp .nil))))) rfl ?_
      exact ⟨by first | rfl | simp, ((((((((OS4.out.bel).setCell (p := ⟨w.heap.size, 0, none⟩) (Nat.le_refl _) (.int .i64 0))).setCell (p := ⟨w.heap.size, 1, none⟩) (Nat.le_refl _) (.string (a0.extract i e)))).setCell (p := ⟨w.heap.size, 2, none⟩) (Nat.le_refl _) (.int .i64 0))).setCell (p := ⟨w.heap.size, 3, none⟩) (Nat.le_refl _) (.int .i64 (i : Int)))⟩
  | false =>
    rw [hL, if_neg (by decide)] at h
    clear hL
    cases hF : xAx c with
    | true =>
      rw [hF, if_pos rfl] at h
      have hE := xD7 xAx a0 (a0.size - i) (i) (by omega)
      have hEa := xDk xAx a0 (a0.size - i) (i)
      have HEN := Aside0.mk (xKf a0 i hs (by omega))
      generalize xB7 xAx a0 (a0.size - i) i = e at *
      have q0 : (0 : Int) ≤ (i : Int) := by omega
      have q1 : (i : Int) ≤ 140737488351232 := by omega
      have q2 : (e : Int) ≤ 140737488351232 := by omega
      have q3 : (i : Int) ≤ (e : Int) := by omega
      have q4 : (e : Int) ≤ (a0.size : Int) := by omega
      have HBA := Aside0.mk (xIt a0 e (by omega))
      clear hF
      go_upto_region 13 with (go_at_call 73; (with_reducible refine (xAe.calls _ a0 _ 1 _ _ HEN.out).mono ?_); rintro e wq5 ⟨rfl, hd⟩; have OS5 := Aside0.mk (OS2.out.call hd); clear hd)
      go_upto_region 14 with (go_at_call 74; (with_reducible refine (xBs.calls a0 _ _ _ HBA.out).mono ?_); rintro e wq6 ⟨rfl, hd⟩; have OS6 := Aside0.mk (OS5.out.call hd); clear hd)
      by_cases hl : i + 9 < e
      · skip
        rw [if_pos hl] at h
        simp only [Option.some.injEq, Prod.mk.injEq] at h
        obtain ⟨rfl, rfl, rfl, rfl, rfl, rfl, rfl⟩ := h
        have d1 : decide ((e : Int) - (i : Int) > 9) = true := decide_eq_true (by omega)
        have d2 : decide (9 < (e : Int) - (i : Int)) = true := decide_eq_true (by omega)
        obtain ⟨ht0, ht1, ht2, ht3⟩ := ey4 OS6.out.t8
        obtain ⟨hr0, hr1, hr2, hr3, hf0, hf1, hf2, hf3⟩ := ex4 OS6.out.r4
        go_wp2
        refine bodyPost_ret (xBl (rs := [.cell 4 60, .tmp 5, .tmp 6, .tmp 7]) rfl (by simp) (.cell w.heap.size 60 #[.int .i64 0, .string ⟨#[]⟩, .int .i64 0, .int .i64 (i : Int)] (0, 0) _ rfl (xAh ((xAh ((xAh ((xAh (OS6.out.r4) 0 (.int .i64 0) rfl)) 1 (.string ⟨#[]⟩) rfl)) 2 (.int .i64 0) rfl)) 3 (.int .i64 (i : Int)) rfl) Tryd.underlying60 rfl (by kernel_rfl) (.tmp (.tmp (.tmp .nil))))) rfl ?_
        exact ⟨by first | rfl | simp, ((((((((OS6.out.bel).setCell (p := ⟨w.heap.size, 0, none⟩) (Nat.le_refl _) (.int .i64 0))).setCell (p := ⟨w.heap.size, 1, none⟩) (Nat.le_refl _) (.string ⟨#[]⟩))).setCell (p := ⟨w.heap.size, 2, none⟩) (Nat.le_refl _) (.int .i64 0))).setCell (p := ⟨w.heap.size, 3, none⟩) (Nat.le_refl _) (.int .i64 (i : Int)))⟩
      · skip
        rw [if_neg hl] at h
        have d1 : decide ((e : Int) - (i : Int) > 9) = false := decide_eq_false (by omega)
        have d2 : decide (9 < (e : Int) - (i : Int)) = false := decide_eq_false (by omega)
        cases hG : xEc a0 e with
        | true =>
          rw [hG, if_pos rfl] at h
          simp only [Option.some.injEq, Prod.mk.injEq] at h
          obtain ⟨rfl, rfl, rfl, rfl, rfl, rfl, rfl⟩ := h
          obtain ⟨ht0, ht1, ht2, ht3⟩ := ey4 OS6.out.t8
          obtain ⟨hr0, hr1, hr2, hr3, hf0, hf1, hf2, hf3⟩ := ex4 OS6.out.r4
          go_wp2
          refine bodyPost_ret (xBl (rs := [.cell 4 60, .tmp 5, .tmp 6, .tmp 7]) rfl (by simp) (.cell w.heap.size 60 #[.int .i64 0, .string ⟨#[]⟩, .int .i64 0, .int .i64 (i : Int)] (0, 0) _ rfl (xAh ((xAh ((xAh ((xAh (OS6.out.r4) 0 (.int .i64 0) rfl)) 1 (.string ⟨#[]⟩) rfl)) 2 (.int .i64 0) rfl)) 3 (.int .i64 (i : Int)) rfl) Tryd.underlying60 rfl (by kernel_rfl) (.tmp (.tmp (.tmp .nil))))) rfl ?_
          exact ⟨by first | rfl | simp, ((((((((OS6.out.bel).setCell (p := ⟨w.heap.size, 0, none⟩) (Nat.le_refl _) (.int .i64 0))).setCell (p := ⟨w.heap.size, 1, none⟩) (Nat.le_refl _) (.string ⟨#[]⟩))).setCell (p := ⟨w.heap.size, 2, none⟩) (Nat.le_refl _) (.int .i64 0))).setCell (p := ⟨w.heap.size, 3, none⟩) (Nat.le_refl _) (.int .i64 (i : Int)))⟩
        | false =>
          rw [hG, if_neg (by decide)] at h
          simp only [Option.some.injEq, Prod.mk.injEq] at h
          obtain ⟨rfl, rfl, rfl, rfl, rfl, rfl, rfl⟩ := h
          have HL9 := Aside0.mk hl
          have HEA := Aside0.mk hEa
          have HEE := Aside0.mk hE
          clear hG hl hEa hE
          obtain ⟨ht0, ht1, ht2, ht3, hg0, hg1, hg2, hg3⟩ := ex4 OS6.out.t8
          go_upto_region 19 with (fail)
          generalize hW : World.setCell wq6 _ _ = Ws7
          have OS7 := Aside0.mk (show OnS w Ws7 w.heap.size b8 1 ⟨#[]⟩ 0 (i : Int) from by rw [← hW]; exact OS6.out.set_ 0 (.int .i64 1) rfl)
          clear hW ht0 ht1 ht2 ht3 hg0 hg1 hg2 hg3
          go_upto_block 0 with (fail)
          go_wp2_with (fail)
          clear OS6 d1 d2
          go_loopg [15] (e - i) (fun kx v15 wr => ∃ p : Nat, i ≤ p ∧ p ≤ e ∧ e - p ≤ kx ∧ v15 = .int .i64 (p : Int) ∧ Aside0 (OnS w wr w.heap.size b8 1 ⟨#[]⟩ (xD6 (((xAl a0).drop i).take (p - i))) (i : Int)))
          case atStart => exact ⟨i, Nat.le_refl _, by omega, by omega, rfl, ⟨by rw [Nat.sub_self, List.take_zero]; exact OS7.out⟩⟩
          case round =>
            clear OS7
            obtain ⟨p, hp1, hp2, hg, rfl, OL⟩ := hrel
            by_cases hlt : p < e
            · skip
              have hd : decide ((p : Int) < (e : Int)) = true := decide_eq_true (by omega)
              have hfd := HEA.out p hp1 hlt
              have hsz := HS.out
              have hb := xCn a0 p (by have := HEE.out; simpa using (show p < a0.size by omega))
              simp only [Int.toNat_natCast] at hb
              have hrn := xHk (((xAl a0).drop i).take (p - i)) (seg_fig a0 i p (by have := HEE.out; omega) (fun j hj1 hj2 => HEA.out j hj1 (by omega)))
              have hlen : (((xAl a0).drop i).take (p - i)).length ≤ 9 := by rw [List.length_take]; have := HL9.out; omega
              have hsn : xD6 (((xAl a0).drop i).take (p + 1 - i)) = 10 * xD6 (((xAl a0).drop i).take (p - i)) + (bt a0 (p : Int) - 48) := by rw [seg_snoc a0 i p hp1 (by have := HEE.out; omega), xI9]
              have hpw := pow10_le hlen
              generalize xD6 (((xAl a0).drop i).take (p - i)) = m at *
              have hfr : 48 ≤ bt a0 (p : Int) ∧ bt a0 (p : Int) ≤ 57 := by unfold xAx at hfd; simpa using hfd
              generalize hdd : bt a0 (p : Int) = d at *
              obtain ⟨hf1, hf2⟩ := hfr
              obtain ⟨hm1, hm2⟩ := hrn
              have hm3 : m ≤ 1000000000 := by omega
              have HSM := Aside0.mk hsn
              clear hsn hm2 hpw hlen hfd hdd
              obtain ⟨ht0, ht1, ht2, ht3, hg0, hg1, hg2, hg3⟩ := ex4 OL.out.t8
              go_wp2
              go_region
              go_wp2
              go_roundg (e - (p + 1))
              case measure => omega
              case rel =>
                exact ⟨p + 1, by omega, by omega, Nat.le_refl _, by go_num, ⟨by rw [HSM.out]; exact (OL.out.set_ 2 _ rfl).drew⟩⟩
            · skip
              have hd : decide ((p : Int) < (e : Int)) = false := decide_eq_false (by omega)
              obtain rfl : p = e := by omega
              skip
              obtain ⟨ht0, ht1, ht2, ht3⟩ := ey4 OL.out.t8
              obtain ⟨hr0, hr1, hr2, hr3, hf0, hf1, hf2, hf3⟩ := ex4 OL.out.r4
              go_wp2
              refine bodyPost_ret (xBl (rs := [.cell 4 60, .tmp 5, .tmp 6, .tmp 7]) rfl (by simp) (.cell w.heap.size 60 #[.int .i64 1, .string ⟨#[]⟩, .int .i64 (xD6 (((xAl a0).drop i).take (p - i))), .int .i64 (i : Int)] (0, 0) _ rfl (xAh ((xAh ((xAh ((xAh (OL.out.r4) 0 (.int .i64 1) rfl)) 1 (.string ⟨#[]⟩) rfl)) 2 (.int .i64 (xD6 (((xAl a0).drop i).take (p - i)))) rfl)) 3 (.int .i64 (i : Int)) rfl) Tryd.underlying60 rfl (by kernel_rfl) (.tmp (.tmp (.tmp .nil))))) rfl ?_
              exact ⟨by first | rfl | simp, ((((((((OL.out.bel).setCell (p := ⟨w.heap.size, 0, none⟩) (Nat.le_refl _) (.int .i64 1))).setCell (p := ⟨w.heap.size, 1, none⟩) (Nat.le_refl _) (.string ⟨#[]⟩))).setCell (p := ⟨w.heap.size, 2, none⟩) (Nat.le_refl _) (.int .i64 (xD6 (((xAl a0).drop i).take (p - i)))))).setCell (p := ⟨w.heap.size, 3, none⟩) (Nat.le_refl _) (.int .i64 (i : Int)))⟩
    | false =>
      rw [hF, if_neg (by decide)] at h
      clear hF
      by_cases hD : c = 36
      · skip
        rw [if_pos hD] at h
        have e36 : (c == 36) = true := by rw [hD]; rfl
        have hE := xD7 pHex a0 (a0.size - (i + 1)) ((i + 1)) (by omega)
        have hEa := xDk pHex a0 (a0.size - (i + 1)) ((i + 1))
        have HEN := Aside0.mk (xKe a0 (i + 1) hs (by omega))
        generalize xB7 pHex a0 (a0.size - (i + 1)) (i + 1) = e at *
        have hci : ((i + 1 : Nat) : Int) = (i : Int) + 1 := by omega
        rw [hci] at HEN
        clear hci
        have q0 : (0 : Int) ≤ (i : Int) := by omega
        have q1 : (i : Int) ≤ 140737488351232 := by omega
        have q2 : (e : Int) ≤ 140737488351232 := by omega
        have q3 : (i : Int) ≤ (e : Int) := by omega
        have q4 : (e : Int) ≤ (a0.size : Int) := by omega
        have HBA := Aside0.mk (xIt a0 e (by omega))
        have q5 : (i : Int) + 1 ≤ (e : Int) := by omega
        have q5b : (i : Int) < (e : Int) := by omega
        have q5c : i < e ∨ e = i + 1 := by omega
        have q7 : (0 : Int) ≤ (i : Int) + 1 := by omega
        have q8 : (-1 : Int) ≤ (i : Int) := by omega
        have q9 : i + 1 ≤ e := by omega
        have q9b : i < e := by omega
        clear q5c
        clear hD
        go_upto_region 26 with (go_at_call 73; (with_reducible refine (xAe.calls _ a0 _ 2 _ _ HEN.out).mono ?_); rintro e wq8 ⟨rfl, hd⟩; have OS8 := Aside0.mk (OS2.out.call hd); clear hd)
        go_upto_region 27 with (go_at_call 74; (with_reducible refine (xBs.calls a0 _ _ _ HBA.out).mono ?_); rintro e wq9 ⟨rfl, hd⟩; have OS9 := Aside0.mk (OS8.out.call hd); clear hd)
        by_cases hl0 : e = i + 1
        · skip
          rw [if_pos hl0] at h
          simp only [Option.some.injEq, Prod.mk.injEq] at h
          obtain ⟨rfl, rfl, rfl, rfl, rfl, rfl, rfl⟩ := h
          have d0 : ((e : Int) == (i : Int) + 1) = true := by simp; omega
          obtain ⟨ht0, ht1, ht2, ht3⟩ := ey4 OS9.out.t8
          obtain ⟨hr0, hr1, hr2, hr3, hf0, hf1, hf2, hf3⟩ := ex4 OS9.out.r4
          go_wp2
          refine bodyPost_ret (xBl (rs := [.cell 4 60, .tmp 5, .tmp 6, .tmp 7]) rfl (by simp) (.cell w.heap.size 60 #[.int .i64 0, .string ⟨#[]⟩, .int .i64 0, .int .i64 (i : Int)] (0, 0) _ rfl (xAh ((xAh ((xAh ((xAh (OS9.out.r4) 0 (.int .i64 0) rfl)) 1 (.string ⟨#[]⟩) rfl)) 2 (.int .i64 0) rfl)) 3 (.int .i64 (i : Int)) rfl) Tryd.underlying60 rfl (by kernel_rfl) (.tmp (.tmp (.tmp .nil))))) rfl ?_
          exact ⟨by first | rfl | simp, ((((((((OS9.out.bel).setCell (p := ⟨w.heap.size, 0, none⟩) (Nat.le_refl _) (.int .i64 0))).setCell (p := ⟨w.heap.size, 1, none⟩) (Nat.le_refl _) (.string ⟨#[]⟩))).setCell (p := ⟨w.heap.size, 2, none⟩) (Nat.le_refl _) (.int .i64 0))).setCell (p := ⟨w.heap.size, 3, none⟩) (Nat.le_refl _) (.int .i64 (i : Int)))⟩
        · skip
          rw [if_neg hl0] at h
          have d0 : ((e : Int) == (i : Int) + 1) = false := by simp; omega
          by_cases hl : i + 129 < e
          · skip
            rw [if_pos hl] at h
            simp only [Option.some.injEq, Prod.mk.injEq] at h
            obtain ⟨rfl, rfl, rfl, rfl, rfl, rfl, rfl⟩ := h
            have d1 : decide ((e : Int) - (i : Int) - 1 > 128) = true := decide_eq_true (by omega)
            have d2 : decide (128 < (e : Int) - (i : Int) - 1) = true := decide_eq_true (by omega)
            obtain ⟨ht0, ht1, ht2, ht3⟩ := ey4 OS9.out.t8
            obtain ⟨hr0, hr1, hr2, hr3, hf0, hf1, hf2, hf3⟩ := ex4 OS9.out.r4
            go_wp2
            refine bodyPost_ret (xBl (rs := [.cell 4 60, .tmp 5, .tmp 6, .tmp 7]) rfl (by simp) (.cell w.heap.size 60 #[.int .i64 0, .string ⟨#[]⟩, .int .i64 0, .int .i64 (i : Int)] (0, 0) _ rfl (xAh ((xAh ((xAh ((xAh (OS9.out.r4) 0 (.int .i64 0) rfl)) 1 (.string ⟨#[]⟩) rfl)) 2 (.int .i64 0) rfl)) 3 (.int .i64 (i : Int)) rfl) Tryd.underlying60 rfl (by kernel_rfl) (.tmp (.tmp (.tmp .nil))))) rfl ?_
            exact ⟨by first | rfl | simp, ((((((((OS9.out.bel).setCell (p := ⟨w.heap.size, 0, none⟩) (Nat.le_refl _) (.int .i64 0))).setCell (p := ⟨w.heap.size, 1, none⟩) (Nat.le_refl _) (.string ⟨#[]⟩))).setCell (p := ⟨w.heap.size, 2, none⟩) (Nat.le_refl _) (.int .i64 0))).setCell (p := ⟨w.heap.size, 3, none⟩) (Nat.le_refl _) (.int .i64 (i : Int)))⟩
          · skip
            rw [if_neg hl] at h
            have d1 : decide ((e : Int) - (i : Int) - 1 > 128) = false := decide_eq_false (by omega)
            have d2 : decide (128 < (e : Int) - (i : Int) - 1) = false := decide_eq_false (by omega)
            cases hG : xEc a0 e with
            | true =>
              rw [hG, if_pos rfl] at h
              simp only [Option.some.injEq, Prod.mk.injEq] at h
              obtain ⟨rfl, rfl, rfl, rfl, rfl, rfl, rfl⟩ := h
              obtain ⟨ht0, ht1, ht2, ht3⟩ := ey4 OS9.out.t8
              obtain ⟨hr0, hr1, hr2, hr3, hf0, hf1, hf2, hf3⟩ := ex4 OS9.out.r4
              go_wp2
              refine bodyPost_ret (xBl (rs := [.cell 4 60, .tmp 5, .tmp 6, .tmp 7]) rfl (by simp) (.cell w.heap.size 60 #[.int .i64 0, .string ⟨#[]⟩, .int .i64 0, .int .i64 (i : Int)] (0, 0) _ rfl (xAh ((xAh ((xAh ((xAh (OS9.out.r4) 0 (.int .i64 0) rfl)) 1 (.string ⟨#[]⟩) rfl)) 2 (.int .i64 0) rfl)) 3 (.int .i64 (i : Int)) rfl) Tryd.underlying60 rfl (by kernel_rfl) (.tmp (.tmp (.tmp .nil))))) rfl ?_
              exact ⟨by first | rfl | simp, ((((((((OS9.out.bel).setCell (p := ⟨w.heap.size, 0, none⟩) (Nat.le_refl _) (.int .i64 0))).setCell (p := ⟨w.heap.size, 1, none⟩) (Nat.le_refl _) (.string ⟨#[]⟩))).setCell (p := ⟨w.heap.size, 2, none⟩) (Nat.le_refl _) (.int .i64 0))).setCell (p := ⟨w.heap.size, 3, none⟩) (Nat.le_refl _) (.int .i64 (i : Int)))⟩
            | false =>
              rw [hG, if_neg (by decide)] at h
              simp only [Option.some.injEq, Prod.mk.injEq] at h
              obtain ⟨rfl, rfl, rfl, rfl, rfl, rfl, rfl⟩ := h
              clear hG hl hl0 hE hEa
              obtain ⟨ht0, ht1, ht2, ht3, hg0, hg1, hg2, hg3⟩ := ex4 OS9.out.t8
              go_upto_region 34 with (fail)
              generalize hW : World.setCell wq9 _ _ = Ws10
              have OS10 := Aside0.mk (show OnS w Ws10 w.heap.size b8 2 ⟨#[]⟩ 0 (i : Int) from by rw [← hW]; exact OS9.out.set_ 0 (.int .i64 2) rfl)
              clear hW ht0 ht1 ht2 ht3 hg0 hg1 hg2 hg3
              have q6 : (a0.extract (i + 1) e) = a0.extract ((i : Int) + 1).toNat e := by congr 1
              obtain ⟨ht0, ht1, ht2, ht3, hg0, hg1, hg2, hg3⟩ := ex4 OS10.out.t8
              go_upto_region 35 with (fail)
              generalize hW : World.setCell Ws10 _ _ = Ws11
              have OS11 := Aside0.mk (show OnS w Ws11 w.heap.size b8 2 (a0.extract (i + 1) e) 0 (i : Int) from by rw [← hW]; exact OS10.out.set_ 1 (.string (a0.extract (i + 1) e)) rfl)
              clear hW ht0 ht1 ht2 ht3 hg0 hg1 hg2 hg3
              obtain ⟨ht0, ht1, ht2, ht3⟩ := ey4 OS11.out.t8
              obtain ⟨hr0, hr1, hr2, hr3, hf0, hf1, hf2, hf3⟩ := ex4 OS11.out.r4
              go_wp2
              refine bodyPost_ret (xBl (rs := [.cell 4 60, .tmp 5, .tmp 6, .tmp 7]) rfl (by simp) (.cell w.heap.size 60 #[.int .i64 2, .string (a0.extract (i + 1) e), .int .i64 0, .int .i64 (i : Int)] (0, 0) _ rfl (xAh ((xAh ((xAh ((xAh (OS11.out.r4) 0 (.int .i64 2) rfl)) 1 (.string (a0.extract (i + 1) e)) rfl)) 2 (.int .i64 0) rfl)) 3 (.int .i64 (i : Int)) rfl) Tryd.underlying60 rfl (by kernel_rfl) (.tmp (.tmp (.tmp .nil))))) rfl ?_
              exact ⟨by first | rfl | simp, ((((((((OS11.out.bel).setCell (p := ⟨w.heap.size, 0, none⟩) (Nat.le_refl _) (.int .i64 2))).setCell (p := ⟨w.heap.size, 1, none⟩) (Nat.le_refl _) (.string (a0.extract (i + 1) e)))).setCell (p := ⟨w.heap.size, 2, none⟩) (Nat.le_refl _) (.int .i64 0))).setCell (p := ⟨w.heap.size, 3, none⟩) (Nat.le_refl _) (.int .i64 (i : Int)))⟩
      · skip
        rw [if_neg hD] at h
        have e36 : (c == 36) = false := by simpa using hD
        by_cases hS : c = 40 ∨ c = 41 ∨ c = 44 ∨ c = 61 ∨ c = 59
        · skip
          rw [if_pos hS] at h
          simp only [Option.some.injEq, Prod.mk.injEq] at h
          obtain ⟨rfl, rfl, rfl, rfl, rfl, rfl, rfl⟩ := h
          have q1 : (i : Int) ≤ 140737488351232 := by omega
          have q2 : (i : Int) + 1 ≤ (a0.size : Int) := by omega
          have q0 : (0 : Int) ≤ (i : Int) := by omega
          have q7 : (i : Int) ≤ (i : Int) + 1 := by omega
          have q8 : (i : Int) < (a0.size : Int) := by omega
          have HEX : a0.extract ((i : Int)).toNat ((i : Int) + 1).toNat = a0.extract i (i + 1) := by congr 1
          rcases hS with rfl | rfl | rfl | rfl | rfl
          all_goals skip
          · skip
            have b0 : ((40 : Int) == 40) = true := by decide
            obtain ⟨ht0, ht1, ht2, ht3, hg0, hg1, hg2, hg3⟩ := ex4 OS2.out.t8
            go_upto_region 38 with (fail)
            generalize hW : World.setCell wq2 _ _ = Ws12
            have OS12 := Aside0.mk (show OnS w Ws12 w.heap.size b8 3 ⟨#[]⟩ 0 (i : Int) from by rw [← hW]; exact OS2.out.set_ 0 (.int .i64 3) rfl)
            clear hW ht0 ht1 ht2 ht3 hg0 hg1 hg2 hg3
            obtain ⟨ht0, ht1, ht2, ht3, hg0, hg1, hg2, hg3⟩ := ex4 OS12.out.t8
            go_upto_region 39 with (fail)
            generalize hW : World.setCell Ws12 _ _ = Ws13
            have OS13 := Aside0.mk (show OnS w Ws13 w.heap.size b8 3 (a0.extract i (i + 1)) 0 (i : Int) from by rw [← hW]; exact OS12.out.set_ 1 (.string (a0.extract i (i + 1))) rfl)
            clear hW ht0 ht1 ht2 ht3 hg0 hg1 hg2 hg3
            obtain ⟨ht0, ht1, ht2, ht3⟩ := ey4 OS13.out.t8
            obtain ⟨hr0, hr1, hr2, hr3, hf0, hf1, hf2, hf3⟩ := ex4 OS13.out.r4
            go_wp2
            refine bodyPost_ret (xBl (rs := [.cell 4 60, .tmp 5, .tmp 6, .tmp 7]) rfl (by simp) (.cell w.heap.size 60 #[.int .i64 3, .string (a0.extract i (i + 1)), .int .i64 0, .int .i64 (i : Int)] (0, 0) _ rfl (xAh ((xAh ((xAh ((xAh (OS13.out.r4) 0 (.int .i64 3) rfl)) 1 (.string (a0.extract i (i + 1))) rfl)) 2 (.int .i64 0) rfl)) 3 (.int .i64 (i : Int)) rfl) Tryd.underlying60 rfl (by kernel_rfl) (.tmp (.tmp (.tmp .nil))))) rfl ?_
            exact ⟨by first | rfl | simp, ((((((((OS13.out.bel).setCell (p := ⟨w.heap.size, 0, none⟩) (Nat.le_refl _) (.int .i64 3))).setCell (p := ⟨w.heap.size, 1, none⟩) (Nat.le_refl _) (.string (a0.extract i (i + 1))))).setCell (p := ⟨w.heap.size, 2, none⟩) (Nat.le_refl _) (.int .i64 0))).setCell (p := ⟨w.heap.size, 3, none⟩) (Nat.le_refl _) (.int .i64 (i : Int)))⟩
          · skip
            have b0 : ((41 : Int) == 40) = false := by decide
            have b1 : ((41 : Int) == 41) = true := by decide
            obtain ⟨ht0, ht1, ht2, ht3, hg0, hg1, hg2, hg3⟩ := ex4 OS2.out.t8
            go_upto_region 38 with (fail)
            generalize hW : World.setCell wq2 _ _ = Ws14
            have OS14 := Aside0.mk (show OnS w Ws14 w.heap.size b8 3 ⟨#[]⟩ 0 (i : Int) from by rw [← hW]; exact OS2.out.set_ 0 (.int .i64 3) rfl)
            clear hW ht0 ht1 ht2 ht3 hg0 hg1 hg2 hg3
            obtain ⟨ht0, ht1, ht2, ht3, hg0, hg1, hg2, hg3⟩ := ex4 OS14.out.t8
            go_upto_region 39 with (fail)
            generalize hW : World.setCell Ws14 _ _ = Ws15
            have OS15 := Aside0.mk (show OnS w Ws15 w.heap.size b8 3 (a0.extract i (i + 1)) 0 (i : Int) from by rw [← hW]; exact OS14.out.set_ 1 (.string (a0.extract i (i + 1))) rfl)
            clear hW ht0 ht1 ht2 ht3 hg0 hg1 hg2 hg3
            obtain ⟨ht0, ht1, ht2, ht3⟩ := ey4 OS15.out.t8
            obtain ⟨hr0, hr1, hr2, hr3, hf0, hf1, hf2, hf3⟩ := ex4 OS15.out.r4
            go_wp2
            refine bodyPost_ret (xBl (rs := [.cell 4 60, .tmp 5, .tmp 6, .tmp 7]) rfl (by simp) (.cell w.heap.size 60 #[.int .i64 3, .string (a0.extract i (i + 1)), .int .i64 0, .int .i64 (i : Int)] (0, 0) _ rfl (xAh ((xAh ((xAh ((xAh (OS15.out.r4) 0 (.int .i64 3) rfl)) 1 (.string (a0.extract i (i + 1))) rfl)) 2 (.int .i64 0) rfl)) 3 (.int .i64 (i : Int)) rfl) Tryd.underlying60 rfl (by kernel_rfl) (.tmp (.tmp (.tmp .nil))))) rfl ?_
            exact ⟨by first | rfl | simp, ((((((((OS15.out.bel).setCell (p := ⟨w.heap.size, 0, none⟩) (Nat.le_refl _) (.int .i64 3))).setCell (p := ⟨w.heap.size, 1, none⟩) (Nat.le_refl _) (.string (a0.extract i (i + 1))))).setCell (p := ⟨w.heap.size, 2, none⟩) (Nat.le_refl _) (.int .i64 0))).setCell (p := ⟨w.heap.size, 3, none⟩) (Nat.le_refl _) (.int .i64 (i : Int)))⟩
          · skip
            have b0 : ((44 : Int) == 40) = false := by decide
            have b1 : ((44 : Int) == 41) = false := by decide
            have b2 : ((44 : Int) == 44) = true := by decide
            obtain ⟨ht0, ht1, ht2, ht3, hg0, hg1, hg2, hg3⟩ := ex4 OS2.out.t8
            go_upto_region 38 with (fail)
            generalize hW : World.setCell wq2 _ _ = Ws16
            have OS16 := Aside0.mk (show OnS w Ws16 w.heap.size b8 3 ⟨#[]⟩ 0 (i : Int) from by rw [← hW]; exact OS2.out.set_ 0 (.int .i64 3) rfl)
            clear hW ht0 ht1 ht2 ht3 hg0 hg1 hg2 hg3
            obtain ⟨ht0, ht1, ht2, ht3, hg0, hg1, hg2, hg3⟩ := ex4 OS16.out.t8
            go_upto_region 39 with (fail)
            generalize hW : World.setCell Ws16 _ _ = Ws17
            have OS17 := Aside0.mk (show OnS w Ws17 w.heap.size b8 3 (a0.extract i (i + 1)) 0 (i : Int) from by rw [← hW]; exact OS16.out.set_ 1 (.string (a0.extract i (i + 1))) rfl)
            clear hW ht0 ht1 ht2 ht3 hg0 hg1 hg2 hg3
            obtain ⟨ht0, ht1, ht2, ht3⟩ := ey4 OS17.out.t8
            obtain ⟨hr0, hr1, hr2, hr3, hf0, hf1, hf2, hf3⟩ := ex4 OS17.out.r4
            go_wp2
            refine bodyPost_ret (xBl (rs := [.cell 4 60, .tmp 5, .tmp 6, .tmp 7]) rfl (by simp) (.cell w.heap.size 60 #[.int .i64 3, .string (a0.extract i (i + 1)), .int .i64 0, .int .i64 (i : Int)] (0, 0) _ rfl (xAh ((xAh ((xAh ((xAh (OS17.out.r4) 0 (.int .i64 3) rfl)) 1 (.string (a0.extract i (i + 1))) rfl)) 2 (.int .i64 0) rfl)) 3 (.int .i64 (i : Int)) rfl) Tryd.underlying60 rfl (by kernel_rfl) (.tmp (.tmp (.tmp .nil))))) rfl ?_
            exact ⟨by first | rfl | simp, ((((((((OS17.out.bel).setCell (p := ⟨w.heap.size, 0, none⟩) (Nat.le_refl _) (.int .i64 3))).setCell (p := ⟨w.heap.size, 1, none⟩) (Nat.le_refl _) (.string (a0.extract i (i + 1))))).setCell (p := ⟨w.heap.size, 2, none⟩) (Nat.le_refl _) (.int .i64 0))).setCell (p := ⟨w.heap.size, 3, none⟩) (Nat.le_refl _) (.int .i64 (i : Int)))⟩
          · skip
            have b0 : ((61 : Int) == 40) = false := by decide
            have b1 : ((61 : Int) == 41) = false := by decide
            have b2 : ((61 : Int) == 44) = false := by decide
            have b3 : ((61 : Int) == 61) = true := by decide
            obtain ⟨ht0, ht1, ht2, ht3, hg0, hg1, hg2, hg3⟩ := ex4 OS2.out.t8
            go_upto_region 38 with (fail)
            generalize hW : World.setCell wq2 _ _ = Ws18
            have OS18 := Aside0.mk (show OnS w Ws18 w.heap.size b8 3 ⟨#[]⟩ 0 (i : Int) from by rw [← hW]; exact OS2.out.set_ 0 (.int .i64 3) rfl)
            clear hW ht0 ht1 ht2 ht3 hg0 hg1 hg2 hg3
            obtain ⟨ht0, ht1, ht2, ht3, hg0, hg1, hg2, hg3⟩ := ex4 OS18.out.t8
            go_upto_region 39 with (fail)
            generalize hW : World.setCell Ws18 _ _ = Ws19
            have OS19 := Aside0.mk (show OnS w Ws19 w.heap.size b8 3 (a0.extract i (i + 1)) 0 (i : Int) from by rw [← hW]; exact OS18.out.set_ 1 (.string (a0.extract i (i + 1))) rfl)
            clear hW ht0 ht1 ht2 ht3 hg0 hg1 hg2 hg3
            obtain ⟨ht0, ht1, ht2, ht3⟩ := ey4 OS19.out.t8
            obtain ⟨hr0, hr1, hr2, hr3, hf0, hf1, hf2, hf3⟩ := ex4 OS19.out.r4
            go_wp2
            refine bodyPost_ret (xBl (rs := [.cell 4 60, .tmp 5, .tmp 6, .tmp 7]) rfl (by simp) (.cell w.heap.size 60 #[.int .i64 3, .string (a0.extract i (i + 1)), .int .i64 0, .int .i64 (i : Int)] (0, 0) _ rfl (xAh ((xAh ((xAh ((xAh (OS19.out.r4) 0 (.int .i64 3) rfl)) 1 (.string (a0.extract i (i + 1))) rfl)) 2 (.int .i64 0) rfl)) 3 (.int .i64 (i : Int)) rfl) Tryd.underlying60 rfl (by kernel_rfl) (.tmp (.tmp (.tmp .nil))))) rfl ?_
            exact ⟨by first | rfl | simp, ((((((((OS19.out.bel).setCell (p := ⟨w.heap.size, 0, none⟩) (Nat.le_refl _) (.int .i64 3))).setCell (p := ⟨w.heap.size, 1, none⟩) (Nat.le_refl _) (.string (a0.extract i (i + 1))))).setCell (p := ⟨w.heap.size, 2, none⟩) (Nat.le_refl _) (.int .i64 0))).setCell (p := ⟨w.heap.size, 3, none⟩) (Nat.le_refl _) (.int .i64 (i : Int)))⟩
          · skip
            have b0 : ((59 : Int) == 40) = false := by decide
            have b1 : ((59 : Int) == 41) = false := by decide
            have b2 : ((59 : Int) == 44) = false := by decide
            have b3 : ((59 : Int) == 61) = false := by decide
            have b4 : ((59 : Int) == 59) = true := by decide
            obtain ⟨ht0, ht1, ht2, ht3, hg0, hg1, hg2, hg3⟩ := ex4 OS2.out.t8
            go_upto_region 38 with (fail)
            generalize hW : World.setCell wq2 _ _ = Ws20
            have OS20 := Aside0.mk (show OnS w Ws20 w.heap.size b8 3 ⟨#[]⟩ 0 (i : Int) from by rw [← hW]; exact OS2.out.set_ 0 (.int .i64 3) rfl)
            clear hW ht0 ht1 ht2 ht3 hg0 hg1 hg2 hg3
            obtain ⟨ht0, ht1, ht2, ht3, hg0, hg1, hg2, hg3⟩ := ex4 OS20.out.t8
            go_upto_region 39 with (fail)
            generalize hW : World.setCell Ws20 _ _ = Ws21
            have OS21 := Aside0.mk (show OnS w Ws21 w.heap.size b8 3 (a0.extract i (i + 1)) 0 (i : Int) from by rw [← hW]; exact OS20.out.set_ 1 (.string (a0.extract i (i + 1))) rfl)
            clear hW ht0 ht1 ht2 ht3 hg0 hg1 hg2 hg3
            obtain ⟨ht0, ht1, ht2, ht3⟩ := ey4 OS21.out.t8
            obtain ⟨hr0, hr1, hr2, hr3, hf0, hf1, hf2, hf3⟩ := ex4 OS21.out.r4
            go_wp2
            refine bodyPost_ret (xBl (rs := [.cell 4 60, .tmp 5, .tmp 6, .tmp 7]) rfl (by simp) (.cell w.heap.size 60 #[.int .i64 3, .string (a0.extract i (i + 1)), .int .i64 0, .int .i64 (i : Int)] (0, 0) _ rfl (xAh ((xAh ((xAh ((xAh (OS21.out.r4) 0 (.int .i64 3) rfl)) 1 (.string (a0.extract i (i + 1))) rfl)) 2 (.int .i64 0) rfl)) 3 (.int .i64 (i : Int)) rfl) Tryd.underlying60 rfl (by kernel_rfl) (.tmp (.tmp (.tmp .nil))))) rfl ?_
            exact ⟨by first | rfl | simp, ((((((((OS21.out.bel).setCell (p := ⟨w.heap.size, 0, none⟩) (Nat.le_refl _) (.int .i64 3))).setCell (p := ⟨w.heap.size, 1, none⟩) (Nat.le_refl _) (.string (a0.extract i (i + 1))))).setCell (p := ⟨w.heap.size, 2, none⟩) (Nat.le_refl _) (.int .i64 0))).setCell (p := ⟨w.heap.size, 3, none⟩) (Nat.le_refl _) (.int .i64 (i : Int)))⟩
        · skip
          rw [if_neg hS] at h
          simp only [Option.some.injEq, Prod.mk.injEq] at h
          obtain ⟨rfl, rfl, rfl, rfl, rfl, rfl, rfl⟩ := h
          have b0 : (c == 40) = false := by simp; omega
          have b1 : (c == 41) = false := by simp; omega
          have b2 : (c == 44) = false := by simp; omega
          have b3 : (c == 61) = false := by simp; omega
          have b4 : (c == 59) = false := by simp; omega
          clear hS hD
          obtain ⟨ht0, ht1, ht2, ht3⟩ := ey4 OS2.out.t8
          obtain ⟨hr0, hr1, hr2, hr3, hf0, hf1, hf2, hf3⟩ := ex4 OS2.out.r4
          go_wp2
          refine bodyPost_ret (xBl (rs := [.cell 4 60, .tmp 5, .tmp 6, .tmp 7]) rfl (by simp) (.cell w.heap.size 60 #[.int .i64 0, .string ⟨#[]⟩, .int .i64 0, .int .i64 (i : Int)] (0, 0) _ rfl (xAh ((xAh ((xAh ((xAh (OS2.out.r4) 0 (.int .i64 0) rfl)) 1 (.string ⟨#[]⟩) rfl)) 2 (.int .i64 0) rfl)) 3 (.int .i64 (i : Int)) rfl) Tryd.underlying60 rfl (by kernel_rfl) (.tmp (.tmp (.tmp .nil))))) rfl ?_
          exact ⟨by first | rfl | simp, ((((((((OS2.out.bel).setCell (p := ⟨w.heap.size, 0, none⟩) (Nat.le_refl _) (.int .i64 0))).setCell (p := ⟨w.heap.size, 1, none⟩) (Nat.le_refl _) (.string ⟨#[]⟩))).setCell (p := ⟨w.heap.size, 2, none⟩) (Nat.le_refl _) (.int .i64 0))).setCell (p := ⟨w.heap.size, 3, none⟩) (Nat.le_refl _) (.int .i64 (i : Int)))⟩

end Go.Proofs.YtknbfhhmjbnemaaDoor.P
end
section
namespace Go.Proofs.YtknbfhhmjbnemaaDoor.P
open Go.RowKit Go.Proofs.YtknbfhhmjbnemaaDoorW.PrintWords Go.Proofs.YtknbfhhmjbnemaaDoorW.PrintLast Go.Proofs.YtknbfhhmjbnemaaDoorW.PrintMore
attribute [local go_sem] xB9 xBe

/-! ### xAd: function 39 -/
mutual
def xAd.l0 : Nat → ByteArray → Int → Option (Int)
 | 0, _, _ => none
 | k + 1, x0, x1 => if x1 < (x0.size : Int) then (if 0 ≤ x1 then (if (bt x0 x1) = 9 then (xAd.j1 k x0 x1 true) else (if (bt x0 x1) = 10 then (xAd.j1 k x0 x1 true) else (if (bt x0 x1) = 13 then (xAd.j1 k x0 x1 true) else (xAd.j1 k x0 x1 ((bt x0 x1) == 32))))) else (none)) else (some x1)
def xAd.j1 : Nat → ByteArray → Int → Bool → Option (Int)
 | 0, _, _, _ => none
 | k + 1, x0, x1, x10 => if x10 = true then (xAd.l0 k x0 (wrap64 (x1 + 1))) else (if (wrap64 (x1 + 1)) < (x0.size : Int) then (if 0 ≤ x1 then (if x1 < (x0.size : Int) then (if (bt x0 x1) = 47 then (if 0 ≤ (wrap64 (x1 + 1)) then (xAd.j2 k x0 x1 ((bt x0 (wrap64 (x1 + 1))) == 47)) else (none)) else (xAd.j2 k x0 x1 false)) else (none)) else (none)) else (xAd.j2 k x0 x1 false))
def xAd.j2 : Nat → ByteArray → Int → Bool → Option (Int)
 | 0, _, _, _ => none
 | k + 1, x0, x1, x35 => if x35 = true then (xAd.l1 k x0 x1) else (some x1)
def xAd.l1 : Nat → ByteArray → Int → Option (Int)
 | 0, _, _ => none
 | k + 1, x0, x1 => if x1 < (x0.size : Int) then (if 0 ≤ x1 then (if (bt x0 x1) = 10 then (xAd.l0 k x0 x1) else (xAd.l1 k x0 (wrap64 (x1 + 1)))) else (none)) else (xAd.l0 k x0 x1)
end
def xAd.f (k : Nat) (a0 : ByteArray) (a1 : Int) : Option (Int) := xAd.l0 k a0 a1
set_option maxHeartbeats 8000000 in
set_option maxRecDepth 100000 in
theorem xAd.calls (k : Nat) (a0 : ByteArray) (a1 : Int) (r : Int) (w : World) (h : xAd.f k a0 a1 = some r) :
  Calls Tryd.prog 39 #[.string a0, .int .i64 a1] w fun e w' => e = .returned (.int .i64 r) ∧ Drawn0 w w' := by
 have H : (xAd.l0 k a0 a1) = some r := h
 clear h
 have H' := Aside0.mk H
 clear H
 go_enter Tryd.func39, Tryd.ntmps39
 go_wp2
 go_loopg [1] k (fun kq v1 w' => ∃ (x1_1 : Int), v1 = .int .i64 x1_1 ∧ Aside0 (xAd.l0 kq a0 x1_1 = some r) ∧ Aside0 (kq ≤ k) ∧ Drawn0 w w')
 case atStart => exact ⟨(a1), (by first | rfl | (simp; done) | (simp [*]; done)), H', ⟨Nat.le_refl _⟩, by repeat (first | exact Drawn0.refl _ | apply Drawn0.step)⟩
 case round =>
  clear H'
  try clear p2
  obtain ⟨x1_1, rfl, HA, HK1, ⟨m1, rfl⟩⟩ := hrel
  cases gk with
  | zero => exact absurd HA.out (by simp [xAd.l0])
  | succ k1 =>
   have H := HA.out
   clear HA
   simp only [xAd.l0] at H
   by_cases c3 : x1_1 < (a0.size : Int)
   ·rw [if_pos c3] at H
    have c3b0 : decide (x1_1 < (a0.size : Int)) = true := decide_eq_true c3
    clear c3
    have HC4 := Aside0.mk H
    clear H
    go_upto_region 3 with (fail)
    go_cut [10] (fun v10 wc => ∃ (kq : Nat) (x10_3 : Bool), v10 = .bool x10_3 ∧ Aside0 (xAd.j1 kq a0 x1_1 x10_3 = some r) ∧ Aside0 (kq ≤ k1) ∧ Drawn0 w wc)
    case first =>
     have H := HC4.out
     clear HC4
     by_cases c5 : 0 ≤ x1_1
     ·rw [if_pos c5] at H
      have c5b0 : decide (0 ≤ x1_1) = true := decide_eq_true c5
      clear c5
      (first | rw [c5b0] | (simp only [xB0, xB1]; rw [c5b0]) | skip)
      by_cases c7 : (bt a0 x1_1) = 9
      ·rw [if_pos c7] at H
       have c7b0 : ((bt a0 x1_1) == 9) = true := beq_iff_eq.mpr c7
       have c7b1 : ((bt a0 x1_1) != 9) = false := bne_eq_false_iff_eq.mpr c7
       clear c7
       have H' := Aside0.mk H
       clear H
       have p6 : 0 ≤ (x1_1 : Int) := of_decide_eq_true (by first | (with_reducible assumption) | assumption)
       have q6 : x1_1 < (a0.size : Int) := of_decide_eq_true (by first | (with_reducible assumption) | assumption)
       have hx6 := xCn a0 x1_1
       replace p6 := eq_true p6
       replace q6 := eq_true q6
       go_wp2
       go_meet
       case rel => exact ⟨_, (true), (by first | rfl | (simp; done) | (simp [*]; done)), H', ⟨by have := HK1.out; first | omega | exact Nat.le_refl _⟩, by repeat (first | exact Drawn0.refl _ | apply Drawn0.step)⟩
      ·rw [if_neg c7] at H
       have c7b0 : ((bt a0 x1_1) == 9) = false := beq_eq_false_iff_ne.mpr c7
       have c7b1 : ((bt a0 x1_1) != 9) = true := bne_iff_ne.mpr c7
       by_cases c9 : (bt a0 x1_1) = 10
       ·rw [if_pos c9] at H
        have c9b0 : ((bt a0 x1_1) == 10) = true := beq_iff_eq.mpr c9
        have c9b1 : ((bt a0 x1_1) != 10) = false := bne_eq_false_iff_eq.mpr c9
        clear c9
        have H' := Aside0.mk H
        clear H
        have p6 : 0 ≤ (x1_1 : Int) := of_decide_eq_true (by first | (with_reducible assumption) | assumption)
        have q6 : x1_1 < (a0.size : Int) := of_decide_eq_true (by first | (with_reducible assumption) | assumption)
        have hx6 := xCn a0 x1_1
        replace p6 := eq_true p6
        replace q6 := eq_true q6
        have p8 : 0 ≤ (x1_1 : Int) := of_decide_eq_true (by first | (with_reducible assumption) | assumption)
        have q8 : x1_1 < (a0.size : Int) := of_decide_eq_true (by first | (with_reducible assumption) | assumption)
        have hx8 := xCn a0 x1_1
        replace p8 := eq_true p8
        replace q8 := eq_true q8
        go_wp2
        go_meet
        case rel => exact ⟨_, (true), (by first | rfl | (simp; done) | (simp [*]; done)), H', ⟨by have := HK1.out; first | omega | exact Nat.le_refl _⟩, by repeat (first | exact Drawn0.refl _ | apply Drawn0.step)⟩
       ·rw [if_neg c9] at H
        have c9b0 : ((bt a0 x1_1) == 10) = false := beq_eq_false_iff_ne.mpr c9
        have c9b1 : ((bt a0 x1_1) != 10) = true := bne_iff_ne.mpr c9
        by_cases c11 : (bt a0 x1_1) = 13
        ·rw [if_pos c11] at H
         have c11b0 : ((bt a0 x1_1) == 13) = true := beq_iff_eq.mpr c11
         have c11b1 : ((bt a0 x1_1) != 13) = false := bne_eq_false_iff_eq.mpr c11
         clear c11
         have H' := Aside0.mk H
         clear H
         have p6 : 0 ≤ (x1_1 : Int) := of_decide_eq_true (by first | (with_reducible assumption) | assumption)
         have q6 : x1_1 < (a0.size : Int) := of_decide_eq_true (by first | (with_reducible assumption) | assumption)
         have hx6 := xCn a0 x1_1
         replace p6 := eq_true p6
         replace q6 := eq_true q6
         have p8 : 0 ≤ (x1_1 : Int) := of_decide_eq_true (by first | (with_reducible assumption) | assumption)
         have q8 : x1_1 < (a0.size : Int) := of_decide_eq_true (by first | (with_reducible assumption) | assumption)
         have hx8 := xCn a0 x1_1
         replace p8 := eq_true p8
         replace q8 := eq_true q8
         have p10 : 0 ≤ (x1_1 : Int) := of_decide_eq_true (by first | (with_reducible assumption) | assumption)
         have q10 : x1_1 < (a0.size : Int) := of_decide_eq_true (by first | (with_reducible assumption) | assumption)
         have hx10 := xCn a0 x1_1
         replace p10 := eq_true p10
         replace q10 := eq_true q10
         go_wp2
         go_meet
         case rel => exact ⟨_, (true), (by first | rfl | (simp; done) | (simp [*]; done)), H', ⟨by have := HK1.out; first | omega | exact Nat.le_refl _⟩, by repeat (first | exact Drawn0.refl _ | apply Drawn0.step)⟩
        ·rw [if_neg c11] at H
         have c11b0 : ((bt a0 x1_1) == 13) = false := beq_eq_false_iff_ne.mpr c11
         have c11b1 : ((bt a0 x1_1) != 13) = true := bne_iff_ne.mpr c11
         have H' := Aside0.mk H
         clear H
         have p6 : 0 ≤ (x1_1 : Int) := of_decide_eq_true (by first | (with_reducible assumption) | assumption)
         have q6 : x1_1 < (a0.size : Int) := of_decide_eq_true (by first | (with_reducible assumption) | assumption)
         have hx6 := xCn a0 x1_1
         replace p6 := eq_true p6
         replace q6 := eq_true q6
         have p8 : 0 ≤ (x1_1 : Int) := of_decide_eq_true (by first | (with_reducible assumption) | assumption)
         have q8 : x1_1 < (a0.size : Int) := of_decide_eq_true (by first | (with_reducible assumption) | assumption)
         have hx8 := xCn a0 x1_1
         replace p8 := eq_true p8
         replace q8 := eq_true q8
         have p10 : 0 ≤ (x1_1 : Int) := of_decide_eq_true (by first | (with_reducible assumption) | assumption)
         have q10 : x1_1 < (a0.size : Int) := of_decide_eq_true (by first | (with_reducible assumption) | assumption)
         have hx10 := xCn a0 x1_1
         replace p10 := eq_true p10
         replace q10 := eq_true q10
         have p12 : 0 ≤ (x1_1 : Int) := of_decide_eq_true (by first | (with_reducible assumption) | assumption)
         have q12 : x1_1 < (a0.size : Int) := of_decide_eq_true (by first | (with_reducible assumption) | assumption)
         have hx12 := xCn a0 x1_1
         replace p12 := eq_true p12
         replace q12 := eq_true q12
         go_wp2
         go_meet
         case rel => exact ⟨_, (((bt a0 x1_1) == 32)), (by first | rfl | (simp; done) | (simp [*]; done)), H', ⟨by have := HK1.out; first | omega | exact Nat.le_refl _⟩, by repeat (first | exact Drawn0.refl _ | apply Drawn0.step)⟩
     ·rw [if_neg c5] at H
      exact absurd H (by simp)
    case rest =>
     clear HC4
     try clear c1
     try clear p1
     try clear q1
     try clear hx1
     try clear p2
     try clear c3
     try clear c3b0
     try clear c5
     try clear c5b0
     try clear p6
     try clear q6
     try clear hx6
     try clear c7
     try clear c7b0
     try clear c7b1
     try clear p8
     try clear q8
     try clear hx8
     try clear c9
     try clear c9b0
     try clear c9b1
     try clear p10
     try clear q10
     try clear hx10
     try clear c11
     try clear c11b0
     try clear c11b1
     try clear p12
     try clear q12
     try clear hx12
     try clear p10
     try clear p12
     try clear p2
     try clear p6
     try clear p8
     try clear q10
     try clear q12
     try clear q6
     try clear q8
     obtain ⟨kq, x10_3, rfl, HA, HJ3, ⟨mc3, rfl⟩⟩ := hcut
     cases kq with
     | zero => exact absurd HA.out (by simp [xAd.j1])
     | succ kj3 =>
      have H := HA.out
      clear HA
      simp only [xAd.j1] at H
      by_cases c13 : x10_3 = true
      ·subst c13
       have H1 : (xAd.l0 kj3 a0 (wrap64 (x1_1 + 1))) = some r := by rw [if_pos rfl] at H; exact H
       clear H
       have H := H1
       clear H1
       have H' := Aside0.mk H
       clear H
       go_wp2
       go_roundg kj3
       case measure => have := HK1.out; have := HJ3.out; omega
       case rel => exact ⟨(wrap64 (x1_1 + 1)), (by first | rfl | (simp; done) | (simp [*]; done)), H', ⟨by have := HK1.out; have := HJ3.out; omega⟩, by repeat (first | exact Drawn0.refl _ | apply Drawn0.step)⟩
      ·replace c13 := Bool.eq_false_iff.mpr c13
       subst c13
       have H1 : (if (wrap64 (x1_1 + 1)) < (a0.size : Int) then (if 0 ≤ x1_1 then (if x1_1 < (a0.size : Int) then (if (bt a0 x1_1) = 47 then (if 0 ≤ (wrap64 (x1_1 + 1)) then (xAd.j2 kj3 a0 x1_1 ((bt a0 (wrap64 (x1_1 + 1))) == 47)) else (none)) else (xAd.j2 kj3 a0 x1_1 false)) else (none)) else (none)) else (xAd.j2 kj3 a0 x1_1 false)) = some r := by rw [if_neg (show ¬ (false = true) by decide)] at H; exact H
       clear H
       have H := H1
       clear H1
       have HC14 := Aside0.mk H
       clear H
       go_upto_region 5 with (fail)
       go_cut [35] (fun v35 wc => ∃ (kq : Nat) (x35_13 : Bool), v35 = .bool x35_13 ∧ Aside0 (xAd.j2 kq a0 x1_1 x35_13 = some r) ∧ Aside0 (kq ≤ kj3) ∧ Drawn0 w wc)
       case first =>
        have H := HC14.out
        clear HC14
        by_cases c15 : (wrap64 (x1_1 + 1)) < (a0.size : Int)
        ·rw [if_pos c15] at H
         have c15b0 : decide ((wrap64 (x1_1 + 1)) < (a0.size : Int)) = true := decide_eq_true c15
         clear c15
         (first | rw [c15b0] | (simp only [xB0, xB1]; rw [c15b0]) | skip)
         by_cases c16 : 0 ≤ x1_1
         ·rw [if_pos c16] at H
          have c16b0 : decide (0 ≤ x1_1) = true := decide_eq_true c16
          clear c16
          by_cases c17 : x1_1 < (a0.size : Int)
          ·rw [if_pos c17] at H
           have c17b0 : decide (x1_1 < (a0.size : Int)) = true := decide_eq_true c17
           clear c17
           by_cases c19 : (bt a0 x1_1) = 47
           ·rw [if_pos c19] at H
            have c19b0 : ((bt a0 x1_1) == 47) = true := beq_iff_eq.mpr c19
            have c19b1 : ((bt a0 x1_1) != 47) = false := bne_eq_false_iff_eq.mpr c19
            clear c19
            obtain ⟨ji20, hji20⟩ : ∃ j_ : Int, (wrap64 (x1_1 + 1)) = j_ := ⟨_, rfl⟩
            replace H : (if 0 ≤ (ji20) then (xAd.j2 kj3 a0 x1_1 ((bt a0 (ji20)) == 47)) else (none)) = some r := by first | (rw [hji20] at H; exact H) | (simp only [hji20] at H ⊢; exact H)
            (try rw [hji20] at c15b0)
            have hji20w : (IntKind.i64.wrap (x1_1 + 1)) = ji20 := (xB0 _).trans hji20
            by_cases c21 : 0 ≤ (ji20)
            ·rw [if_pos c21] at H
             have c21b0 : decide (0 ≤ (ji20)) = true := decide_eq_true c21
             clear c21
             have H' := Aside0.mk H
             clear H
             have p18 : 0 ≤ (x1_1 : Int) := of_decide_eq_true (by first | (with_reducible assumption) | assumption)
             have q18 : x1_1 < (a0.size : Int) := of_decide_eq_true (by first | (with_reducible assumption) | assumption)
             have hx18 := xCn a0 x1_1
             replace p18 := eq_true p18
             replace q18 := eq_true q18
             have p22 : 0 ≤ ((ji20) : Int) := of_decide_eq_true (by first | (with_reducible assumption) | assumption)
             have q22 : (ji20) < (a0.size : Int) := of_decide_eq_true (by first | (with_reducible assumption) | assumption)
             have hx22 := xCn a0 (ji20)
             replace p22 := eq_true p22
             replace q22 := eq_true q22
             go_wp2
             go_meet
             case rel => exact ⟨_, (((bt a0 (ji20)) == 47)), (by first | rfl | (simp; done) | (simp only [← hji20] <;> (first | rfl | simp)) | (simp [*]; done)), H', ⟨by have := HK1.out; have := HJ3.out; first | omega | exact Nat.le_refl _⟩, by repeat (first | exact Drawn0.refl _ | apply Drawn0.step)⟩
            ·rw [if_neg c21] at H
             exact absurd H (by simp)
           ·rw [if_neg c19] at H
            have c19b0 : ((bt a0 x1_1) == 47) = false := beq_eq_false_iff_ne.mpr c19
            have c19b1 : ((bt a0 x1_1) != 47) = true := bne_iff_ne.mpr c19
            have H' := Aside0.mk H
            clear H
            have p18 : 0 ≤ (x1_1 : Int) := of_decide_eq_true (by first | (with_reducible assumption) | assumption)
            have q18 : x1_1 < (a0.size : Int) := of_decide_eq_true (by first | (with_reducible assumption) | assumption)
            have hx18 := xCn a0 x1_1
            replace p18 := eq_true p18
            replace q18 := eq_true q18
            go_wp2
            go_meet
            case rel => exact ⟨_, (false), (by first | rfl | (simp; done) | (simp [*]; done)), H', ⟨by have := HK1.out; have := HJ3.out; first | omega | exact Nat.le_refl _⟩, by repeat (first | exact Drawn0.refl _ | apply Drawn0.step)⟩
          ·rw [if_neg c17] at H
           exact absurd H (by simp)
         ·rw [if_neg c16] at H
          exact absurd H (by simp)
        ·rw [if_neg c15] at H
         have c15b0 : decide ((wrap64 (x1_1 + 1)) < (a0.size : Int)) = false := decide_eq_false c15
         clear c15
         (first | rw [c15b0] | (simp only [xB0, xB1]; rw [c15b0]) | skip)
         have H' := Aside0.mk H
         clear H
         go_wp2
         go_meet
         case rel => exact ⟨_, (false), (by first | rfl | (simp; done) | (simp [*]; done)), H', ⟨by have := HK1.out; have := HJ3.out; first | omega | exact Nat.le_refl _⟩, by repeat (first | exact Drawn0.refl _ | apply Drawn0.step)⟩
       case rest =>
        clear HC14
        try clear c1
        try clear p1
        try clear q1
        try clear hx1
        try clear c2
        try clear p2
        try clear q2
        try clear hx2
        try clear c3
        try clear c3b0
        try clear c5
        try clear c5b0
        try clear p6
        try clear q6
        try clear hx6
        try clear c7
        try clear c7b0
        try clear c7b1
        try clear p8
        try clear q8
        try clear hx8
        try clear c9
        try clear c9b0
        try clear c9b1
        try clear p10
        try clear q10
        try clear hx10
        try clear c11
        try clear c11b0
        try clear c11b1
        try clear p12
        try clear q12
        try clear hx12
        try clear c13
        try clear c15
        try clear c15b0
        try clear c16
        try clear c16b0
        try clear c17
        try clear c17b0
        try clear p18
        try clear q18
        try clear hx18
        try clear c19
        try clear c19b0
        try clear c19b1
        try clear c21
        try clear c21b0
        try clear p22
        try clear q22
        try clear hx22
        try clear p1
        try clear p10
        try clear p12
        try clear p18
        try clear p2
        try clear p22
        try clear p6
        try clear p8
        try clear q1
        try clear q10
        try clear q12
        try clear q18
        try clear q22
        try clear q6
        try clear q8
        obtain ⟨kq, x35_13, rfl, HA, HJ13, ⟨mc13, rfl⟩⟩ := hcut
        cases kq with
        | zero => exact absurd HA.out (by simp [xAd.j2])
        | succ kj13 =>
         have H := HA.out
         clear HA
         simp only [xAd.j2] at H
         by_cases c23 : x35_13 = true
         ·subst c23
          have H1 : (xAd.l1 kj13 a0 x1_1) = some r := by rw [if_pos rfl] at H; exact H
          clear H
          have H := H1
          clear H1
          have H' := Aside0.mk H
          clear H
          go_wp2
          go_loopg [1] kj13 (fun kq v1 w' => ∃ (x1_4 : Int), v1 = .int .i64 x1_4 ∧ Aside0 (xAd.l1 kq a0 x1_4 = some r) ∧ Aside0 (kq ≤ kj13) ∧ Drawn0 w w')
          case atStart => exact ⟨(x1_1), (by first | rfl | (simp; done) | (simp [*]; done)), H', ⟨Nat.le_refl _⟩, by repeat (first | exact Drawn0.refl _ | apply Drawn0.step)⟩
          case round =>
           clear H'
           try clear c1
           try clear p1
           try clear q1
           try clear hx1
           try clear c2
           try clear p2
           try clear q2
           try clear hx2
           try clear c3
           try clear c3b0
           try clear c5
           try clear c5b0
           try clear p6
           try clear q6
           try clear hx6
           try clear c7
           try clear c7b0
           try clear c7b1
           try clear p8
           try clear q8
           try clear hx8
           try clear c9
           try clear c9b0
           try clear c9b1
           try clear p10
           try clear q10
           try clear hx10
           try clear c11
           try clear c11b0
           try clear c11b1
           try clear p12
           try clear q12
           try clear hx12
           try clear c13
           try clear c15
           try clear c15b0
           try clear c16
           try clear c16b0
           try clear c17
           try clear c17b0
           try clear p18
           try clear q18
           try clear hx18
           try clear c19
           try clear c19b0
           try clear c19b1
           try clear c21
           try clear c21b0
           try clear p22
           try clear q22
           try clear hx22
           try clear c23
           try clear p1
           try clear p10
           try clear p12
           try clear p18
           try clear p2
           try clear p22
           try clear p6
           try clear p8
           try clear q1
           try clear q10
           try clear q12
           try clear q18
           try clear q2
           try clear q22
           try clear q6
           try clear q8
           obtain ⟨x1_4, rfl, HA, HK4, ⟨m4, rfl⟩⟩ := hrel
           cases gk with
           | zero => exact absurd HA.out (by simp [xAd.l1])
           | succ k4 =>
            have H := HA.out
            clear HA
            simp only [xAd.l1] at H
            by_cases c24 : x1_4 < (a0.size : Int)
            ·rw [if_pos c24] at H
             have c24b0 : decide (x1_4 < (a0.size : Int)) = true := decide_eq_true c24
             clear c24
             by_cases c25 : 0 ≤ x1_4
             ·rw [if_pos c25] at H
              have c25b0 : decide (0 ≤ x1_4) = true := decide_eq_true c25
              clear c25
              by_cases c27 : (bt a0 x1_4) = 10
              ·rw [if_pos c27] at H
               have c27b0 : ((bt a0 x1_4) == 10) = true := beq_iff_eq.mpr c27
               have c27b1 : ((bt a0 x1_4) != 10) = false := bne_eq_false_iff_eq.mpr c27
               clear c27
               have H' := Aside0.mk H
               clear H
               have p26 : 0 ≤ (x1_4 : Int) := of_decide_eq_true (by first | (with_reducible assumption) | assumption)
               have q26 : x1_4 < (a0.size : Int) := of_decide_eq_true (by first | (with_reducible assumption) | assumption)
               have hx26 := xCn a0 x1_4
               replace p26 := eq_true p26
               replace q26 := eq_true q26
               go_wp2
               go_roundg k4
               case measure => have := HK1.out; have := HJ3.out; have := HJ13.out; have := HK4.out; omega
               case rel => exact ⟨(x1_4), (by first | rfl | (simp; done) | (simp [*]; done)), H', ⟨by have := HK1.out; have := HJ3.out; have := HJ13.out; have := HK4.out; omega⟩, by repeat (first | exact Drawn0.refl _ | apply Drawn0.step)⟩
              ·rw [if_neg c27] at H
               have c27b0 : ((bt a0 x1_4) == 10) = false := beq_eq_false_iff_ne.mpr c27
               have c27b1 : ((bt a0 x1_4) != 10) = true := bne_iff_ne.mpr c27
               have H' := Aside0.mk H
               clear H
               have p26 : 0 ≤ (x1_4 : Int) := of_decide_eq_true (by first | (with_reducible assumption) | assumption)
               have q26 : x1_4 < (a0.size : Int) := of_decide_eq_true (by first | (with_reducible assumption) | assumption)
               have hx26 := xCn a0 x1_4
               replace p26 := eq_true p26
               replace q26 := eq_true q26
               go_wp2
               go_roundg k4
               case measure => have := HK1.out; have := HJ3.out; have := HJ13.out; have := HK4.out; omega
               case rel => exact ⟨(wrap64 (x1_4 + 1)), (by first | rfl | (simp; done) | (simp [*]; done)), H', ⟨by have := HK1.out; have := HJ3.out; have := HJ13.out; have := HK4.out; omega⟩, by repeat (first | exact Drawn0.refl _ | apply Drawn0.step)⟩
             ·rw [if_neg c25] at H
              exact absurd H (by simp)
            ·rw [if_neg c24] at H
             have c24b0 : decide (x1_4 < (a0.size : Int)) = false := decide_eq_false c24
             clear c24
             have H' := Aside0.mk H
             clear H
             go_wp2
             go_roundg k4
             case measure => have := HK1.out; have := HJ3.out; have := HJ13.out; have := HK4.out; omega
             case rel => exact ⟨(x1_4), (by first | rfl | (simp; done) | (simp [*]; done)), H', ⟨by have := HK1.out; have := HJ3.out; have := HJ13.out; have := HK4.out; omega⟩, by repeat (first | exact Drawn0.refl _ | apply Drawn0.step)⟩
         ·replace c23 := Bool.eq_false_iff.mpr c23
          subst c23
          have H1 : (some x1_1) = some r := by rw [if_neg (show ¬ (false = true) by decide)] at H; exact H
          clear H
          have H := H1
          clear H1
          obtain rfl := Option.some.inj H
          go_wp2
          go_ret
          exact ⟨by first | rfl | (simp; done) | (simp [*]; done), by repeat (first | exact Drawn0.refl _ | apply Drawn0.step)⟩
   ·rw [if_neg c3] at H
    have c3b0 : decide (x1_1 < (a0.size : Int)) = false := decide_eq_false c3
    clear c3
    obtain rfl := Option.some.inj H
    go_wp2
    go_ret
    exact ⟨by first | rfl | (simp; done) | (simp [*]; done), by repeat (first | exact Drawn0.refl _ | apply Drawn0.step)⟩

end Go.Proofs.YtknbfhhmjbnemaaDoor.P
end
section
namespace Go.Proofs.YtknbfhhmjbnemaaDoor.P
open Go.RowKit Go.Proofs.YtknbfhhmjbnemaaDoorW.PrintWords Go.Proofs.YtknbfhhmjbnemaaDoorW.PrintLast Go.Proofs.YtknbfhhmjbnemaaDoorW.PrintMore
attribute [local go_sem] xB9 xBe

/-! ### xAn: function 20 -/
def xAn.l0 : Nat → ByteArray → List (S60) → Int → Option ((List (S60)) × Int × Int)
 | 0, _, _, _ => none
 | k + 1, x0, x5, x6 => if x6 < (x0.size : Int) then (if (x5.length : Int) = 500 then (some (([] : List (S60)), 103, x6)) else ((xBp.f x0 x6).bind fun bt214 => (if bt214.2.2.2.2.2.1 = 0 then (if x5.length < 3518437208883 then ((xAd.f k x0 bt214.2.2.2.2.1).bind fun t225 => (xAn.l0 k x0 (x5 ++ [(⟨bt214.1, bt214.2.1, bt214.2.2.1, bt214.2.2.2.1⟩ : S60)]) t225)) else (none)) else (some (([] : List (S60)), bt214.2.2.2.2.2.1, bt214.2.2.2.2.2.2))))) else (some (x5, 0, (-1)))
def xAn.f (k : Nat) (a0 : ByteArray) : Option ((List (S60)) × Int × Int) := if (a0.size : Int) > 2000 then (some (([] : List (S60)), 103, 0)) else ((xAd.f k a0 0).bind fun t213 => (xAn.l0 k a0 ([] : List (S60)) t213))
set_option maxHeartbeats 8000000 in
set_option maxRecDepth 100000 in
theorem xAn.calls (k : Nat) (a0 : ByteArray) (r1 : List (S60)) (r2 : Int) (r3 : Int) (w : World) (h : xAn.f k a0 = some (r1, r2, r3)) :
  Calls Tryd.prog 20 #[.string a0] w fun e w' => ∃ v0_ : Value, e = .returned (.tuple #[v0_, .int .i64 r2, .int .i64 r3]) ∧ Kd.R k60 60 w' w.heap.size (fun _ => True) v0_ r1 ∧ Below w.heap.size w w' := by
 have hu60 := Tryd.underlying60
 have HB := Aside0.mk (Below.refl w.heap.size w)
 have H : (if (a0.size : Int) > 2000 then (some (([] : List (S60)), 103, 0)) else ((xAd.f k a0 0).bind fun t213 => (xAn.l0 k a0 ([] : List (S60)) t213))) = some (r1, r2, r3) := h
 clear h
 by_cases c2 : (a0.size : Int) > 2000
 ·rw [if_pos c2] at H
  have c2b0 : decide (2000 < (a0.size : Int)) = true := decide_eq_true c2
  have c2b1 : decide (2000 < a0.size) = true := decide_eq_true (by omega)
  clear c2
  simp only [Option.some.injEq, Prod.mk.injEq] at H
  obtain ⟨rfl, rfl, rfl⟩ := H
  go_enter Tryd.func20, Tryd.ntmps20
  go_wp2
  go_ret3
  exact ⟨_, by first | rfl | (simp <;> rfl) | (simp [*] <;> rfl), by first | exact Kd.R_nil _ _ _ _ _ | exact Kd.N_nil _ _ _ _ _ | exact Kd.V_nil _ _ _ _ _ | exact Kd.Q_nil _ _ _ _ _ | exact Kd.S_nil _ _ _ _ _, by repeat (first | (with_reducible first | exact HB.out | apply xA1 | apply xA0 | apply below_drew1) | exact HB.out)⟩
 ·rw [if_neg c2] at H
  have c2b0 : decide (2000 < (a0.size : Int)) = false := decide_eq_false c2
  have c2b1 : decide (2000 < a0.size) = false := decide_eq_false (by omega)
  clear c2
  replace H := Option.bind_eq_some_iff.mp H
  obtain ⟨t213, A30, H⟩ := H
  replace H : (xAn.l0 k a0 ([] : List (S60)) t213) = some (r1, r2, r3) := H
  have A3 := Aside0.mk A30
  clear A30
  have H' := Aside0.mk H
  clear H
  go_enter Tryd.func20, Tryd.ntmps20
  go_wp2_with (first | ((with_reducible refine xAj (f := 39) rfl ?_); refine xB6 (some 15) rfl rfl Tryd.func39 (by kernel_rfl) rfl #[.string a0, .int .i64 0] rfl (by (try simp only [List.map_toArray, List.map_cons, List.map_nil]); first | done | rfl | (simp only [List.length_drop, List.length_take]; rfl)) ?_; (with_reducible refine (xAd.calls k a0 0 t213 _ A3.out).mono ?_); rintro e w' ⟨rfl, ⟨nd, rfl⟩⟩; refine ⟨_, rfl, ?_⟩))
  go_loopg [5, 6] k (fun kq v5 v6 w' => ∃ (x5_1 : List (S60)) (x6_1 : Int), v6 = .int .i64 x6_1 ∧ Aside0 (xAn.l0 kq a0 x5_1 x6_1 = some (r1, r2, r3)) ∧ Aside0 (kq ≤ k) ∧ Aside0 (Kd.R k60 60 w' w.heap.size (fun _ => True) v5 x5_1) ∧ Aside0 (Below w.heap.size w w'))
  case atStart => exact ⟨(([] : List (S60))), (t213), (by first | rfl | (simp; done) | (simp [*]; done)), H', ⟨Nat.le_refl _⟩, ⟨by first | exact Kd.R_nil _ _ _ _ _ | exact Kd.N_nil _ _ _ _ _ | exact Kd.V_nil _ _ _ _ _ | exact Kd.Q_nil _ _ _ _ _ | exact Kd.S_nil _ _ _ _ _⟩, ⟨by repeat (first | (with_reducible first | exact HB.out | apply xA1 | apply xA0 | apply below_drew1) | exact HB.out)⟩⟩
  case round =>
   clear H'
   try clear c2
   try clear c2b0
   try clear c2b1
   try clear p2
   try clear c3
   obtain ⟨x5_1, x6_1, rfl, HA, HK1, HO_5, HB⟩ := hrel
   cases gk with
   | zero => exact absurd HA.out (by simp [xAn.l0])
   | succ k1 =>
    have H := HA.out
    clear HA
    simp only [xAn.l0] at H
    by_cases c4 : x6_1 < (a0.size : Int)
    ·rw [if_pos c4] at H
     have c4b0 : decide (x6_1 < (a0.size : Int)) = true := decide_eq_true c4
     clear c4
     by_cases c5 : (x5_1.length : Int) = 500
     ·rw [if_pos c5] at H
      have c5b0 : ((x5_1.length : Int) == 500) = true := beq_iff_eq.mpr c5
      have c5b1 : ((x5_1.length : Int) != 500) = false := bne_eq_false_iff_eq.mpr c5
      clear c5
      simp only [Option.some.injEq, Prod.mk.injEq] at H
      obtain ⟨rfl, rfl, rfl⟩ := H
      obtain ⟨Ao6, co6, eo6⟩ := Kd.R_slice HO_5.out
      subst eo6
      go_wp2
      go_ret3
      exact ⟨_, by first | rfl | (simp <;> rfl) | (simp [*] <;> rfl), by first | exact Kd.R_nil _ _ _ _ _ | exact Kd.N_nil _ _ _ _ _ | exact Kd.V_nil _ _ _ _ _ | exact Kd.Q_nil _ _ _ _ _ | exact Kd.S_nil _ _ _ _ _, by repeat (first | (with_reducible first | exact HB.out | apply xA1 | apply xA0 | apply below_drew1) | exact HB.out)⟩
     ·rw [if_neg c5] at H
      have c5b0 : ((x5_1.length : Int) == 500) = false := beq_eq_false_iff_ne.mpr c5
      have c5b1 : ((x5_1.length : Int) != 500) = true := bne_iff_ne.mpr c5
      replace H := Option.bind_eq_some_iff.mp H
      obtain ⟨⟨t214, t215, t216, t217, t218, t219, t220⟩, A70, H⟩ := H
      replace H : (if t219 = 0 then (if x5_1.length < 3518437208883 then ((xAd.f k1 a0 t218).bind fun t225 => (xAn.l0 k1 a0 (x5_1 ++ [(⟨t214, t215, t216, t217⟩ : S60)]) t225)) else (none)) else (some (([] : List (S60)), t219, t220))) = some (r1, r2, r3) := H
      have A7 := Aside0.mk A70
      clear A70
      by_cases c8 : t219 = 0
      ·rw [if_pos c8] at H
       have c8b0 : (t219 == 0) = true := beq_iff_eq.mpr c8
       have c8b1 : (t219 != 0) = false := bne_eq_false_iff_eq.mpr c8
       clear c8
       by_cases c9 : x5_1.length < 3518437208883
       ·rw [if_pos c9] at H
        have LMc9 := Aside0.mk c9
        clear c9
        obtain ⟨y222, hy222⟩ : ∃ y_ : List (S60), y_ = (x5_1 ++ [(⟨t214, t215, t216, t217⟩ : S60)]) := ⟨_, rfl⟩
        replace H : ((xAd.f k1 a0 t218).bind fun t225 => (xAn.l0 k1 a0 y222 t225)) = some (r1, r2, r3) := by first | (rw [hy222]; with_reducible exact H) | (have H2_ := (Option.bind_some _ _).symm.trans H; rw [hy222]; with_reducible exact H2_) | (have H2_ := (Option.bind_some _ _).symm.trans H; with_reducible exact H2_) | with_reducible exact H | (rw [hy222]; exact H) | exact H
        have Ny222 := Aside0.mk hy222
        clear hy222
        replace H := Option.bind_eq_some_iff.mp H
        obtain ⟨t225, A100, H⟩ := H
        replace H : (xAn.l0 k1 a0 y222 t225) = some (r1, r2, r3) := H
        have A10 := Aside0.mk A100
        clear A100
        have H' := Aside0.mk H
        clear H
        obtain ⟨Ao11, co11, eo11⟩ := Kd.R_slice HO_5.out
        subst eo11
        go_wp2_with (first | ((with_reducible refine xAj (f := 40) rfl ?_); refine xB6 (some 27) rfl rfl Tryd.func40 (by kernel_rfl) rfl #[.string a0, .int .i64 x6_1] rfl (by (try simp only [List.map_toArray, List.map_cons, List.map_nil]); first | done | rfl | (simp only [List.length_drop, List.length_take]; rfl)) ?_; (with_reducible refine (xBp.calls a0 x6_1 t214 t215 t216 t217 t218 t219 t220 _ A7.out).mono ?_); rintro e w12 ⟨rfl, hb⟩; refine ⟨_, rfl, ?_⟩; have n0_ := Aside0.mk (Kd.R_below (by (with_reducible repeat (first | apply Kd.R_alloc | apply Kd.R_drewN | apply Kd.R_drew)); exact HO_5.out) hb); have n1_ := Aside0.mk (xAi (by repeat (first | (with_reducible first | exact HB.out | apply xA1 | apply xA0 | apply below_drew1) | exact HB.out)) hb); clear HO_5; clear HB; have HO_5 := n0_; have HB := n1_; clear n0_ n1_; (try clear hb); (try clear hb2); (try clear hk); (try clear hi)) | ((with_reducible refine xBq (N := 7) rfl ?_); refine xBm ?hg (N := 7) ?hd (cs := #[.int .i64 0, .string (⟨#[]⟩ : ByteArray), .int .i64 0, .int .i64 0]) (t := 60) ?hr ?_; (case hd => rfl); (case hg => rfl); (case hr => first | (go_simp; done) | (go_simp; rfl)); intro gb221 hg w13 hbox hb; have n0_ := Aside0.mk (Kd.R_below (Kd.R_elderB (by (with_reducible repeat (first | apply Kd.R_alloc | apply Kd.R_drewN | apply Kd.R_drew)); exact HO_5.out) gb221 (Nat.le_of_eq hg.symm)) hb); have n1_ := Aside0.mk (xAi (by repeat (first | (with_reducible first | exact HB.out | apply xA1 | apply xA0 | apply below_drew1) | exact HB.out)) hb); have n2_ := Aside0.mk (hbox); have n3_ := Aside0.mk ((by rw [hg]; exact (xAs (by repeat (first | (with_reducible first | exact HB.out | apply xA1 | apply xA0 | apply below_drew1) | exact HB.out))) : w.heap.size ≤ gb221)); have n4_ := Aside0.mk ((by rw [hg]; exact (xAs (by repeat (first | (with_reducible first | exact HB.out | apply xA1 | apply xA0 | apply below_drew1) | exact HB.out))) : w.heap.size ≤ gb221)); clear HO_5; clear HB; have HO_5 := n0_; have HB := n1_; have BK221 := n2_; have GW221 := n3_; have GE221 := n4_; clear n0_ n1_ n2_ n3_ n4_; clear hb hbox hg; obtain ⟨hcz14_0, hcz14_1, hcz14_2, hcz14_3, hfz14_0, hfz14_1, hfz14_2, hfz14_3⟩ := ex4 BK221.out) | ((with_reducible refine xF2 (b := .append) (xs := #[.tmp 36, .tmp 38]) rfl ?_); at_builtin; refine Kd.R_append k60 (w0 := w) w.heap.size rfl (.tmp 36) (.tmp 38) 36 60 (.agg #[(.int .i64 0), (.string ⟨#[]⟩), (.int .i64 0), (.int .i64 0)]) 40 rfl Tryd.underlying36 info60 rfl (by decide) (by omega) (.slice Ao11 x5_1.length co11) x5_1 (⟨t214, t215, t216, t217⟩ : S60) [.int .i64 t214, .string t215, .int .i64 t216, .int .i64 t217] (fun k_ => k_ ≠ gb221) (fun _ => False) rfl (by first | (go_simp; done) | (go_simp; rfl)) ?aP (fun _ hk => hk.elim) ?aF ?aO ?aB ?aS ?aL ?_; (case aP => exact xKt _ _ _ (⟨t214, t215, t216, t217⟩ : S60)); (case aB => exact (by repeat (first | (with_reducible first | exact HB.out | apply xA1 | apply xA0 | apply below_drew1 | refine xA6 ?_ GE221.out) | exact HB.out))); (case aF => exact (fun k_ hk => Kd.freshB (g := gb221) (o := .cells #[.int .i64 t214, .string t215, .int .i64 t216, .int .i64 t217] 60 (0, 0)) (by (with_reducible repeat (first | refine xA5 ?_ _ | refine xA8 ?_ | refine xA4 ?_ _)); refine xAh (cs := #[.int .i64 t214, .string t215, .int .i64 t216, .int .i64 0]) ?_ 3 _ rfl; (with_reducible repeat (first | refine xA5 ?_ _ | refine xA8 ?_ | refine xA4 ?_ _)); refine xAh (cs := #[.int .i64 t214, .string t215, .int .i64 0, .int .i64 0]) ?_ 2 _ rfl; (with_reducible repeat (first | refine xA5 ?_ _ | refine xA8 ?_ | refine xA4 ?_ _)); refine xAh (cs := #[.int .i64 t214, .string (⟨#[]⟩ : ByteArray), .int .i64 0, .int .i64 0]) ?_ 1 _ rfl; (with_reducible repeat (first | refine xA5 ?_ _ | refine xA8 ?_ | refine xA4 ?_ _)); refine xAh (cs := #[.int .i64 0, .string (⟨#[]⟩ : ByteArray), .int .i64 0, .int .i64 0]) ?_ 0 _ rfl; (with_reducible repeat (first | refine xA5 ?_ _ | refine xA8 ?_ | refine xA4 ?_ _)); exact BK221.out) k_ hk)); (case aO => exact (by (with_reducible repeat (first | apply Kd.R_alloc | apply Kd.R_drewN | apply Kd.R_drew)); exact Kd.R_mono (Kd.R_far (p := ⟨gb221, 3, none⟩) (Kd.R_far (p := ⟨gb221, 2, none⟩) (Kd.R_far (p := ⟨gb221, 1, none⟩) (Kd.R_far (p := ⟨gb221, 0, none⟩) (Kd.R_mono HO_5.out (fun k_ hk => (⟨hk, hk.2⟩ : _ ∧ k_ ≠ gb221))) (fun _ hk => hk.2) (.int .i64 t214)) (fun _ hk => hk.2) (.string t215)) (fun _ hk => hk.2) (.int .i64 t216)) (fun _ hk => hk.2) (.int .i64 t217)) (fun _ hk => hk.1.2))); (case aS => exact (xAs (by repeat (first | (with_reducible first | exact HB.out | apply xA1 | apply xA0 | apply below_drew1 | refine xA6 ?_ GE221.out) | exact HB.out)))); (case aL => have := LMc9.out; omega); intro v223 w15 ho hb hg hat; rw [← Ny222.out] at ho; have n0_ := Aside0.mk (xCv (g := gb221) (o := .cells #[.int .i64 t214, .string t215, .int .i64 t216, .int .i64 t217] 60 (0, 0)) (by (with_reducible repeat (first | refine xA5 ?_ _ | refine xA8 ?_ | refine xA4 ?_ _)); refine xAh (cs := #[.int .i64 t214, .string t215, .int .i64 t216, .int .i64 0]) ?_ 3 _ rfl; (with_reducible repeat (first | refine xA5 ?_ _ | refine xA8 ?_ | refine xA4 ?_ _)); refine xAh (cs := #[.int .i64 t214, .string t215, .int .i64 0, .int .i64 0]) ?_ 2 _ rfl; (with_reducible repeat (first | refine xA5 ?_ _ | refine xA8 ?_ | refine xA4 ?_ _)); refine xAh (cs := #[.int .i64 t214, .string (⟨#[]⟩ : ByteArray), .int .i64 0, .int .i64 0]) ?_ 1 _ rfl; (with_reducible repeat (first | refine xA5 ?_ _ | refine xA8 ?_ | refine xA4 ?_ _)); refine xAh (cs := #[.int .i64 0, .string (⟨#[]⟩ : ByteArray), .int .i64 0, .int .i64 0]) ?_ 0 _ rfl; (with_reducible repeat (first | refine xA5 ?_ _ | refine xA8 ?_ | refine xA4 ?_ _)); exact BK221.out) hg (Kd.R_away HO_5.out (fun _ hk => hk.2))); have n1_ := Aside0.mk (hb); have n2_ := Aside0.mk (ho); clear BK221; clear HB; clear HO_5; have BK221 := n0_; have HB := n1_; have HO224 := n2_; clear n0_ n1_ n2_; clear ho hb hg hat) | ((with_reducible refine xAj (f := 39) rfl ?_); refine xB6 (some 42) rfl rfl Tryd.func39 (by kernel_rfl) rfl #[.string a0, .int .i64 t218] rfl (by (try simp only [List.map_toArray, List.map_cons, List.map_nil]); first | done | rfl | (simp only [List.length_drop, List.length_take]; rfl)) ?_; (with_reducible refine (xAd.calls k1 a0 t218 t225 _ A10.out).mono ?_); rintro e w' ⟨rfl, ⟨nd, rfl⟩⟩; refine ⟨_, rfl, ?_⟩))
        go_roundg k1
        case measure => have := HK1.out; omega
        case rel => exact ⟨(y222), (t225), (by first | rfl | (simp; done) | (simp [*]; done)), H', ⟨by have := HK1.out; omega⟩, ⟨by (with_reducible repeat (first | apply Kd.R_alloc | apply Kd.R_drewN | apply Kd.R_drew)); exact Kd.R_mono HO224.out (fun _ hk => trivial)⟩, ⟨by repeat (first | (with_reducible first | exact HB.out | apply xA1 | apply xA0 | apply below_drew1 | refine xA6 ?_ GE221.out) | exact HB.out)⟩⟩
       ·rw [if_neg c9] at H
        exact absurd H (by simp)
      ·rw [if_neg c8] at H
       have c8b0 : (t219 == 0) = false := beq_eq_false_iff_ne.mpr c8
       have c8b1 : (t219 != 0) = true := bne_iff_ne.mpr c8
       simp only [Option.some.injEq, Prod.mk.injEq] at H
       obtain ⟨rfl, rfl, rfl⟩ := H
       obtain ⟨Ao16, co16, eo16⟩ := Kd.R_slice HO_5.out
       subst eo16
       go_wp2_with (first | ((with_reducible refine xAj (f := 40) rfl ?_); refine xB6 (some 27) rfl rfl Tryd.func40 (by kernel_rfl) rfl #[.string a0, .int .i64 x6_1] rfl (by (try simp only [List.map_toArray, List.map_cons, List.map_nil]); first | done | rfl | (simp only [List.length_drop, List.length_take]; rfl)) ?_; (with_reducible refine (xBp.calls a0 x6_1 t214 t215 t216 t217 t218 t219 t220 _ A7.out).mono ?_); rintro e w17 ⟨rfl, hb⟩; refine ⟨_, rfl, ?_⟩; have n0_ := Aside0.mk (Kd.R_below (by (with_reducible repeat (first | apply Kd.R_alloc | apply Kd.R_drewN | apply Kd.R_drew)); exact HO_5.out) hb); have n1_ := Aside0.mk (xAi (by repeat (first | (with_reducible first | exact HB.out | apply xA1 | apply xA0 | apply below_drew1) | exact HB.out)) hb); clear HO_5; clear HB; have HO_5 := n0_; have HB := n1_; clear n0_ n1_; (try clear hb); (try clear hb2); (try clear hk); (try clear hi)) | ((with_reducible refine xBq (N := 7) rfl ?_); refine xBm ?hg (N := 7) ?hd (cs := #[.int .i64 0, .string (⟨#[]⟩ : ByteArray), .int .i64 0, .int .i64 0]) (t := 60) ?hr ?_; (case hd => rfl); (case hg => rfl); (case hr => first | (go_simp; done) | (go_simp; rfl)); intro gb221 hg w18 hbox hb; have n0_ := Aside0.mk (Kd.R_below (Kd.R_elderB (by (with_reducible repeat (first | apply Kd.R_alloc | apply Kd.R_drewN | apply Kd.R_drew)); exact HO_5.out) gb221 (Nat.le_of_eq hg.symm)) hb); have n1_ := Aside0.mk (xAi (by repeat (first | (with_reducible first | exact HB.out | apply xA1 | apply xA0 | apply below_drew1) | exact HB.out)) hb); have n2_ := Aside0.mk (hbox); have n3_ := Aside0.mk ((by rw [hg]; exact (xAs (by repeat (first | (with_reducible first | exact HB.out | apply xA1 | apply xA0 | apply below_drew1) | exact HB.out))) : w.heap.size ≤ gb221)); have n4_ := Aside0.mk ((by rw [hg]; exact (xAs (by repeat (first | (with_reducible first | exact HB.out | apply xA1 | apply xA0 | apply below_drew1) | exact HB.out))) : w.heap.size ≤ gb221)); clear HO_5; clear HB; have HO_5 := n0_; have HB := n1_; have BK221 := n2_; have GW221 := n3_; have GE221 := n4_; clear n0_ n1_ n2_ n3_ n4_; clear hb hbox hg; obtain ⟨hcz19_0, hcz19_1, hcz19_2, hcz19_3, hfz19_0, hfz19_1, hfz19_2, hfz19_3⟩ := ex4 BK221.out))
       go_ret3
       exact ⟨_, by first | rfl | (simp <;> rfl) | (simp [*] <;> rfl), by first | exact Kd.R_nil _ _ _ _ _ | exact Kd.N_nil _ _ _ _ _ | exact Kd.V_nil _ _ _ _ _ | exact Kd.Q_nil _ _ _ _ _ | exact Kd.S_nil _ _ _ _ _, by repeat (first | (with_reducible first | exact HB.out | apply xA1 | apply xA0 | apply below_drew1 | refine xA6 ?_ GE221.out) | exact HB.out)⟩
    ·rw [if_neg c4] at H
     have c4b0 : decide (x6_1 < (a0.size : Int)) = false := decide_eq_false c4
     clear c4
     simp only [Option.some.injEq, Prod.mk.injEq] at H
     obtain ⟨rfl, rfl, rfl⟩ := H
     go_wp2
     go_ret3
     exact ⟨_, by first | rfl | (simp <;> rfl) | (simp [*] <;> rfl), by (with_reducible repeat (first | apply Kd.R_alloc | apply Kd.R_drewN | apply Kd.R_drew)); exact HO_5.out, by repeat (first | (with_reducible first | exact HB.out | apply xA1 | apply xA0 | apply below_drew1) | exact HB.out)⟩

end Go.Proofs.YtknbfhhmjbnemaaDoor.P
end
section
namespace Go.Proofs.YtknbfhhmjbnemaaDoor.Pure
open Go.RowKit Go.Proofs.YtknbfhhmjbnemaaDoorW.PrintWords Go.Proofs.YtknbfhhmjbnemaaDoorW.PrintLast Go.Proofs.YtknbfhhmjbnemaaDoorW.PrintMore Go.Proofs.YtknbfhhmjbnemaaDoor.P

/-! the document's scanner says what scan says -/
theorem xFg : ∀ (l : List Int) (n : Int) (j : Nat), l.length + j ≤ 9 → 0 ≤ n → n < (10 : Int) ^ j → (∀ x ∈ l, xAx x = true) → l.foldl (fun n b => 10 * n + (b - 48)) n = l.foldl (fun n b => 10 * mn n 1099511627776 + (b - 48)) n
 | [], n, j, _, _, _, _ => rfl
 | b :: l, n, j, hl, h0, h1, hf => by
  have hb := xFq (hf b List.mem_cons_self)
  have hp : ∀ n : Nat, n ≤ 9 → (10 : Int) ^ n ≤ 1000000000 := by decide
  have h9 := hp j (by omega)
  simp only [List.length_cons] at hl
  rw [List.foldl_cons, List.foldl_cons, xIx n (by omega)]
  have hpow : (10 : Int) ^ (j + 1) = (10 : Int) ^ j * 10 := Int.pow_succ ..
  exact xFg l _ (j + 1) (by omega) (by omega) (by rw [hpow]; omega) (fun x hx => hf x (List.mem_cons_of_mem _ hx))
theorem xJf {l : List Int} (hl : l.length ≤ 9) (hf : ∀ x ∈ l, xAx x = true) : xD6 l = xCh l := xFg l 0 0 (by omega) (by omega) (by decide) hf
theorem xI7 (s : ByteArray) (i : Nat) (hi : i < s.size) (hs : s.size ≤ 140737488351232) :
  ∃ t1 t2 t3 t5, xGs s i = some (t1, t2, t3, (i : Int), t5, (oneL ((xAl s).drop i)).e, if (oneL ((xAl s).drop i)).e = 0 then -1 else ((i + (oneL ((xAl s).drop i)).off : Nat) : Int)) ∧
   ((oneL ((xAl s).drop i)).e = 0 → t1 = (oneL ((xAl s).drop i)).kind ∧ t2 = strOfNums (oneL ((xAl s).drop i)).s ∧ t3 = (oneL ((xAl s).drop i)).n ∧ t5 = ((i + (oneL ((xAl s).drop i)).len : Nat) : Int)) := by
 unfold xGs
 rw [if_pos ⟨by omega, by omega, hs⟩]
 simp only [Int.toNat_natCast]
 have hw := xCx xC6 s (s.size - i) i rfl (by omega)
 have hf := xCx xAx s (s.size - i) i rfl (by omega)
 have hh := xCx pHex s (s.size - (i + 1)) (i + 1) rfl (by omega)
 rw [hw, hf, hh]
 simp only [xHp]
 simp only [xF3]
 have hd := xC1 s i hi
 have hd2 : ∀ n, (xAl s).drop (i + n) = ((xAl s).drop i).drop n := fun n => by rw [List.drop_drop]
 have hd3 : ∀ n, (xAl s).drop (i + 1 + n) = ((xAl s).drop (i + 1)).drop n := fun n => by rw [List.drop_drop]
 rw [hd2, hd3]
 simp only [Nat.add_sub_cancel_left, xE0]
 rw [hd]
 generalize bt s i = c
 generalize (xAl s).drop (i + 1) = t
 have hnil : strOfNums [] = ⟨#[]⟩ := rfl
 by_cases c1 : xC2 c = true
 ·have ho : oneL (c :: t) = ⟨0, (c :: t).takeWhile xC6, 0, ((c :: t).takeWhile xC6).length, if 16 < ((c :: t).takeWhile xC6).length then 102 else 0, 0⟩ := by
   simp only [oneL]; rw [if_pos c1]
  rw [ho, if_pos c1]
  generalize (c :: t).takeWhile xC6 = W
  by_cases c2 : 16 < W.length
  ·rw [if_pos (by omega), if_pos c2]
   exact ⟨_, _, _, _, rfl, fun h => absurd h (show ¬ (102 : Int) = 0 by decide)⟩
  ·rw [if_neg (by omega), if_neg c2]
   exact ⟨_, _, _, _, rfl, fun h => ⟨rfl, rfl, rfl, rfl⟩⟩
 ·rw [if_neg c1]
  by_cases c2 : xAx c = true
  ·have ho : oneL (c :: t) = ⟨1, [], xCh ((c :: t).takeWhile xAx), ((c :: t).takeWhile xAx).length,
     if 9 < ((c :: t).takeWhile xAx).length then 102 else if xEq ((c :: t).drop ((c :: t).takeWhile xAx).length) = true then 101 else 0,
     if 9 < ((c :: t).takeWhile xAx).length then 0 else ((c :: t).takeWhile xAx).length⟩ := by
    simp only [oneL]; rw [if_neg c1, if_pos c2]
   rw [ho, if_pos c2]
   have hWf := xCt xAx (c :: t)
   clear ho
   generalize (c :: t).takeWhile xAx = W at *
   generalize xEq ((c :: t).drop W.length) = G
   by_cases c3 : 9 < W.length
   ·rw [if_pos (by omega), if_pos c3, if_pos c3]
    exact ⟨_, _, _, _, rfl, fun h => absurd h (show ¬ (102 : Int) = 0 by decide)⟩
   ·rw [if_neg (by omega), if_neg c3, if_neg c3]
    rw [xJf (by omega) hWf]
    cases G
    ·exact ⟨_, _, _, _, rfl, fun h => ⟨rfl, rfl, rfl, rfl⟩⟩
    ·exact ⟨_, _, _, _, rfl, fun h => absurd h (show ¬ (101 : Int) = 0 by decide)⟩
  ·rw [if_neg c2]
   by_cases c3 : c = 36
   ·have ho : oneL (c :: t) = ⟨2, t.takeWhile pHex, 0, (t.takeWhile pHex).length + 1,
      if (t.takeWhile pHex).length = 0 then 101 else if 128 < (t.takeWhile pHex).length then 102 else if xEq (t.drop (t.takeWhile pHex).length) = true then 101 else 0,
      if (t.takeWhile pHex).length = 0 then 1 else if 128 < (t.takeWhile pHex).length then 0 else (t.takeWhile pHex).length + 1⟩ := by
     simp only [oneL]; rw [if_neg c1, if_neg c2, if_pos c3]
    rw [ho, if_pos c3]
    generalize t.takeWhile pHex = W
    generalize xEq (t.drop W.length) = G
    have e9 : i + 1 + W.length = i + (W.length + 1) := by omega
    by_cases c4 : W.length = 0
    ·rw [if_pos (by omega), if_pos c4, if_pos c4, e9]
     have c5 : W = [] := List.length_eq_zero_iff.1 c4
     subst c5
     exact ⟨_, _, _, _, rfl, fun h => absurd h (show ¬ (101 : Int) = 0 by decide)⟩
    ·rw [if_neg (by omega), if_neg c4, if_neg c4]
     by_cases c5 : 128 < W.length
     ·rw [if_pos (by omega), if_pos c5, if_pos c5]
      exact ⟨_, _, _, _, rfl, fun h => absurd h (show ¬ (102 : Int) = 0 by decide)⟩
     ·rw [if_neg (by omega), if_neg c5, if_neg c5, e9]
      cases G
      ·exact ⟨_, _, _, _, rfl, fun h => ⟨rfl, rfl, rfl, rfl⟩⟩
      ·exact ⟨_, _, _, _, rfl, fun h => absurd h (show ¬ (101 : Int) = 0 by decide)⟩
   ·rw [if_neg c3]
    by_cases c4 : c = 40 ∨ c = 41 ∨ c = 44 ∨ c = 61 ∨ c = 59
    ·have ho : oneL (c :: t) = ⟨3, [c], 0, 1, 0, 0⟩ := by
      simp only [oneL]; rw [if_neg c1, if_neg c2, if_neg c3, if_pos c4]
     rw [ho, if_pos c4]
     exact ⟨_, _, _, _, rfl, fun h => ⟨rfl, rfl, rfl, rfl⟩⟩
    ·have ho : oneL (c :: t) = ⟨3, [], 0, 0, 101, 0⟩ := by
      simp only [oneL]; rw [if_neg c1, if_neg c2, if_neg c3, if_neg c4]
     rw [ho, if_neg c4]
     exact ⟨_, _, _, _, rfl, fun h => absurd h (show ¬ (101 : Int) = 0 by decide)⟩
/-! blanks and notes -/
theorem xEy (s : ByteArray) (hs : s.size ≤ 140737488351232) : ∀ (d : Nat), (∀ (i k : Nat), s.size - i ≤ d → i ≤ s.size → 6 * d + 4 < k → xAd.l0 k s i = some ((skipAt s i : Nat) : Int)) ∧
  (∀ (i k : Nat), s.size - i ≤ d → i ≤ s.size → 6 * d + 6 < k → xAd.l1 k s i = some ((s.size - (xC9 true ((xAl s).drop i)).length : Nat) : Int)) := by
 have hend : ∀ i, i ≤ s.size → ¬ i < s.size → (xAl s).drop i = [] := fun i hi hlt => List.drop_eq_nil_iff.2 (by rw [xAz]; omega)
 have h0end : ∀ (i k : Nat), i ≤ s.size → ¬ i < s.size → 1 ≤ k → xAd.l0 k s i = some ((skipAt s i : Nat) : Int) := by
  intro i k hi hlt hk
  obtain ⟨k, rfl⟩ : ∃ m, k = m + 1 := ⟨k - 1, by omega⟩
  rw [xAd.l0, if_neg (by omega)]
  unfold skipAt
  rw [hend i hi hlt]
  simp only [xC9, List.length_nil]
  congr 1
  omega
 have h1end : ∀ (i k : Nat), i ≤ s.size → ¬ i < s.size → 2 ≤ k → xAd.l1 k s i = some ((s.size - (xC9 true ((xAl s).drop i)).length : Nat) : Int) := by
  intro i k hi hlt hk
  obtain ⟨k, rfl⟩ : ∃ m, k = m + 1 := ⟨k - 1, by omega⟩
  rw [xAd.l1, if_neg (by omega), h0end i k hi hlt (by omega)]
  unfold skipAt
  rw [hend i hi hlt]
  simp [xC9]
 intro d
 induction d with
 | zero => exact ⟨fun i k hd hi hk => h0end i k hi (by omega) (by omega), fun i k hd hi hk => h1end i k hi (by omega) (by omega)⟩
 | succ d ih =>
  have hwrap : ∀ i : Nat, i < s.size → wrap64 ((i : Int) + 1) = ((i + 1 : Nat) : Int) := fun i hi => by unfold wrap64; omega
  have key0 : ∀ (i k : Nat), s.size - i ≤ d + 1 → i ≤ s.size → 6 * (d + 1) + 4 < k → xAd.l0 k s i = some ((skipAt s i : Nat) : Int) := by
   intro i k hd hi hk
   by_cases hlt : i < s.size
   case neg => exact h0end i k hi hlt (by omega)
   obtain ⟨k, rfl⟩ : ∃ m, k = m + 4 := ⟨k - 4, by omega⟩
   have hr := xJ4 s i
   have hdr := xC1 s i hlt
   have hj1 : xAd.l0 (k + 4) s i = xAd.j1 (k + 3) s i (xCy (bt s i)) := by
    rw [xAd.l0, if_pos (by omega), if_pos (by omega)]
    unfold xCy
    by_cases b1 : bt s i = 9
    ·rw [if_pos b1, b1]; rfl
    rw [if_neg b1]
    by_cases b2 : bt s i = 10
    ·rw [if_pos b2, b2]; rfl
    rw [if_neg b2]
    by_cases b3 : bt s i = 13
    ·rw [if_pos b3, b3]; rfl
    rw [if_neg b3, beq_eq_false_iff_ne.2 b1, beq_eq_false_iff_ne.2 b2, beq_eq_false_iff_ne.2 b3]
    rfl
   rw [hj1, xAd.j1]
   by_cases hb : xCy (bt s i) = true
   ·rw [if_pos hb, hwrap i hlt, ih.1 (i + 1) (k + 2) (by omega) (by omega) (by omega)]
    congr 2
    unfold skipAt
    rw [hdr]
    simp only [xC9, hb, if_true]
   ·rw [if_neg hb, hwrap i hlt]
    have hj2 : ∀ b : Bool, b = decide (bt s i = 47 ∧ ((xAl s).drop (i + 1)).head? = some 47) → xAd.j2 (k + 2) s i b = some ((skipAt s i : Nat) : Int) := by
     intro b hbb
     rw [xAd.j2]
     by_cases hc : bt s i = 47 ∧ ((xAl s).drop (i + 1)).head? = some 47
     ·rw [if_pos (by rw [hbb]; exact decide_eq_true hc)]
      have hsk : xC9 false ((xAl s).drop i) = xC9 true ((xAl s).drop (i + 1)) := by
       rw [hdr]
       simp only [xC9]
       rw [if_neg hb, if_pos hc]
      rw [xAd.l1, if_pos (by omega), if_pos (by omega), if_neg (by rw [hc.1]; decide), hwrap i hlt, ih.2 (i + 1) k (by omega) (by omega) (by omega)]
      unfold skipAt
      rw [hsk]
     ·rw [if_neg (by rw [hbb, decide_eq_false hc]; decide)]
      unfold skipAt
      rw [hdr]
      simp only [xC9]
      rw [if_neg hb, if_neg hc]
      simp only [List.length_cons, List.length_drop, xAz]
      congr 1
      omega
    by_cases h1 : i + 1 < s.size
    ·have hd1 := xC1 s (i + 1) h1
     rw [if_pos (by omega), if_pos (by omega), if_pos (by omega)]
     by_cases h47 : bt s i = 47
     ·rw [if_pos h47, if_pos (by omega)]
      apply hj2
      rw [hd1]
      simp only [List.head?_cons, h47, true_and, Option.some.injEq]
      by_cases h2 : bt s ((i + 1 : Nat) : Int) = 47
      ·rw [h2]; rfl
      ·rw [decide_eq_false h2, beq_eq_false_iff_ne.2 h2]
     ·rw [if_neg h47]
      apply hj2
      rw [decide_eq_false (fun h => h47 h.1)]
    ·rw [if_neg (by omega)]
     apply hj2
     rw [hend (i + 1) (by omega) h1]
     rw [decide_eq_false (fun h => by cases h.2)]
  refine ⟨key0, fun i k hd hi hk => ?_⟩
  by_cases hlt : i < s.size
  case neg => exact h1end i k hi hlt (by omega)
  obtain ⟨k, rfl⟩ : ∃ m, k = m + 1 := ⟨k - 1, by omega⟩
  have hdr := xC1 s i hlt
  rw [xAd.l1, if_pos (by omega), if_pos (by omega)]
  by_cases h10 : bt s i = 10
  ·rw [if_pos h10, key0 i k hd hi (by omega)]
   unfold skipAt
   rw [hdr, h10]
   simp [xC9, xCy]
  ·rw [if_neg h10, hwrap i hlt, ih.2 (i + 1) k (by omega) (by omega) (by omega), hdr]
   simp only [xC9, if_neg h10]
theorem xGr (s : ByteArray) (hs : s.size ≤ 2000) : ∀ (d i k : Nat) (acc : List S60), s.size - i ≤ d → i ≤ s.size → 6 * s.size + 10 + d < k → acc.length ≤ 500 →
  xAn.l0 k s acc i = some (xDf acc (xDg (d + 1) acc.length ((xAl s).drop i) s.size)) := by
 intro d
 induction d with
 | zero =>
  intro i k acc hd hi hk ha
  obtain ⟨k, rfl⟩ : ∃ m, k = m + 1 := ⟨k - 1, by omega⟩
  simp only [xAn.l0]
  rw [if_neg (by omega)]
  have : (xAl s).drop i = [] := List.drop_eq_nil_iff.2 (by rw [xAz]; omega)
  rw [this]
  simp [xDg, xDf]
 | succ d ih =>
  intro i k acc hd hi hk ha
  obtain ⟨k, rfl⟩ : ∃ m, k = m + 1 := ⟨k - 1, by omega⟩
  simp only [xAn.l0]
  by_cases hlt : i < s.size
  ·rw [if_pos (by omega)]
   have hne : (xAl s).drop i ≠ [] := by rw [xC1 s i hlt]; simp
   have hlen : ((xAl s).drop i).length = s.size - i := by rw [List.length_drop, xAz]
   have hpos : s.size - ((xAl s).drop i).length = i := by omega
   unfold xDg
   rw [if_neg hne]
   by_cases h500 : acc.length = 500
   ·rw [if_pos (by omega), if_pos h500, hpos]
    rfl
   ·rw [if_neg (by omega), if_neg h500]
    obtain ⟨t1, t2, t3, t5, hone, hok⟩ := xI7 s i hlt (by omega)
    unfold xBp.f
    rw [hone]
    simp only [Option.bind_some]
    have hol := xIw _ hne
    by_cases he : (oneL ((xAl s).drop i)).e = 0
    ·obtain ⟨rfl, rfl, rfl, rfl⟩ := hok he
     rw [if_pos he, if_pos he, if_pos (by omega)]
     have hl1 := hol.2 he
     have hl2 := hol.1
     have hle : i + (oneL ((xAl s).drop i)).len ≤ s.size := by omega
     have hsk := (xEy s (by omega) s.size).1 (i + (oneL ((xAl s).drop i)).len) k (by omega) hle (by omega)
     have hsb := xD0 s (i + (oneL ((xAl s).drop i)).len) hle
     unfold xAd.f
     rw [hsk]
     simp only [Option.bind_some]
     rw [ih (skipAt s (i + (oneL ((xAl s).drop i)).len)) k _ (by omega) hsb.2 (by omega) (by simp; omega)]
     rw [xDo s _ hle, ← List.drop_drop, List.length_append, List.length_singleton]
     congr 1
     have htok : (⟨(oneL ((xAl s).drop i)).kind, strOfNums (oneL ((xAl s).drop i)).s, (oneL ((xAl s).drop i)).n, (i : Int)⟩ : S60) = xK5 (oneL ((xAl s).drop i)) (s.size - ((xAl s).drop i).length) := by
      rw [hpos]
      rfl
     rw [htok]
     cases xDg (d + 1) (acc.length + 1) (xC9 false (((xAl s).drop i).drop (oneL ((xAl s).drop i)).len)) s.size with
     | ok l => simp [xDf, Except.map]
     | error e => simp [xDf, Except.map]
    ·rw [if_neg he, if_neg he, if_neg he, hpos]
     rfl
  ·rw [if_neg (by omega)]
   have : (xAl s).drop i = [] := List.drop_eq_nil_iff.2 (by rw [xAz]; omega)
   rw [this]
   unfold xDg
   simp [xDf]
/-- The document's scanner. -/
theorem xEz (s : ByteArray) : ∀ k, 20000 ≤ k → xAn.f k s = some (told (scan (xAl s))) := by
 intro k hk
 unfold xAn.f scan
 rw [xAz]
 by_cases h : 2000 < s.size
 ·rw [if_pos (by omega), if_pos h]
  rfl
 ·rw [if_neg (by omega), if_neg h]
  have hsk := (xEy s (by omega) s.size).1 0 k (by omega) (by omega) (by omega)
  have hsb := xD0 s 0 (by omega)
  unfold xAd.f
  simp only [Int.natCast_zero] at hsk
  rw [hsk]
  simp only [Option.bind_some]
  rw [xGr s (by omega) s.size (skipAt s 0) k [] (by omega) hsb.2 (by omega) (by simp), xDo s 0 (by omega), List.drop_zero]
  congr 1
end Go.Proofs.YtknbfhhmjbnemaaDoor.Pure
end
section
namespace Go.Proofs.YtknbfhhmjbnemaaDoor.P
open Go.RowKit Go.Proofs.YtknbfhhmjbnemaaDoorW.PrintWords Go.Proofs.YtknbfhhmjbnemaaDoorW.PrintLast Go.Proofs.YtknbfhhmjbnemaaDoorW.PrintMore
attribute [local go_sem] xB9 xBe

/-! ### xB5: function 55 -/
def xB5.f (k : Nat) (a0 : ByteArray) : Option (Bool) := (xAn.f k a0).bind fun bt533 => ((xAo.f k a0).bind fun t538 => (if bt533.2.1 = 0 then (if (bt533.1.length : Int) = 1 then (if 0 < (bt533.1.length : Int) then (if ((xB8 bt533.1 0).f0) = 0 then (if ((xB8 bt533.1 0).f1).toList = a0.toList then (some (!t538)) else (some false)) else (some false)) else (none)) else (some false)) else (some false)))
set_option maxHeartbeats 8000000 in
set_option maxRecDepth 100000 in
theorem xB5.calls (k : Nat) (a0 : ByteArray) (r : Bool) (w : World) (h : xB5.f k a0 = some r) :
  Calls Tryd.prog 55 #[.string a0] w fun e w' => e = .returned (.bool r) ∧ Below w.heap.size w w' := by
 have HB := Aside0.mk (Below.refl w.heap.size w)
 have H : ((xAn.f k a0).bind fun bt533 => ((xAo.f k a0).bind fun t538 => (if bt533.2.1 = 0 then (if (bt533.1.length : Int) = 1 then (if 0 < (bt533.1.length : Int) then (if ((xB8 bt533.1 0).f0) = 0 then (if ((xB8 bt533.1 0).f1).toList = a0.toList then (some (!t538)) else (some false)) else (some false)) else (none)) else (some false)) else (some false)))) = some r := h
 clear h
 replace H := Option.bind_eq_some_iff.mp H
 obtain ⟨⟨t533, t534, t535⟩, A20, H⟩ := H
 replace H : ((xAo.f k a0).bind fun t538 => (if t534 = 0 then (if (t533.length : Int) = 1 then (if 0 < (t533.length : Int) then (if ((xB8 t533 0).f0) = 0 then (if ((xB8 t533 0).f1).toList = a0.toList then (some (!t538)) else (some false)) else (some false)) else (none)) else (some false)) else (some false))) = some r := H
 have A2 := Aside0.mk A20
 clear A20
 replace H := Option.bind_eq_some_iff.mp H
 obtain ⟨t538, A30, H⟩ := H
 replace H : (if t534 = 0 then (if (t533.length : Int) = 1 then (if 0 < (t533.length : Int) then (if ((xB8 t533 0).f0) = 0 then (if ((xB8 t533 0).f1).toList = a0.toList then (some (!t538)) else (some false)) else (some false)) else (none)) else (some false)) else (some false)) = some r := H
 have A3 := Aside0.mk A30
 clear A30
 by_cases c4 : t534 = 0
 ·rw [if_pos c4] at H
  have c4b0 : (t534 == 0) = true := beq_iff_eq.mpr c4
  have c4b1 : (t534 != 0) = false := bne_eq_false_iff_eq.mpr c4
  clear c4
  by_cases c5 : (t533.length : Int) = 1
  ·rw [if_pos c5] at H
   have c5b0 : ((t533.length : Int) == 1) = true := beq_iff_eq.mpr c5
   have c5b1 : ((t533.length : Int) != 1) = false := bne_eq_false_iff_eq.mpr c5
   clear c5
   by_cases c6 : 0 < (t533.length : Int)
   ·rw [if_pos c6] at H
    have c6b0 : decide (0 < (t533.length : Int)) = true := decide_eq_true c6
    have c6b1 : decide (0 < t533.length) = true := decide_eq_true (by omega)
    clear c6
    by_cases c7 : ((xB8 t533 0).f0) = 0
    ·rw [if_pos c7] at H
     have c7b0 : (((xB8 t533 0).f0) == 0) = true := beq_iff_eq.mpr c7
     have c7b1 : (((xB8 t533 0).f0) != 0) = false := bne_eq_false_iff_eq.mpr c7
     clear c7
     by_cases c8 : ((xB8 t533 0).f1).toList = a0.toList
     ·rw [if_pos c8] at H
      have c8b0 : (((xB8 t533 0).f1).toList == a0.toList) = true := beq_iff_eq.mpr c8
      have c8b1 : (((xB8 t533 0).f1).toList != a0.toList) = false := bne_eq_false_iff_eq.mpr c8
      clear c8
      obtain rfl := Option.some.inj H
      go_enter Tryd.func55, Tryd.ntmps55
      go_wp2_with (first | ((with_reducible refine xAj (f := 20) rfl ?_); refine xB6 (some 9) rfl rfl Tryd.func20 (by kernel_rfl) rfl #[.string a0] rfl (by (try simp only [List.map_toArray, List.map_cons, List.map_nil]); first | done | rfl | (simp only [List.length_drop, List.length_take]; rfl)) ?_; (with_reducible refine (xAn.calls k a0 t533 t534 t535 _ A2.out).mono ?_); rintro e w9 ⟨v536, rfl, ho0, hb⟩; refine ⟨_, rfl, ?_⟩; have n0_ := Aside0.mk (Kd.R_lower ho0 (xAs (by repeat (first | (with_reducible first | exact HB.out | apply xA1 | apply xA0 | apply below_drew1) | exact HB.out)))); have n1_ := Aside0.mk (xAi (by repeat (first | (with_reducible first | exact HB.out | apply xA1 | apply xA0 | apply below_drew1) | exact HB.out)) hb); clear HB; have HO537 := n0_; have HB := n1_; clear n0_ n1_; (try clear hb); (try clear hb2); (try clear hk); (try clear hi); (try clear ho0)) | ((with_reducible refine xAj (f := 75) rfl ?_); refine xB6 (some 14) rfl rfl Tryd.func75 (by kernel_rfl) rfl #[.string a0] rfl (by (try simp only [List.map_toArray, List.map_cons, List.map_nil]); first | done | rfl | (simp only [List.length_drop, List.length_take]; rfl)) ?_; (with_reducible refine (xAo.calls k a0 t538 _ A3.out).mono ?_); rintro e w10 ⟨rfl, hb⟩; refine ⟨_, rfl, ?_⟩; have n0_ := Aside0.mk (Kd.R_below (by (with_reducible repeat (first | apply Kd.R_alloc | apply Kd.R_drewN | apply Kd.R_drew)); exact HO537.out) hb); have n1_ := Aside0.mk (xAi (by repeat (first | (with_reducible first | exact HB.out | apply xA1 | apply xA0 | apply below_drew1) | exact HB.out)) hb); clear HO537; clear HB; have HO537 := n0_; have HB := n1_; clear n0_ n1_; (try clear hb); (try clear hb2); (try clear hk); (try clear hi); obtain ⟨Ao11, co11, eo11⟩ := Kd.R_slice HO537.out; subst eo11; have p539 : 0 ≤ (0 : Int) := (by omega); have q539 : 0 < (t533.length : Int) := of_decide_eq_true (by first | (with_reducible assumption) | assumption); obtain ⟨ad539, e539, hx539_0, hx539_1, hx539_2, hx539_3⟩ := xCz (Kd.R_reads' HO537.out).2.2 0 p539 q539; cases e539; have qi539 : (0 < t533.length) = True := eq_true (by omega); (try rw [show ((0 : Int)).toNat = 0 from rfl] at hx539_0); (try rw [show 0 * 4 = 0 from rfl] at hx539_0); (try rw [Addr.add_zero'] at hx539_0); (try rw [show ((0 : Int)).toNat = 0 from rfl] at hx539_1); (try rw [show 0 * 4 = 0 from rfl] at hx539_1); (try rw [Addr.add_zero'] at hx539_1); (try rw [show ((0 : Int)).toNat = 0 from rfl] at hx539_2); (try rw [show 0 * 4 = 0 from rfl] at hx539_2); (try rw [Addr.add_zero'] at hx539_2); (try rw [show ((0 : Int)).toNat = 0 from rfl] at hx539_3); (try rw [show 0 * 4 = 0 from rfl] at hx539_3); (try rw [Addr.add_zero'] at hx539_3); replace p539 := eq_true p539; replace q539 := eq_true q539; have p540 : 0 ≤ (0 : Int) := (by omega); have q540 : 0 < (t533.length : Int) := of_decide_eq_true (by first | (with_reducible assumption) | assumption); obtain ⟨ad540, e540, hx540_0, hx540_1, hx540_2, hx540_3⟩ := xCz (Kd.R_reads' HO537.out).2.2 0 p540 q540; obtain rfl : ad539 = ad540 := (by injection e540); have qi540 : (0 < t533.length) = True := eq_true (by omega); (try rw [show ((0 : Int)).toNat = 0 from rfl] at hx540_0); (try rw [show 0 * 4 = 0 from rfl] at hx540_0); (try rw [Addr.add_zero'] at hx540_0); (try rw [show ((0 : Int)).toNat = 0 from rfl] at hx540_1); (try rw [show 0 * 4 = 0 from rfl] at hx540_1); (try rw [Addr.add_zero'] at hx540_1); (try rw [show ((0 : Int)).toNat = 0 from rfl] at hx540_2); (try rw [show 0 * 4 = 0 from rfl] at hx540_2); (try rw [Addr.add_zero'] at hx540_2); (try rw [show ((0 : Int)).toNat = 0 from rfl] at hx540_3); (try rw [show 0 * 4 = 0 from rfl] at hx540_3); (try rw [Addr.add_zero'] at hx540_3); replace p540 := eq_true p540; replace q540 := eq_true q540))
      go_ret
      exact ⟨by first | rfl | (simp <;> rfl) | (simp [*] <;> rfl), by repeat (first | (with_reducible first | exact HB.out | apply xA1 | apply xA0 | apply below_drew1) | exact HB.out)⟩
     ·rw [if_neg c8] at H
      have c8b0 : (((xB8 t533 0).f1).toList == a0.toList) = false := beq_eq_false_iff_ne.mpr c8
      have c8b1 : (((xB8 t533 0).f1).toList != a0.toList) = true := bne_iff_ne.mpr c8
      obtain rfl := Option.some.inj H
      go_enter Tryd.func55, Tryd.ntmps55
      go_wp2_with (first | ((with_reducible refine xAj (f := 20) rfl ?_); refine xB6 (some 9) rfl rfl Tryd.func20 (by kernel_rfl) rfl #[.string a0] rfl (by (try simp only [List.map_toArray, List.map_cons, List.map_nil]); first | done | rfl | (simp only [List.length_drop, List.length_take]; rfl)) ?_; (with_reducible refine (xAn.calls k a0 t533 t534 t535 _ A2.out).mono ?_); rintro e w12 ⟨v536, rfl, ho0, hb⟩; refine ⟨_, rfl, ?_⟩; have n0_ := Aside0.mk (Kd.R_lower ho0 (xAs (by repeat (first | (with_reducible first | exact HB.out | apply xA1 | apply xA0 | apply below_drew1) | exact HB.out)))); have n1_ := Aside0.mk (xAi (by repeat (first | (with_reducible first | exact HB.out | apply xA1 | apply xA0 | apply below_drew1) | exact HB.out)) hb); clear HB; have HO537 := n0_; have HB := n1_; clear n0_ n1_; (try clear hb); (try clear hb2); (try clear hk); (try clear hi); (try clear ho0)) | ((with_reducible refine xAj (f := 75) rfl ?_); refine xB6 (some 14) rfl rfl Tryd.func75 (by kernel_rfl) rfl #[.string a0] rfl (by (try simp only [List.map_toArray, List.map_cons, List.map_nil]); first | done | rfl | (simp only [List.length_drop, List.length_take]; rfl)) ?_; (with_reducible refine (xAo.calls k a0 t538 _ A3.out).mono ?_); rintro e w13 ⟨rfl, hb⟩; refine ⟨_, rfl, ?_⟩; have n0_ := Aside0.mk (Kd.R_below (by (with_reducible repeat (first | apply Kd.R_alloc | apply Kd.R_drewN | apply Kd.R_drew)); exact HO537.out) hb); have n1_ := Aside0.mk (xAi (by repeat (first | (with_reducible first | exact HB.out | apply xA1 | apply xA0 | apply below_drew1) | exact HB.out)) hb); clear HO537; clear HB; have HO537 := n0_; have HB := n1_; clear n0_ n1_; (try clear hb); (try clear hb2); (try clear hk); (try clear hi); obtain ⟨Ao14, co14, eo14⟩ := Kd.R_slice HO537.out; subst eo14; have p539 : 0 ≤ (0 : Int) := (by omega); have q539 : 0 < (t533.length : Int) := of_decide_eq_true (by first | (with_reducible assumption) | assumption); obtain ⟨ad539, e539, hx539_0, hx539_1, hx539_2, hx539_3⟩ := xCz (Kd.R_reads' HO537.out).2.2 0 p539 q539; cases e539; have qi539 : (0 < t533.length) = True := eq_true (by omega); (try rw [show ((0 : Int)).toNat = 0 from rfl] at hx539_0); (try rw [show 0 * 4 = 0 from rfl] at hx539_0); (try rw [Addr.add_zero'] at hx539_0); (try rw [show ((0 : Int)).toNat = 0 from rfl] at hx539_1); (try rw [show 0 * 4 = 0 from rfl] at hx539_1); (try rw [Addr.add_zero'] at hx539_1); (try rw [show ((0 : Int)).toNat = 0 from rfl] at hx539_2); (try rw [show 0 * 4 = 0 from rfl] at hx539_2); (try rw [Addr.add_zero'] at hx539_2); (try rw [show ((0 : Int)).toNat = 0 from rfl] at hx539_3); (try rw [show 0 * 4 = 0 from rfl] at hx539_3); (try rw [Addr.add_zero'] at hx539_3); replace p539 := eq_true p539; replace q539 := eq_true q539; have p540 : 0 ≤ (0 : Int) := (by omega); have q540 : 0 < (t533.length : Int) := of_decide_eq_true (by first | (with_reducible assumption) | assumption); obtain ⟨ad540, e540, hx540_0, hx540_1, hx540_2, hx540_3⟩ := xCz (Kd.R_reads' HO537.out).2.2 0 p540 q540; obtain rfl : ad539 = ad540 := (by injection e540); have qi540 : (0 < t533.length) = True := eq_true (by omega); (try rw [show ((0 : Int)).toNat = 0 from rfl] at hx540_0); (try rw [show 0 * 4 = 0 from rfl] at hx540_0); (try rw [Addr.add_zero'] at hx540_0); (try rw [show ((0 : Int)).toNat = 0 from rfl] at hx540_1); (try rw [show 0 * 4 = 0 from rfl] at hx540_1); (try rw [Addr.add_zero'] at hx540_1); (try rw [show ((0 : Int)).toNat = 0 from rfl] at hx540_2); (try rw [show 0 * 4 = 0 from rfl] at hx540_2); (try rw [Addr.add_zero'] at hx540_2); (try rw [show ((0 : Int)).toNat = 0 from rfl] at hx540_3); (try rw [show 0 * 4 = 0 from rfl] at hx540_3); (try rw [Addr.add_zero'] at hx540_3); replace p540 := eq_true p540; replace q540 := eq_true q540))
      go_ret
      exact ⟨by first | rfl | (simp <;> rfl) | (simp [*] <;> rfl), by repeat (first | (with_reducible first | exact HB.out | apply xA1 | apply xA0 | apply below_drew1) | exact HB.out)⟩
    ·rw [if_neg c7] at H
     have c7b0 : (((xB8 t533 0).f0) == 0) = false := beq_eq_false_iff_ne.mpr c7
     have c7b1 : (((xB8 t533 0).f0) != 0) = true := bne_iff_ne.mpr c7
     obtain rfl := Option.some.inj H
     go_enter Tryd.func55, Tryd.ntmps55
     go_wp2_with (first | ((with_reducible refine xAj (f := 20) rfl ?_); refine xB6 (some 9) rfl rfl Tryd.func20 (by kernel_rfl) rfl #[.string a0] rfl (by (try simp only [List.map_toArray, List.map_cons, List.map_nil]); first | done | rfl | (simp only [List.length_drop, List.length_take]; rfl)) ?_; (with_reducible refine (xAn.calls k a0 t533 t534 t535 _ A2.out).mono ?_); rintro e w15 ⟨v536, rfl, ho0, hb⟩; refine ⟨_, rfl, ?_⟩; have n0_ := Aside0.mk (Kd.R_lower ho0 (xAs (by repeat (first | (with_reducible first | exact HB.out | apply xA1 | apply xA0 | apply below_drew1) | exact HB.out)))); have n1_ := Aside0.mk (xAi (by repeat (first | (with_reducible first | exact HB.out | apply xA1 | apply xA0 | apply below_drew1) | exact HB.out)) hb); clear HB; have HO537 := n0_; have HB := n1_; clear n0_ n1_; (try clear hb); (try clear hb2); (try clear hk); (try clear hi); (try clear ho0)) | ((with_reducible refine xAj (f := 75) rfl ?_); refine xB6 (some 14) rfl rfl Tryd.func75 (by kernel_rfl) rfl #[.string a0] rfl (by (try simp only [List.map_toArray, List.map_cons, List.map_nil]); first | done | rfl | (simp only [List.length_drop, List.length_take]; rfl)) ?_; (with_reducible refine (xAo.calls k a0 t538 _ A3.out).mono ?_); rintro e w16 ⟨rfl, hb⟩; refine ⟨_, rfl, ?_⟩; have n0_ := Aside0.mk (Kd.R_below (by (with_reducible repeat (first | apply Kd.R_alloc | apply Kd.R_drewN | apply Kd.R_drew)); exact HO537.out) hb); have n1_ := Aside0.mk (xAi (by repeat (first | (with_reducible first | exact HB.out | apply xA1 | apply xA0 | apply below_drew1) | exact HB.out)) hb); clear HO537; clear HB; have HO537 := n0_; have HB := n1_; clear n0_ n1_; (try clear hb); (try clear hb2); (try clear hk); (try clear hi); obtain ⟨Ao17, co17, eo17⟩ := Kd.R_slice HO537.out; subst eo17; have p539 : 0 ≤ (0 : Int) := (by omega); have q539 : 0 < (t533.length : Int) := of_decide_eq_true (by first | (with_reducible assumption) | assumption); obtain ⟨ad539, e539, hx539_0, hx539_1, hx539_2, hx539_3⟩ := xCz (Kd.R_reads' HO537.out).2.2 0 p539 q539; cases e539; have qi539 : (0 < t533.length) = True := eq_true (by omega); (try rw [show ((0 : Int)).toNat = 0 from rfl] at hx539_0); (try rw [show 0 * 4 = 0 from rfl] at hx539_0); (try rw [Addr.add_zero'] at hx539_0); (try rw [show ((0 : Int)).toNat = 0 from rfl] at hx539_1); (try rw [show 0 * 4 = 0 from rfl] at hx539_1); (try rw [Addr.add_zero'] at hx539_1); (try rw [show ((0 : Int)).toNat = 0 from rfl] at hx539_2); (try rw [show 0 * 4 = 0 from rfl] at hx539_2); (try rw [Addr.add_zero'] at hx539_2); (try rw [show ((0 : Int)).toNat = 0 from rfl] at hx539_3); (try rw [show 0 * 4 = 0 from rfl] at hx539_3); (try rw [Addr.add_zero'] at hx539_3); replace p539 := eq_true p539; replace q539 := eq_true q539))
     go_ret
     exact ⟨by first | rfl | (simp <;> rfl) | (simp [*] <;> rfl), by repeat (first | (with_reducible first | exact HB.out | apply xA1 | apply xA0 | apply below_drew1) | exact HB.out)⟩
   ·rw [if_neg c6] at H
    exact absurd H (by simp)
  ·rw [if_neg c5] at H
   have c5b0 : ((t533.length : Int) == 1) = false := beq_eq_false_iff_ne.mpr c5
   have c5b1 : ((t533.length : Int) != 1) = true := bne_iff_ne.mpr c5
   obtain rfl := Option.some.inj H
   go_enter Tryd.func55, Tryd.ntmps55
   go_wp2_with (first | ((with_reducible refine xAj (f := 20) rfl ?_); refine xB6 (some 9) rfl rfl Tryd.func20 (by kernel_rfl) rfl #[.string a0] rfl (by (try simp only [List.map_toArray, List.map_cons, List.map_nil]); first | done | rfl | (simp only [List.length_drop, List.length_take]; rfl)) ?_; (with_reducible refine (xAn.calls k a0 t533 t534 t535 _ A2.out).mono ?_); rintro e w18 ⟨v536, rfl, ho0, hb⟩; refine ⟨_, rfl, ?_⟩; have n0_ := Aside0.mk (Kd.R_lower ho0 (xAs (by repeat (first | (with_reducible first | exact HB.out | apply xA1 | apply xA0 | apply below_drew1) | exact HB.out)))); have n1_ := Aside0.mk (xAi (by repeat (first | (with_reducible first | exact HB.out | apply xA1 | apply xA0 | apply below_drew1) | exact HB.out)) hb); clear HB; have HO537 := n0_; have HB := n1_; clear n0_ n1_; (try clear hb); (try clear hb2); (try clear hk); (try clear hi); (try clear ho0)) | ((with_reducible refine xAj (f := 75) rfl ?_); refine xB6 (some 14) rfl rfl Tryd.func75 (by kernel_rfl) rfl #[.string a0] rfl (by (try simp only [List.map_toArray, List.map_cons, List.map_nil]); first | done | rfl | (simp only [List.length_drop, List.length_take]; rfl)) ?_; (with_reducible refine (xAo.calls k a0 t538 _ A3.out).mono ?_); rintro e w19 ⟨rfl, hb⟩; refine ⟨_, rfl, ?_⟩; have n0_ := Aside0.mk (Kd.R_below (by (with_reducible repeat (first | apply Kd.R_alloc | apply Kd.R_drewN | apply Kd.R_drew)); exact HO537.out) hb); have n1_ := Aside0.mk (xAi (by repeat (first | (with_reducible first | exact HB.out | apply xA1 | apply xA0 | apply below_drew1) | exact HB.out)) hb); clear HO537; clear HB; have HO537 := n0_; have HB := n1_; clear n0_ n1_; (try clear hb); (try clear hb2); (try clear hk); (try clear hi); obtain ⟨Ao20, co20, eo20⟩ := Kd.R_slice HO537.out; subst eo20))
   go_ret
   exact ⟨by first | rfl | (simp <;> rfl) | (simp [*] <;> rfl), by repeat (first | (with_reducible first | exact HB.out | apply xA1 | apply xA0 | apply below_drew1) | exact HB.out)⟩
 ·rw [if_neg c4] at H
  have c4b0 : (t534 == 0) = false := beq_eq_false_iff_ne.mpr c4
  have c4b1 : (t534 != 0) = true := bne_iff_ne.mpr c4
  obtain rfl := Option.some.inj H
  go_enter Tryd.func55, Tryd.ntmps55
  go_wp2_with (first | ((with_reducible refine xAj (f := 20) rfl ?_); refine xB6 (some 9) rfl rfl Tryd.func20 (by kernel_rfl) rfl #[.string a0] rfl (by (try simp only [List.map_toArray, List.map_cons, List.map_nil]); first | done | rfl | (simp only [List.length_drop, List.length_take]; rfl)) ?_; (with_reducible refine (xAn.calls k a0 t533 t534 t535 _ A2.out).mono ?_); rintro e w21 ⟨v536, rfl, ho0, hb⟩; refine ⟨_, rfl, ?_⟩; have n0_ := Aside0.mk (Kd.R_lower ho0 (xAs (by repeat (first | (with_reducible first | exact HB.out | apply xA1 | apply xA0 | apply below_drew1) | exact HB.out)))); have n1_ := Aside0.mk (xAi (by repeat (first | (with_reducible first | exact HB.out | apply xA1 | apply xA0 | apply below_drew1) | exact HB.out)) hb); clear HB; have HO537 := n0_; have HB := n1_; clear n0_ n1_; (try clear hb); (try clear hb2); (try clear hk); (try clear hi); (try clear ho0)) | ((with_reducible refine xAj (f := 75) rfl ?_); refine xB6 (some 14) rfl rfl Tryd.func75 (by kernel_rfl) rfl #[.string a0] rfl (by (try simp only [List.map_toArray, List.map_cons, List.map_nil]); first | done | rfl | (simp only [List.length_drop, List.length_take]; rfl)) ?_; (with_reducible refine (xAo.calls k a0 t538 _ A3.out).mono ?_); rintro e w22 ⟨rfl, hb⟩; refine ⟨_, rfl, ?_⟩; have n0_ := Aside0.mk (Kd.R_below (by (with_reducible repeat (first | apply Kd.R_alloc | apply Kd.R_drewN | apply Kd.R_drew)); exact HO537.out) hb); have n1_ := Aside0.mk (xAi (by repeat (first | (with_reducible first | exact HB.out | apply xA1 | apply xA0 | apply below_drew1) | exact HB.out)) hb); clear HO537; clear HB; have HO537 := n0_; have HB := n1_; clear n0_ n1_; (try clear hb); (try clear hb2); (try clear hk); (try clear hi)))
  go_ret
  exact ⟨by first | rfl | (simp <;> rfl) | (simp [*] <;> rfl), by repeat (first | (with_reducible first | exact HB.out | apply xA1 | apply xA0 | apply below_drew1) | exact HB.out)⟩

end Go.Proofs.YtknbfhhmjbnemaaDoor.P
end
section
namespace Go.Proofs.YtknbfhhmjbnemaaDoor.P
open Go.RowKit Go.Proofs.YtknbfhhmjbnemaaDoorW.PrintWords Go.Proofs.YtknbfhhmjbnemaaDoorW.PrintLast Go.Proofs.YtknbfhhmjbnemaaDoorW.PrintMore
attribute [local go_sem] xB9 xBe

/-! ### xBc: function 82 -/
def xBc.f (k : Nat) (a0 : ByteArray) : Option (Bool) := if 1 + a0.size ≤ 9223372036854775807 then ((xAn.f k ((⟨#[36]⟩ : ByteArray) ++ a0)).bind fun bt541 => (if bt541.2.1 = 0 then (if (bt541.1.length : Int) = 1 then (if 0 < (bt541.1.length : Int) then (if ((xB8 bt541.1 0).f0) = 2 then (some (((xB8 bt541.1 0).f1).toList == a0.toList)) else (some false)) else (none)) else (some false)) else (some false))) else (none)
set_option maxHeartbeats 8000000 in
set_option maxRecDepth 100000 in
theorem xBc.calls (k : Nat) (a0 : ByteArray) (r : Bool) (w : World) (h : xBc.f k a0 = some r) :
  Calls Tryd.prog 82 #[.string a0] w fun e w' => e = .returned (.bool r) ∧ Below w.heap.size w w' := by
 have HB := Aside0.mk (Below.refl w.heap.size w)
 have H : (if 1 + a0.size ≤ 9223372036854775807 then ((xAn.f k ((⟨#[36]⟩ : ByteArray) ++ a0)).bind fun bt541 => (if bt541.2.1 = 0 then (if (bt541.1.length : Int) = 1 then (if 0 < (bt541.1.length : Int) then (if ((xB8 bt541.1 0).f0) = 2 then (some (((xB8 bt541.1 0).f1).toList == a0.toList)) else (some false)) else (none)) else (some false)) else (some false))) else (none)) = some r := h
 clear h
 by_cases c2 : 1 + a0.size ≤ 9223372036854775807
 ·rw [if_pos c2] at H
  have c2b0 := eq_true c2
  have c2b1 : decide (1 + a0.size ≤ 9223372036854775807) = true := decide_eq_true c2
  try have c2b2 : (9223372036854775807 < 1 + a0.size) = False := eq_false (Nat.not_lt.2 c2)
  replace H := Option.bind_eq_some_iff.mp H
  obtain ⟨⟨t541, t542, t543⟩, A30, H⟩ := H
  replace H : (if t542 = 0 then (if (t541.length : Int) = 1 then (if 0 < (t541.length : Int) then (if ((xB8 t541 0).f0) = 2 then (some (((xB8 t541 0).f1).toList == a0.toList)) else (some false)) else (none)) else (some false)) else (some false)) = some r := H
  have A3 := Aside0.mk A30
  clear A30
  by_cases c4 : t542 = 0
  ·rw [if_pos c4] at H
   have c4b0 : (t542 == 0) = true := beq_iff_eq.mpr c4
   have c4b1 : (t542 != 0) = false := bne_eq_false_iff_eq.mpr c4
   clear c4
   by_cases c5 : (t541.length : Int) = 1
   ·rw [if_pos c5] at H
    have c5b0 : ((t541.length : Int) == 1) = true := beq_iff_eq.mpr c5
    have c5b1 : ((t541.length : Int) != 1) = false := bne_eq_false_iff_eq.mpr c5
    clear c5
    by_cases c6 : 0 < (t541.length : Int)
    ·rw [if_pos c6] at H
     have c6b0 : decide (0 < (t541.length : Int)) = true := decide_eq_true c6
     have c6b1 : decide (0 < t541.length) = true := decide_eq_true (by omega)
     clear c6
     by_cases c7 : ((xB8 t541 0).f0) = 2
     ·rw [if_pos c7] at H
      have c7b0 : (((xB8 t541 0).f0) == 2) = true := beq_iff_eq.mpr c7
      have c7b1 : (((xB8 t541 0).f0) != 2) = false := bne_eq_false_iff_eq.mpr c7
      clear c7
      obtain rfl := Option.some.inj H
      go_enter Tryd.func82, Tryd.ntmps82
      go_wp2_with (first | ((with_reducible refine xAj (f := 20) rfl ?_); refine xB6 (some 9) rfl rfl Tryd.func20 (by kernel_rfl) rfl #[.string ((⟨#[36]⟩ : ByteArray) ++ a0)] rfl (by (try simp only [List.map_toArray, List.map_cons, List.map_nil]); first | done | rfl | (simp only [List.length_drop, List.length_take]; rfl)) ?_; (with_reducible refine (xAn.calls k ((⟨#[36]⟩ : ByteArray) ++ a0) t541 t542 t543 _ A3.out).mono ?_); rintro e w8 ⟨v544, rfl, ho0, hb⟩; refine ⟨_, rfl, ?_⟩; have n0_ := Aside0.mk (Kd.R_lower ho0 (xAs (by repeat (first | (with_reducible first | exact HB.out | apply xA1 | apply xA0 | apply below_drew1) | exact HB.out)))); have n1_ := Aside0.mk (xAi (by repeat (first | (with_reducible first | exact HB.out | apply xA1 | apply xA0 | apply below_drew1) | exact HB.out)) hb); clear HB; have HO545 := n0_; have HB := n1_; clear n0_ n1_; (try clear hb); (try clear hb2); (try clear hk); (try clear hi); (try clear ho0); obtain ⟨Ao9, co9, eo9⟩ := Kd.R_slice HO545.out; subst eo9; have p546 : 0 ≤ (0 : Int) := (by omega); have q546 : 0 < (t541.length : Int) := of_decide_eq_true (by first | (with_reducible assumption) | assumption); obtain ⟨ad546, e546, hx546_0, hx546_1, hx546_2, hx546_3⟩ := xCz (Kd.R_reads' HO545.out).2.2 0 p546 q546; cases e546; have qi546 : (0 < t541.length) = True := eq_true (by omega); (try rw [show ((0 : Int)).toNat = 0 from rfl] at hx546_0); (try rw [show 0 * 4 = 0 from rfl] at hx546_0); (try rw [Addr.add_zero'] at hx546_0); (try rw [show ((0 : Int)).toNat = 0 from rfl] at hx546_1); (try rw [show 0 * 4 = 0 from rfl] at hx546_1); (try rw [Addr.add_zero'] at hx546_1); (try rw [show ((0 : Int)).toNat = 0 from rfl] at hx546_2); (try rw [show 0 * 4 = 0 from rfl] at hx546_2); (try rw [Addr.add_zero'] at hx546_2); (try rw [show ((0 : Int)).toNat = 0 from rfl] at hx546_3); (try rw [show 0 * 4 = 0 from rfl] at hx546_3); (try rw [Addr.add_zero'] at hx546_3); replace p546 := eq_true p546; replace q546 := eq_true q546; have p547 : 0 ≤ (0 : Int) := (by omega); have q547 : 0 < (t541.length : Int) := of_decide_eq_true (by first | (with_reducible assumption) | assumption); obtain ⟨ad547, e547, hx547_0, hx547_1, hx547_2, hx547_3⟩ := xCz (Kd.R_reads' HO545.out).2.2 0 p547 q547; obtain rfl : ad546 = ad547 := (by injection e547); have qi547 : (0 < t541.length) = True := eq_true (by omega); (try rw [show ((0 : Int)).toNat = 0 from rfl] at hx547_0); (try rw [show 0 * 4 = 0 from rfl] at hx547_0); (try rw [Addr.add_zero'] at hx547_0); (try rw [show ((0 : Int)).toNat = 0 from rfl] at hx547_1); (try rw [show 0 * 4 = 0 from rfl] at hx547_1); (try rw [Addr.add_zero'] at hx547_1); (try rw [show ((0 : Int)).toNat = 0 from rfl] at hx547_2); (try rw [show 0 * 4 = 0 from rfl] at hx547_2); (try rw [Addr.add_zero'] at hx547_2); (try rw [show ((0 : Int)).toNat = 0 from rfl] at hx547_3); (try rw [show 0 * 4 = 0 from rfl] at hx547_3); (try rw [Addr.add_zero'] at hx547_3); replace p547 := eq_true p547; replace q547 := eq_true q547))
      go_ret
      exact ⟨by first | rfl | (simp <;> rfl) | (simp [*] <;> rfl), by repeat (first | (with_reducible first | exact HB.out | apply xA1 | apply xA0 | apply below_drew1) | exact HB.out)⟩
     ·rw [if_neg c7] at H
      have c7b0 : (((xB8 t541 0).f0) == 2) = false := beq_eq_false_iff_ne.mpr c7
      have c7b1 : (((xB8 t541 0).f0) != 2) = true := bne_iff_ne.mpr c7
      obtain rfl := Option.some.inj H
      go_enter Tryd.func82, Tryd.ntmps82
      go_wp2_with (first | ((with_reducible refine xAj (f := 20) rfl ?_); refine xB6 (some 9) rfl rfl Tryd.func20 (by kernel_rfl) rfl #[.string ((⟨#[36]⟩ : ByteArray) ++ a0)] rfl (by (try simp only [List.map_toArray, List.map_cons, List.map_nil]); first | done | rfl | (simp only [List.length_drop, List.length_take]; rfl)) ?_; (with_reducible refine (xAn.calls k ((⟨#[36]⟩ : ByteArray) ++ a0) t541 t542 t543 _ A3.out).mono ?_); rintro e w10 ⟨v544, rfl, ho0, hb⟩; refine ⟨_, rfl, ?_⟩; have n0_ := Aside0.mk (Kd.R_lower ho0 (xAs (by repeat (first | (with_reducible first | exact HB.out | apply xA1 | apply xA0 | apply below_drew1) | exact HB.out)))); have n1_ := Aside0.mk (xAi (by repeat (first | (with_reducible first | exact HB.out | apply xA1 | apply xA0 | apply below_drew1) | exact HB.out)) hb); clear HB; have HO545 := n0_; have HB := n1_; clear n0_ n1_; (try clear hb); (try clear hb2); (try clear hk); (try clear hi); (try clear ho0); obtain ⟨Ao11, co11, eo11⟩ := Kd.R_slice HO545.out; subst eo11; have p546 : 0 ≤ (0 : Int) := (by omega); have q546 : 0 < (t541.length : Int) := of_decide_eq_true (by first | (with_reducible assumption) | assumption); obtain ⟨ad546, e546, hx546_0, hx546_1, hx546_2, hx546_3⟩ := xCz (Kd.R_reads' HO545.out).2.2 0 p546 q546; cases e546; have qi546 : (0 < t541.length) = True := eq_true (by omega); (try rw [show ((0 : Int)).toNat = 0 from rfl] at hx546_0); (try rw [show 0 * 4 = 0 from rfl] at hx546_0); (try rw [Addr.add_zero'] at hx546_0); (try rw [show ((0 : Int)).toNat = 0 from rfl] at hx546_1); (try rw [show 0 * 4 = 0 from rfl] at hx546_1); (try rw [Addr.add_zero'] at hx546_1); (try rw [show ((0 : Int)).toNat = 0 from rfl] at hx546_2); (try rw [show 0 * 4 = 0 from rfl] at hx546_2); (try rw [Addr.add_zero'] at hx546_2); (try rw [show ((0 : Int)).toNat = 0 from rfl] at hx546_3); (try rw [show 0 * 4 = 0 from rfl] at hx546_3); (try rw [Addr.add_zero'] at hx546_3); replace p546 := eq_true p546; replace q546 := eq_true q546))
      go_ret
      exact ⟨by first | rfl | (simp <;> rfl) | (simp [*] <;> rfl), by repeat (first | (with_reducible first | exact HB.out | apply xA1 | apply xA0 | apply below_drew1) | exact HB.out)⟩
    ·rw [if_neg c6] at H
     exact absurd H (by simp)
   ·rw [if_neg c5] at H
    have c5b0 : ((t541.length : Int) == 1) = false := beq_eq_false_iff_ne.mpr c5
    have c5b1 : ((t541.length : Int) != 1) = true := bne_iff_ne.mpr c5
    obtain rfl := Option.some.inj H
    go_enter Tryd.func82, Tryd.ntmps82
    go_wp2_with (first | ((with_reducible refine xAj (f := 20) rfl ?_); refine xB6 (some 9) rfl rfl Tryd.func20 (by kernel_rfl) rfl #[.string ((⟨#[36]⟩ : ByteArray) ++ a0)] rfl (by (try simp only [List.map_toArray, List.map_cons, List.map_nil]); first | done | rfl | (simp only [List.length_drop, List.length_take]; rfl)) ?_; (with_reducible refine (xAn.calls k ((⟨#[36]⟩ : ByteArray) ++ a0) t541 t542 t543 _ A3.out).mono ?_); rintro e w12 ⟨v544, rfl, ho0, hb⟩; refine ⟨_, rfl, ?_⟩; have n0_ := Aside0.mk (Kd.R_lower ho0 (xAs (by repeat (first | (with_reducible first | exact HB.out | apply xA1 | apply xA0 | apply below_drew1) | exact HB.out)))); have n1_ := Aside0.mk (xAi (by repeat (first | (with_reducible first | exact HB.out | apply xA1 | apply xA0 | apply below_drew1) | exact HB.out)) hb); clear HB; have HO545 := n0_; have HB := n1_; clear n0_ n1_; (try clear hb); (try clear hb2); (try clear hk); (try clear hi); (try clear ho0); obtain ⟨Ao13, co13, eo13⟩ := Kd.R_slice HO545.out; subst eo13))
    go_ret
    exact ⟨by first | rfl | (simp <;> rfl) | (simp [*] <;> rfl), by repeat (first | (with_reducible first | exact HB.out | apply xA1 | apply xA0 | apply below_drew1) | exact HB.out)⟩
  ·rw [if_neg c4] at H
   have c4b0 : (t542 == 0) = false := beq_eq_false_iff_ne.mpr c4
   have c4b1 : (t542 != 0) = true := bne_iff_ne.mpr c4
   obtain rfl := Option.some.inj H
   go_enter Tryd.func82, Tryd.ntmps82
   go_wp2_with (first | ((with_reducible refine xAj (f := 20) rfl ?_); refine xB6 (some 9) rfl rfl Tryd.func20 (by kernel_rfl) rfl #[.string ((⟨#[36]⟩ : ByteArray) ++ a0)] rfl (by (try simp only [List.map_toArray, List.map_cons, List.map_nil]); first | done | rfl | (simp only [List.length_drop, List.length_take]; rfl)) ?_; (with_reducible refine (xAn.calls k ((⟨#[36]⟩ : ByteArray) ++ a0) t541 t542 t543 _ A3.out).mono ?_); rintro e w14 ⟨v544, rfl, ho0, hb⟩; refine ⟨_, rfl, ?_⟩; have n0_ := Aside0.mk (Kd.R_lower ho0 (xAs (by repeat (first | (with_reducible first | exact HB.out | apply xA1 | apply xA0 | apply below_drew1) | exact HB.out)))); have n1_ := Aside0.mk (xAi (by repeat (first | (with_reducible first | exact HB.out | apply xA1 | apply xA0 | apply below_drew1) | exact HB.out)) hb); clear HB; have HO545 := n0_; have HB := n1_; clear n0_ n1_; (try clear hb); (try clear hb2); (try clear hk); (try clear hi); (try clear ho0)))
   go_ret
   exact ⟨by first | rfl | (simp <;> rfl) | (simp [*] <;> rfl), by repeat (first | (with_reducible first | exact HB.out | apply xA1 | apply xA0 | apply below_drew1) | exact HB.out)⟩
 ·rw [if_neg c2] at H
  exact absurd H (by simp)

end Go.Proofs.YtknbfhhmjbnemaaDoor.P
end
section
namespace Go.Proofs.YtknbfhhmjbnemaaDoor.P
open Go.RowKit Go.Proofs.YtknbfhhmjbnemaaDoorW.PrintWords Go.Proofs.YtknbfhhmjbnemaaDoorW.PrintLast Go.Proofs.YtknbfhhmjbnemaaDoorW.PrintMore
attribute [local go_sem] xB9 xBe

/-! ### xAf: function 56 -/
def xAf.j0 : Nat → ByteArray → Bool → ByteArray → ByteArray → Int → Int → List (S25) → Option (Bool)
 | 0, _, _, _, _, _, _, _ => none
 | k + 1, x1, x16, x549000, x549001, x549002, x549003, x549004 => if x16 = true then (some false) else (if x1.toList = ([110, 117, 109] : List UInt8) then (if x549001.toList = ([] : List UInt8) then (if x549002 ≥ 0 then (some (decide (x549002 ≤ 999999999))) else (some false)) else (some false)) else (if x1.toList = ([104, 101, 120] : List UInt8) then ((xBc.f k x549001).bind fun t549 => (if x549002 = 0 then (some t549) else (some false))) else ((xB5.f k x549001).bind fun t550 => (if x549002 = 0 then (some t550) else (some false)))))
def xAf.f (k : Nat) (a0_0 : ByteArray) (a0_1 : ByteArray) (a0_2 : Int) (a0_3 : Int) (l0_4 : List (S25)) (a1 : ByteArray) : Option (Bool) := if a0_0.toList = a1.toList then (xAf.j0 k a1 (decide ((l0_4.length : Int) > 0)) a0_0 a0_1 a0_2 a0_3 l0_4) else (xAf.j0 k a1 true a0_0 a0_1 a0_2 a0_3 l0_4)
set_option maxHeartbeats 8000000 in
set_option maxRecDepth 100000 in
theorem xAf.calls (k : Nat) (a0_0 : ByteArray) (a0_1 : ByteArray) (a0_2 : Int) (a0_3 : Int) (A0_4 : Option Addr) (c0_4 : Nat) (l0_4 : List (S25)) (a1 : ByteArray) (r : Bool) (w : World) (hr0_4 : Kd.C k25 w A0_4 l0_4.length l0_4) (hc0_4 : l0_4.length ≤ c0_4) (h : xAf.f k a0_0 a0_1 a0_2 a0_3 l0_4 a1 = some r) :
  Calls Tryd.prog 56 #[.agg #[.string a0_0, .string a0_1, .int .i64 a0_2, .int .i64 a0_3, .slice A0_4 l0_4.length c0_4], .string a1] w fun e w' => e = .returned (.bool r) ∧ Below w.heap.size w w' := by
 have hu25 := Tryd.underlying25
 have HR0_4 := Aside0.mk hr0_4
 have HC0_4 := Aside0.mk hc0_4
 clear hr0_4 hc0_4
 have HB := Aside0.mk (Below.refl w.heap.size w)
 have H : (if a0_0.toList = a1.toList then (xAf.j0 k a1 (decide ((l0_4.length : Int) > 0)) a0_0 a0_1 a0_2 a0_3 l0_4) else (xAf.j0 k a1 true a0_0 a0_1 a0_2 a0_3 l0_4)) = some r := h
 clear h
 have HC3 := Aside0.mk H
 clear H
 go_enter Tryd.func56, Tryd.ntmps56
 go_upto_region 1 with (first | ((with_reducible refine xBq (N := 2) rfl ?_); (try (refine xCj (by rfl) ?_; dsimp only)); refine xBm ?hg (N := 2) ?hd (cs := #[.string a0_0, .string a0_1, .int .i64 a0_2, .int .i64 a0_3, .slice A0_4 l0_4.length c0_4]) (t := 25) ?hr ?_; (case hd => rfl); (case hg => rfl); (case hr => first | (go_simp; done) | (go_simp; rfl)); intro gb548 hg w4 hbox hb; have n0_ := Aside0.mk (xAi (by repeat (first | (with_reducible first | exact HB.out | apply xA1 | apply xA0 | apply below_drew1) | exact HB.out)) hb); have n1_ := Aside0.mk (hbox); have n2_ := Aside0.mk ((by rw [hg]; exact (xAs (by repeat (first | (with_reducible first | exact HB.out | apply xA1 | apply xA0 | apply below_drew1) | exact HB.out))) : w.heap.size ≤ gb548)); have n3_ := Aside0.mk ((by rw [hg]; exact (xAs (by repeat (first | (with_reducible first | exact HB.out | apply xA1 | apply xA0 | apply below_drew1) | exact HB.out))) : w.heap.size ≤ gb548)); clear HB; have HB := n0_; have BK548 := n1_; have GW548 := n2_; have GE548 := n3_; clear n0_ n1_ n2_ n3_; clear hb hbox hg))
 (try simp only [Act.put, List.setIfInBounds_toArray, List.set_cons_zero, List.set_cons_succ])
 go_cut [16] (fun v16 wc => ∃ (kq : Nat) (x16_2 : Bool), v16 = .bool x16_2 ∧ Aside0 (xAf.j0 kq a1 x16_2 a0_0 a0_1 a0_2 a0_3 l0_4 = some r) ∧ Aside0 (kq ≤ k) ∧ Aside0 (wc.heap[gb548]? = some (.cells #[.string a0_0, .string a0_1, .int .i64 a0_2, .int .i64 a0_3, (.slice A0_4 l0_4.length c0_4)] 25 (0, 0))) ∧ Aside0 (Below w.heap.size w wc))
 case first =>
  have H := HC3.out
  clear HC3
  by_cases c5 : a0_0.toList = a1.toList
  ·rw [if_pos c5] at H
   have c5b0 : (a0_0.toList == a1.toList) = true := beq_iff_eq.mpr c5
   have c5b1 : (a0_0.toList != a1.toList) = false := bne_eq_false_iff_eq.mpr c5
   clear c5
   (first | rw [c5b0] | (simp only [xB0, xB1]; rw [c5b0]) | skip)
   have H' := Aside0.mk H
   clear H
   obtain ⟨hcz6_0, hcz6_1, hcz6_2, hcz6_3, hcz6_4, hfz6_0, hfz6_1, hfz6_2, hfz6_3, hfz6_4⟩ := ex5 BK548.out
   go_wp2
   go_meet
   case rel => exact ⟨_, (decide ((l0_4.length : Int) > 0)), (by first | rfl | (simp; done) | (simp [*]; done)), H', ⟨by first | omega | exact Nat.le_refl _⟩, ⟨by (with_reducible repeat (first | refine xA5 ?_ _ | refine xA8 ?_ | refine xA4 ?_ _)); exact BK548.out⟩, ⟨by repeat (first | (with_reducible first | exact HB.out | apply xA1 | apply xA0 | apply below_drew1 | refine xA6 ?_ GE548.out) | exact HB.out)⟩⟩
  ·rw [if_neg c5] at H
   have c5b0 : (a0_0.toList == a1.toList) = false := beq_eq_false_iff_ne.mpr c5
   have c5b1 : (a0_0.toList != a1.toList) = true := bne_iff_ne.mpr c5
   (first | rw [c5b0] | (simp only [xB0, xB1]; rw [c5b0]) | skip)
   have H' := Aside0.mk H
   clear H
   obtain ⟨hcz7_0, hcz7_1, hcz7_2, hcz7_3, hcz7_4, hfz7_0, hfz7_1, hfz7_2, hfz7_3, hfz7_4⟩ := ex5 BK548.out
   go_wp2
   go_meet
   case rel => exact ⟨_, (true), (by first | rfl | (simp; done) | (simp [*]; done)), H', ⟨by first | omega | exact Nat.le_refl _⟩, ⟨by (with_reducible repeat (first | refine xA5 ?_ _ | refine xA8 ?_ | refine xA4 ?_ _)); exact BK548.out⟩, ⟨by repeat (first | (with_reducible first | exact HB.out | apply xA1 | apply xA0 | apply below_drew1 | refine xA6 ?_ GE548.out) | exact HB.out)⟩⟩
 case rest =>
  clear HC3
  try clear p2
  try clear c5
  try clear c5b0
  try clear c5b1
  try clear hcz6_0 hcz6_1 hcz6_2 hcz6_3 hcz6_4
  try clear hcz7_0 hcz7_1 hcz7_2 hcz7_3 hcz7_4
  try clear hfz6_0 hfz6_1 hfz6_2 hfz6_3 hfz6_4
  try clear hfz7_0 hfz7_1 hfz7_2 hfz7_3 hfz7_4
  obtain ⟨kq, x16_2, rfl, HA, HJ2, BK548, HB⟩ := hcut
  cases kq with
  | zero => exact absurd HA.out (by simp [xAf.j0])
  | succ kj2 =>
   have H := HA.out
   clear HA
   simp only [xAf.j0] at H
   by_cases c8 : x16_2 = true
   ·subst c8
    have H1 : (some false) = some r := by rw [if_pos rfl] at H; exact H
    clear H
    have H := H1
    clear H1
    obtain rfl := Option.some.inj H
    go_wp2
    go_ret
    exact ⟨by first | rfl | (simp <;> rfl) | (simp [*] <;> rfl), by repeat (first | (with_reducible first | exact HB.out | apply xA1 | apply xA0 | apply below_drew1 | refine xA6 ?_ GE548.out) | exact HB.out)⟩
   ·replace c8 := Bool.eq_false_iff.mpr c8
    subst c8
    have H1 : (if a1.toList = ([110, 117, 109] : List UInt8) then (if a0_1.toList = ([] : List UInt8) then (if a0_2 ≥ 0 then (some (decide (a0_2 ≤ 999999999))) else (some false)) else (some false)) else (if a1.toList = ([104, 101, 120] : List UInt8) then ((xBc.f kj2 a0_1).bind fun t549 => (if a0_2 = 0 then (some t549) else (some false))) else ((xB5.f kj2 a0_1).bind fun t550 => (if a0_2 = 0 then (some t550) else (some false))))) = some r := by rw [if_neg (show ¬ (false = true) by decide)] at H; exact H
    clear H
    have H := H1
    clear H1
    by_cases c9 : a1.toList = ([110, 117, 109] : List UInt8)
    ·rw [if_pos c9] at H
     have c9b0 : (a1.toList == ([110, 117, 109] : List UInt8)) = true := beq_iff_eq.mpr c9
     have c9b1 : (a1.toList != ([110, 117, 109] : List UInt8)) = false := bne_eq_false_iff_eq.mpr c9
     clear c9
     by_cases c10 : a0_1.toList = ([] : List UInt8)
     ·rw [if_pos c10] at H
      have c10b0 : (a0_1.toList == ([] : List UInt8)) = true := beq_iff_eq.mpr c10
      have c10b1 : (a0_1.toList != ([] : List UInt8)) = false := bne_eq_false_iff_eq.mpr c10
      clear c10
      by_cases c11 : a0_2 ≥ 0
      ·rw [if_pos c11] at H
       have c11b0 : decide (0 ≤ a0_2) = true := decide_eq_true c11
       clear c11
       obtain rfl := Option.some.inj H
       obtain ⟨hcz12_0, hcz12_1, hcz12_2, hcz12_3, hcz12_4, hfz12_0, hfz12_1, hfz12_2, hfz12_3, hfz12_4⟩ := ex5 BK548.out
       go_wp2
       go_ret
       exact ⟨by first | rfl | (simp <;> rfl) | (simp [*] <;> rfl), by repeat (first | (with_reducible first | exact HB.out | apply xA1 | apply xA0 | apply below_drew1 | refine xA6 ?_ GE548.out) | exact HB.out)⟩
      ·rw [if_neg c11] at H
       have c11b0 : decide (0 ≤ a0_2) = false := decide_eq_false c11
       clear c11
       obtain rfl := Option.some.inj H
       obtain ⟨hcz13_0, hcz13_1, hcz13_2, hcz13_3, hcz13_4, hfz13_0, hfz13_1, hfz13_2, hfz13_3, hfz13_4⟩ := ex5 BK548.out
       go_wp2
       go_ret
       exact ⟨by first | rfl | (simp <;> rfl) | (simp [*] <;> rfl), by repeat (first | (with_reducible first | exact HB.out | apply xA1 | apply xA0 | apply below_drew1 | refine xA6 ?_ GE548.out) | exact HB.out)⟩
     ·rw [if_neg c10] at H
      have c10b0 : (a0_1.toList == ([] : List UInt8)) = false := beq_eq_false_iff_ne.mpr c10
      have c10b1 : (a0_1.toList != ([] : List UInt8)) = true := bne_iff_ne.mpr c10
      obtain rfl := Option.some.inj H
      obtain ⟨hcz14_0, hcz14_1, hcz14_2, hcz14_3, hcz14_4, hfz14_0, hfz14_1, hfz14_2, hfz14_3, hfz14_4⟩ := ex5 BK548.out
      go_wp2
      go_ret
      exact ⟨by first | rfl | (simp <;> rfl) | (simp [*] <;> rfl), by repeat (first | (with_reducible first | exact HB.out | apply xA1 | apply xA0 | apply below_drew1 | refine xA6 ?_ GE548.out) | exact HB.out)⟩
    ·rw [if_neg c9] at H
     have c9b0 : (a1.toList == ([110, 117, 109] : List UInt8)) = false := beq_eq_false_iff_ne.mpr c9
     have c9b1 : (a1.toList != ([110, 117, 109] : List UInt8)) = true := bne_iff_ne.mpr c9
     by_cases c15 : a1.toList = ([104, 101, 120] : List UInt8)
     ·rw [if_pos c15] at H
      have c15b0 : (a1.toList == ([104, 101, 120] : List UInt8)) = true := beq_iff_eq.mpr c15
      have c15b1 : (a1.toList != ([104, 101, 120] : List UInt8)) = false := bne_eq_false_iff_eq.mpr c15
      clear c15
      replace H := Option.bind_eq_some_iff.mp H
      obtain ⟨t549, A160, H⟩ := H
      replace H : (if a0_2 = 0 then (some t549) else (some false)) = some r := H
      have A16 := Aside0.mk A160
      clear A160
      by_cases c17 : a0_2 = 0
      ·rw [if_pos c17] at H
       have c17b0 : (a0_2 == 0) = true := beq_iff_eq.mpr c17
       have c17b1 : (a0_2 != 0) = false := bne_eq_false_iff_eq.mpr c17
       clear c17
       obtain rfl := Option.some.inj H
       obtain ⟨hcz18_0, hcz18_1, hcz18_2, hcz18_3, hcz18_4, hfz18_0, hfz18_1, hfz18_2, hfz18_3, hfz18_4⟩ := ex5 BK548.out
       go_wp2_with (first | ((with_reducible refine xAj (f := 82) rfl ?_); refine xB6 (some 37) rfl rfl Tryd.func82 (by kernel_rfl) rfl #[.string a0_1] rfl (by (try simp only [List.map_toArray, List.map_cons, List.map_nil]); first | done | rfl | (simp only [List.length_drop, List.length_take]; rfl)) ?_; (with_reducible refine (xBc.calls kj2 a0_1 t549 _ A16.out).mono ?_); rintro e w19 ⟨rfl, hb⟩; refine ⟨_, rfl, ?_⟩; have n0_ := Aside0.mk (xAt (g := gb548) (o := .cells #[.string a0_0, .string a0_1, .int .i64 a0_2, .int .i64 a0_3, .slice A0_4 l0_4.length c0_4] 25 (0, 0)) (by (with_reducible repeat (first | refine xA5 ?_ _ | refine xA8 ?_ | refine xA4 ?_ _)); exact BK548.out) hb); have n1_ := Aside0.mk (xAi (by repeat (first | (with_reducible first | exact HB.out | apply xA1 | apply xA0 | apply below_drew1 | refine xA6 ?_ GE548.out) | exact HB.out)) hb); clear BK548; clear HB; have BK548 := n0_; have HB := n1_; clear n0_ n1_; (try clear hb); (try clear hb2); (try clear hk); (try clear hi); obtain ⟨hcz20_0, hcz20_1, hcz20_2, hcz20_3, hcz20_4, hfz20_0, hfz20_1, hfz20_2, hfz20_3, hfz20_4⟩ := ex5 BK548.out))
       go_ret
       exact ⟨by first | rfl | (simp <;> rfl) | (simp [*] <;> rfl), by repeat (first | (with_reducible first | exact HB.out | apply xA1 | apply xA0 | apply below_drew1 | refine xA6 ?_ GE548.out) | exact HB.out)⟩
      ·rw [if_neg c17] at H
       have c17b0 : (a0_2 == 0) = false := beq_eq_false_iff_ne.mpr c17
       have c17b1 : (a0_2 != 0) = true := bne_iff_ne.mpr c17
       obtain rfl := Option.some.inj H
       obtain ⟨hcz21_0, hcz21_1, hcz21_2, hcz21_3, hcz21_4, hfz21_0, hfz21_1, hfz21_2, hfz21_3, hfz21_4⟩ := ex5 BK548.out
       go_wp2_with (first | ((with_reducible refine xAj (f := 82) rfl ?_); refine xB6 (some 37) rfl rfl Tryd.func82 (by kernel_rfl) rfl #[.string a0_1] rfl (by (try simp only [List.map_toArray, List.map_cons, List.map_nil]); first | done | rfl | (simp only [List.length_drop, List.length_take]; rfl)) ?_; (with_reducible refine (xBc.calls kj2 a0_1 t549 _ A16.out).mono ?_); rintro e w22 ⟨rfl, hb⟩; refine ⟨_, rfl, ?_⟩; have n0_ := Aside0.mk (xAt (g := gb548) (o := .cells #[.string a0_0, .string a0_1, .int .i64 a0_2, .int .i64 a0_3, .slice A0_4 l0_4.length c0_4] 25 (0, 0)) (by (with_reducible repeat (first | refine xA5 ?_ _ | refine xA8 ?_ | refine xA4 ?_ _)); exact BK548.out) hb); have n1_ := Aside0.mk (xAi (by repeat (first | (with_reducible first | exact HB.out | apply xA1 | apply xA0 | apply below_drew1 | refine xA6 ?_ GE548.out) | exact HB.out)) hb); clear BK548; clear HB; have BK548 := n0_; have HB := n1_; clear n0_ n1_; (try clear hb); (try clear hb2); (try clear hk); (try clear hi); obtain ⟨hcz23_0, hcz23_1, hcz23_2, hcz23_3, hcz23_4, hfz23_0, hfz23_1, hfz23_2, hfz23_3, hfz23_4⟩ := ex5 BK548.out))
       go_ret
       exact ⟨by first | rfl | (simp <;> rfl) | (simp [*] <;> rfl), by repeat (first | (with_reducible first | exact HB.out | apply xA1 | apply xA0 | apply below_drew1 | refine xA6 ?_ GE548.out) | exact HB.out)⟩
     ·rw [if_neg c15] at H
      have c15b0 : (a1.toList == ([104, 101, 120] : List UInt8)) = false := beq_eq_false_iff_ne.mpr c15
      have c15b1 : (a1.toList != ([104, 101, 120] : List UInt8)) = true := bne_iff_ne.mpr c15
      replace H := Option.bind_eq_some_iff.mp H
      obtain ⟨t550, A240, H⟩ := H
      replace H : (if a0_2 = 0 then (some t550) else (some false)) = some r := H
      have A24 := Aside0.mk A240
      clear A240
      by_cases c25 : a0_2 = 0
      ·rw [if_pos c25] at H
       have c25b0 : (a0_2 == 0) = true := beq_iff_eq.mpr c25
       have c25b1 : (a0_2 != 0) = false := bne_eq_false_iff_eq.mpr c25
       clear c25
       obtain rfl := Option.some.inj H
       obtain ⟨hcz26_0, hcz26_1, hcz26_2, hcz26_3, hcz26_4, hfz26_0, hfz26_1, hfz26_2, hfz26_3, hfz26_4⟩ := ex5 BK548.out
       go_wp2_with (first | ((with_reducible refine xAj (f := 55) rfl ?_); refine xB6 (some 46) rfl rfl Tryd.func55 (by kernel_rfl) rfl #[.string a0_1] rfl (by (try simp only [List.map_toArray, List.map_cons, List.map_nil]); first | done | rfl | (simp only [List.length_drop, List.length_take]; rfl)) ?_; (with_reducible refine (xB5.calls kj2 a0_1 t550 _ A24.out).mono ?_); rintro e w27 ⟨rfl, hb⟩; refine ⟨_, rfl, ?_⟩; have n0_ := Aside0.mk (xAt (g := gb548) (o := .cells #[.string a0_0, .string a0_1, .int .i64 a0_2, .int .i64 a0_3, .slice A0_4 l0_4.length c0_4] 25 (0, 0)) (by (with_reducible repeat (first | refine xA5 ?_ _ | refine xA8 ?_ | refine xA4 ?_ _)); exact BK548.out) hb); have n1_ := Aside0.mk (xAi (by repeat (first | (with_reducible first | exact HB.out | apply xA1 | apply xA0 | apply below_drew1 | refine xA6 ?_ GE548.out) | exact HB.out)) hb); clear BK548; clear HB; have BK548 := n0_; have HB := n1_; clear n0_ n1_; (try clear hb); (try clear hb2); (try clear hk); (try clear hi); obtain ⟨hcz28_0, hcz28_1, hcz28_2, hcz28_3, hcz28_4, hfz28_0, hfz28_1, hfz28_2, hfz28_3, hfz28_4⟩ := ex5 BK548.out))
       go_ret
       exact ⟨by first | rfl | (simp <;> rfl) | (simp [*] <;> rfl), by repeat (first | (with_reducible first | exact HB.out | apply xA1 | apply xA0 | apply below_drew1 | refine xA6 ?_ GE548.out) | exact HB.out)⟩
      ·rw [if_neg c25] at H
       have c25b0 : (a0_2 == 0) = false := beq_eq_false_iff_ne.mpr c25
       have c25b1 : (a0_2 != 0) = true := bne_iff_ne.mpr c25
       obtain rfl := Option.some.inj H
       obtain ⟨hcz29_0, hcz29_1, hcz29_2, hcz29_3, hcz29_4, hfz29_0, hfz29_1, hfz29_2, hfz29_3, hfz29_4⟩ := ex5 BK548.out
       go_wp2_with (first | ((with_reducible refine xAj (f := 55) rfl ?_); refine xB6 (some 46) rfl rfl Tryd.func55 (by kernel_rfl) rfl #[.string a0_1] rfl (by (try simp only [List.map_toArray, List.map_cons, List.map_nil]); first | done | rfl | (simp only [List.length_drop, List.length_take]; rfl)) ?_; (with_reducible refine (xB5.calls kj2 a0_1 t550 _ A24.out).mono ?_); rintro e w30 ⟨rfl, hb⟩; refine ⟨_, rfl, ?_⟩; have n0_ := Aside0.mk (xAt (g := gb548) (o := .cells #[.string a0_0, .string a0_1, .int .i64 a0_2, .int .i64 a0_3, .slice A0_4 l0_4.length c0_4] 25 (0, 0)) (by (with_reducible repeat (first | refine xA5 ?_ _ | refine xA8 ?_ | refine xA4 ?_ _)); exact BK548.out) hb); have n1_ := Aside0.mk (xAi (by repeat (first | (with_reducible first | exact HB.out | apply xA1 | apply xA0 | apply below_drew1 | refine xA6 ?_ GE548.out) | exact HB.out)) hb); clear BK548; clear HB; have BK548 := n0_; have HB := n1_; clear n0_ n1_; (try clear hb); (try clear hb2); (try clear hk); (try clear hi); obtain ⟨hcz31_0, hcz31_1, hcz31_2, hcz31_3, hcz31_4, hfz31_0, hfz31_1, hfz31_2, hfz31_3, hfz31_4⟩ := ex5 BK548.out))
       go_ret
       exact ⟨by first | rfl | (simp <;> rfl) | (simp [*] <;> rfl), by repeat (first | (with_reducible first | exact HB.out | apply xA1 | apply xA0 | apply below_drew1 | refine xA6 ?_ GE548.out) | exact HB.out)⟩

end Go.Proofs.YtknbfhhmjbnemaaDoor.P
end
section
namespace Go.Proofs.YtknbfhhmjbnemaaDoor.P
open Go.RowKit Go.Proofs.YtknbfhhmjbnemaaDoorW.PrintWords Go.Proofs.YtknbfhhmjbnemaaDoorW.PrintLast Go.Proofs.YtknbfhhmjbnemaaDoorW.PrintMore
attribute [local go_sem] xB9 xBe

/-! ### xA3: function 57 -/
mutual
def xA3.j0 : Nat → Int → Bool → ByteArray → ByteArray → Int → Int → List (S25) → Option (Bool)
 | 0, _, _, _, _, _, _, _ => none
 | k + 1, x1, x16, x552000, x552001, x552002, x552003, x552004 => if x16 = true then (some (decide (x1 ≤ 12))) else (if x552001.toList = ([] : List UInt8) then (if x552002 = 0 then (xA3.j1 k x1 (decide ((x552004.length : Int) < 1)) x552000 x552001 x552002 x552003 x552004) else (xA3.j1 k x1 true x552000 x552001 x552002 x552003 x552004)) else (xA3.j1 k x1 true x552000 x552001 x552002 x552003 x552004))
def xA3.j1 : Nat → Int → Bool → ByteArray → ByteArray → Int → Int → List (S25) → Option (Bool)
 | 0, _, _, _, _, _, _, _ => none
 | k + 1, x1, x32, x552000, x552001, x552002, x552003, x552004 => if x32 = true then (some false) else (if x552000.toList = ([108, 105, 110, 101, 97, 114] : List UInt8) then (if (x552004.length : Int) = 3 then (if 1 < (x552004.length : Int) then ((xAf.f k ((xA2 x552004 1).f0) ((xA2 x552004 1).f1) ((xA2 x552004 1).f2) ((xA2 x552004 1).f3) ((xA2 x552004 1).f4) (⟨#[110, 117, 109]⟩ : ByteArray)).bind fun t554 => (if t554 = true then (if 2 < (x552004.length : Int) then ((xAf.f k ((xA2 x552004 2).f0) ((xA2 x552004 2).f1) ((xA2 x552004 2).f2) ((xA2 x552004 2).f3) ((xA2 x552004 2).f4) (⟨#[110, 117, 109]⟩ : ByteArray)).bind fun t556 => (if t556 = true then (xA3.j3 k x1 1 x552000 x552001 x552002 x552003 x552004) else (some false))) else (none)) else (some false))) else (none)) else (some false)) else (if x552000.toList = ([115, 110, 97, 112, 115, 104, 111, 116] : List UInt8) then (if (x552004.length : Int) = 3 then (if 2 < (x552004.length : Int) then ((xAf.f k ((xA2 x552004 2).f0) ((xA2 x552004 2).f1) ((xA2 x552004 2).f2) ((xA2 x552004 2).f3) ((xA2 x552004 2).f4) (⟨#[110, 117, 109]⟩ : ByteArray)).bind fun t558 => (if t558 = true then (xA3.j3 k x1 2 x552000 x552001 x552002 x552003 x552004) else (some false))) else (none)) else (some false)) else (if x552000.toList = ([99, 114, 121, 112, 116] : List UInt8) then (xA3.j2 k x1 1 x552000 (x552000.toList == ([99, 114, 121, 112, 116] : List UInt8)) x552000 x552001 x552002 x552003 x552004) else (if x552000.toList = ([105, 110, 116, 101, 103, 114, 105, 116, 121] : List UInt8) then (xA3.j2 k x1 1 x552000 (x552000.toList == ([105, 110, 116, 101, 103, 114, 105, 116, 121] : List UInt8)) x552000 x552001 x552002 x552003 x552004) else (xA3.j2 k x1 1 x552000 (x552000.toList == ([118, 101, 114, 105, 116, 121] : List UInt8)) x552000 x552001 x552002 x552003 x552004)))))
def xA3.j3 : Nat → Int → Int → ByteArray → ByteArray → Int → Int → List (S25) → Option (Bool)
 | 0, _, _, _, _, _, _, _ => none
 | k + 1, x1, x6, x552000, x552001, x552002, x552003, x552004 => xA3.l0 k x1 x6 0 x552000 x552001 x552002 x552003 x552004
def xA3.l0 : Nat → Int → Int → Int → ByteArray → ByteArray → Int → Int → List (S25) → Option (Bool)
 | 0, _, _, _, _, _, _, _, _ => none
 | k + 1, x1, x6, x8, x552000, x552001, x552002, x552003, x552004 => if x8 < x6 then (if 0 ≤ x8 then (if x8 < (x552004.length : Int) then ((xA3.f k ((xA2 x552004 x8).f0) ((xA2 x552004 x8).f1) ((xA2 x552004 x8).f2) ((xA2 x552004 x8).f3) ((xA2 x552004 x8).f4) (wrap64 (x1 + 1))).bind fun t562 => (if t562 = true then (xA3.l0 k x1 x6 (wrap64 (x8 + 1)) x552000 x552001 x552002 x552003 x552004) else (some false))) else (none)) else (none)) else (some true)
def xA3.j2 : Nat → Int → Int → ByteArray → Bool → ByteArray → ByteArray → Int → Int → List (S25) → Option (Bool)
 | 0, _, _, _, _, _, _, _, _, _ => none
 | k + 1, x1, x6, x34, x72, x552000, x552001, x552002, x552003, x552004 => if x72 = true then (if (x552004.length : Int) = 2 then (if 1 < (x552004.length : Int) then ((xAf.f k ((xA2 x552004 1).f0) ((xA2 x552004 1).f1) ((xA2 x552004 1).f2) ((xA2 x552004 1).f3) ((xA2 x552004 1).f4) (⟨#[110, 97, 109, 101]⟩ : ByteArray)).bind fun t560 => (if t560 = true then (xA3.j3 k x1 x6 x552000 x552001 x552002 x552003 x552004) else (some false))) else (none)) else (some false)) else (if x34.toList = ([99, 111, 110, 99, 97, 116] : List UInt8) then (xA3.j3 k x1 (x552004.length : Int) x552000 x552001 x552002 x552003 x552004) else (if x34.toList = ([109, 105, 114, 114, 111, 114] : List UInt8) then (xA3.j3 k x1 (x552004.length : Int) x552000 x552001 x552002 x552003 x552004) else (some false)))
def xA3.f : Nat → ByteArray → ByteArray → Int → Int → List (S25) → Int → Option (Bool)
 | 0, _, _, _, _, _, _ => none
 | k + 1, a0_0, a0_1, a0_2, a0_3, l0_4, a1 => (xAf.f k a0_0 a0_1 a0_2 a0_3 l0_4 (⟨#[117, 115, 101]⟩ : ByteArray)).bind fun t552 => (if t552 = true then (xA3.j0 k a1 true a0_0 a0_1 a0_2 a0_3 l0_4) else (xA3.j0 k a1 (decide (a1 > 12)) a0_0 a0_1 a0_2 a0_3 l0_4))
end
set_option maxHeartbeats 8000000 in
set_option maxRecDepth 100000 in
theorem xA3.calls (k : Nat) : ∀ (a0_0 : ByteArray) (a0_1 : ByteArray) (a0_2 : Int) (a0_3 : Int) (A0_4 : Option Addr) (c0_4 : Nat) (l0_4 : List (S25)) (a1 : Int) (r : Bool) (w : World) (hr0_4 : Kd.C k25 w A0_4 l0_4.length l0_4) (hc0_4 : l0_4.length ≤ c0_4) (h : xA3.f k a0_0 a0_1 a0_2 a0_3 l0_4 a1 = some r),
  Calls Tryd.prog 57 #[.agg #[.string a0_0, .string a0_1, .int .i64 a0_2, .int .i64 a0_3, .slice A0_4 l0_4.length c0_4], .int .i64 a1] w fun e w' => e = .returned (.bool r) ∧ Below w.heap.size w w' := by
 induction k using Nat.strongRecOn with
 | _ k ih =>
 intro a0_0 a0_1 a0_2 a0_3 A0_4 c0_4 l0_4 a1 r w hr0_4 hc0_4 h
 cases k with
 | zero => exact absurd h (by simp [xA3.f])
 | succ k =>
 simp only [xA3.f] at h
 have hu25 := Tryd.underlying25
 have HR0_4 := Aside0.mk hr0_4
 have HC0_4 := Aside0.mk hc0_4
 clear hr0_4 hc0_4
 have HB := Aside0.mk (Below.refl w.heap.size w)
 have H : ((xAf.f k a0_0 a0_1 a0_2 a0_3 l0_4 (⟨#[117, 115, 101]⟩ : ByteArray)).bind fun t552 => (if t552 = true then (xA3.j0 k a1 true a0_0 a0_1 a0_2 a0_3 l0_4) else (xA3.j0 k a1 (decide (a1 > 12)) a0_0 a0_1 a0_2 a0_3 l0_4))) = some r := h
 clear h
 replace H := Option.bind_eq_some_iff.mp H
 obtain ⟨t552, A30, H⟩ := H
 replace H : (if t552 = true then (xA3.j0 k a1 true a0_0 a0_1 a0_2 a0_3 l0_4) else (xA3.j0 k a1 (decide (a1 > 12)) a0_0 a0_1 a0_2 a0_3 l0_4)) = some r := H
 have A3 := Aside0.mk A30
 clear A30
 have HC4 := Aside0.mk H
 clear H
 go_enter Tryd.func57, Tryd.ntmps57
 go_upto_region 2 with (first | ((with_reducible refine xBq (N := 2) rfl ?_); (try (refine xCj (by rfl) ?_; dsimp only)); refine xBm ?hg (N := 2) ?hd (cs := #[.string a0_0, .string a0_1, .int .i64 a0_2, .int .i64 a0_3, .slice A0_4 l0_4.length c0_4]) (t := 25) ?hr ?_; (case hd => rfl); (case hg => rfl); (case hr => first | (go_simp; done) | (go_simp; rfl)); intro gb551 hg w5 hbox hb; have n0_ := Aside0.mk (xAi (by repeat (first | (with_reducible first | exact HB.out | apply xA1 | apply xA0 | apply below_drew1) | exact HB.out)) hb); have n1_ := Aside0.mk (hbox); have n2_ := Aside0.mk ((by rw [hg]; exact (xAs (by repeat (first | (with_reducible first | exact HB.out | apply xA1 | apply xA0 | apply below_drew1) | exact HB.out))) : w.heap.size ≤ gb551)); have n3_ := Aside0.mk ((by rw [hg]; exact (xAs (by repeat (first | (with_reducible first | exact HB.out | apply xA1 | apply xA0 | apply below_drew1) | exact HB.out))) : w.heap.size ≤ gb551)); clear HB; have HB := n0_; have BK551 := n1_; have GW551 := n2_; have GE551 := n3_; clear n0_ n1_ n2_ n3_; clear hb hbox hg; obtain ⟨hcz6_0, hcz6_1, hcz6_2, hcz6_3, hcz6_4, hfz6_0, hfz6_1, hfz6_2, hfz6_3, hfz6_4⟩ := ex5 BK551.out) | ((with_reducible refine xAj (f := 56) rfl ?_); refine xB6 (some 11) rfl rfl Tryd.func56 (by kernel_rfl) rfl #[.agg #[.string a0_0, .string a0_1, .int .i64 a0_2, .int .i64 a0_3, .slice A0_4 l0_4.length c0_4], .string (⟨#[117, 115, 101]⟩ : ByteArray)] rfl (by (try simp only [List.map_toArray, List.map_cons, List.map_nil]); first | done | rfl | (simp only [List.length_drop, List.length_take]; rfl)) ?_; (with_reducible refine (xAf.calls k a0_0 a0_1 a0_2 a0_3 _ _ l0_4 (⟨#[117, 115, 101]⟩ : ByteArray) t552 _ ?side1 ?side2 A3.out).mono ?_); (case side1 => repeat (first | exact (Kd.C_below HR0_4.out HB.out) | (with_reducible refine Kd.C_alloc ?_ _) | (with_reducible refine Kd.C_drewN ?_ _) | (with_reducible refine Kd.C_drew ?_))); (case side2 => exact HC0_4.out); rintro e w7 ⟨rfl, hb⟩; refine ⟨_, rfl, ?_⟩; have n0_ := Aside0.mk (xAt (g := gb551) (o := .cells #[.string a0_0, .string a0_1, .int .i64 a0_2, .int .i64 a0_3, .slice A0_4 l0_4.length c0_4] 25 (0, 0)) (by (with_reducible repeat (first | refine xA5 ?_ _ | refine xA8 ?_ | refine xA4 ?_ _)); exact BK551.out) hb); have n1_ := Aside0.mk (xAi (by repeat (first | (with_reducible first | exact HB.out | apply xA1 | apply xA0 | apply below_drew1 | refine xA6 ?_ GE551.out) | exact HB.out)) hb); clear BK551; clear HB; have BK551 := n0_; have HB := n1_; clear n0_ n1_; (try clear hb); (try clear hb2); (try clear hk); (try clear hi)))
 (try simp only [Act.put, List.setIfInBounds_toArray, List.set_cons_zero, List.set_cons_succ])
 go_cut [16] (fun v16 wc => ∃ (kq : Nat) (x16_3 : Bool), v16 = .bool x16_3 ∧ Aside0 (xA3.j0 kq a1 x16_3 a0_0 a0_1 a0_2 a0_3 l0_4 = some r) ∧ Aside0 (kq ≤ k) ∧ Aside0 (wc.heap[gb551]? = some (.cells #[.string a0_0, .string a0_1, .int .i64 a0_2, .int .i64 a0_3, (.slice A0_4 l0_4.length c0_4)] 25 (0, 0))) ∧ Aside0 (Below w.heap.size w wc))
 case first =>
  have H := HC4.out
  clear HC4
  by_cases c8 : t552 = true
  ·subst c8
   have H1 : (xA3.j0 k a1 true a0_0 a0_1 a0_2 a0_3 l0_4) = some r := by rw [if_pos rfl] at H; exact H
   clear H
   have H := H1
   clear H1
   have H' := Aside0.mk H
   clear H
   go_wp2
   go_meet
   case rel => exact ⟨_, (true), (by first | rfl | (simp; done) | (simp [*]; done)), H', ⟨by first | omega | exact Nat.le_refl _⟩, ⟨by (with_reducible repeat (first | refine xA5 ?_ _ | refine xA8 ?_ | refine xA4 ?_ _)); exact BK551.out⟩, ⟨by repeat (first | (with_reducible first | exact HB.out | apply xA1 | apply xA0 | apply below_drew1 | refine xA6 ?_ GE551.out) | exact HB.out)⟩⟩
  ·replace c8 := Bool.eq_false_iff.mpr c8
   subst c8
   have H1 : (xA3.j0 k a1 (decide (a1 > 12)) a0_0 a0_1 a0_2 a0_3 l0_4) = some r := by rw [if_neg (show ¬ (false = true) by decide)] at H; exact H
   clear H
   have H := H1
   clear H1
   have H' := Aside0.mk H
   clear H
   go_wp2
   go_meet
   case rel => exact ⟨_, (decide (a1 > 12)), (by first | rfl | (simp; done) | (simp [*]; done)), H', ⟨by first | omega | exact Nat.le_refl _⟩, ⟨by (with_reducible repeat (first | refine xA5 ?_ _ | refine xA8 ?_ | refine xA4 ?_ _)); exact BK551.out⟩, ⟨by repeat (first | (with_reducible first | exact HB.out | apply xA1 | apply xA0 | apply below_drew1 | refine xA6 ?_ GE551.out) | exact HB.out)⟩⟩
 case rest =>
  clear HC4
  try clear p2
  try clear c5
  try clear c8
  try clear hcz6_0 hcz6_1 hcz6_2 hcz6_3 hcz6_4
  try clear hfz6_0 hfz6_1 hfz6_2 hfz6_3 hfz6_4
  obtain ⟨kq, x16_3, rfl, HA, HJ3, BK551, HB⟩ := hcut
  cases kq with
  | zero => exact absurd HA.out (by simp [xA3.j0])
  | succ kj3 =>
   have H := HA.out
   clear HA
   simp only [xA3.j0] at H
   by_cases c9 : x16_3 = true
   ·subst c9
    have H1 : (some (decide (a1 ≤ 12))) = some r := by rw [if_pos rfl] at H; exact H
    clear H
    have H := H1
    clear H1
    obtain rfl := Option.some.inj H
    go_wp2
    go_ret
    exact ⟨by first | rfl | (simp <;> rfl) | (simp [*] <;> rfl), by repeat (first | (with_reducible first | exact HB.out | apply xA1 | apply xA0 | apply below_drew1 | refine xA6 ?_ GE551.out) | exact HB.out)⟩
   ·replace c9 := Bool.eq_false_iff.mpr c9
    subst c9
    have H1 : (if a0_1.toList = ([] : List UInt8) then (if a0_2 = 0 then (xA3.j1 kj3 a1 (decide ((l0_4.length : Int) < 1)) a0_0 a0_1 a0_2 a0_3 l0_4) else (xA3.j1 kj3 a1 true a0_0 a0_1 a0_2 a0_3 l0_4)) else (xA3.j1 kj3 a1 true a0_0 a0_1 a0_2 a0_3 l0_4)) = some r := by rw [if_neg (show ¬ (false = true) by decide)] at H; exact H
    clear H
    have H := H1
    clear H1
    have HC10 := Aside0.mk H
    clear H
    go_upto_region 4 with (fail)
    go_cut [32] (fun v32 wc => ∃ (kq : Nat) (x32_9 : Bool), v32 = .bool x32_9 ∧ Aside0 (xA3.j1 kq a1 x32_9 a0_0 a0_1 a0_2 a0_3 l0_4 = some r) ∧ Aside0 (kq ≤ kj3) ∧ Aside0 (wc.heap[gb551]? = some (.cells #[.string a0_0, .string a0_1, .int .i64 a0_2, .int .i64 a0_3, (.slice A0_4 l0_4.length c0_4)] 25 (0, 0))) ∧ Aside0 (Below w.heap.size w wc))
    case first =>
     have H := HC10.out
     clear HC10
     by_cases c11 : a0_1.toList = ([] : List UInt8)
     ·rw [if_pos c11] at H
      have c11b0 : (a0_1.toList == ([] : List UInt8)) = true := beq_iff_eq.mpr c11
      have c11b1 : (a0_1.toList != ([] : List UInt8)) = false := bne_eq_false_iff_eq.mpr c11
      clear c11
      (first | rw [c11b0] | (simp only [xB0, xB1]; rw [c11b0]) | skip)
      by_cases c12 : a0_2 = 0
      ·rw [if_pos c12] at H
       have c12b0 : (a0_2 == 0) = true := beq_iff_eq.mpr c12
       have c12b1 : (a0_2 != 0) = false := bne_eq_false_iff_eq.mpr c12
       clear c12
       have H' := Aside0.mk H
       clear H
       obtain ⟨hcz13_0, hcz13_1, hcz13_2, hcz13_3, hcz13_4, hfz13_0, hfz13_1, hfz13_2, hfz13_3, hfz13_4⟩ := ex5 BK551.out
       go_wp2
       go_meet
       case rel => exact ⟨_, (decide ((l0_4.length : Int) < 1)), (by first | rfl | (simp; done) | (simp [*]; done)), H', ⟨by have := HJ3.out; first | omega | exact Nat.le_refl _⟩, ⟨by (with_reducible repeat (first | refine xA5 ?_ _ | refine xA8 ?_ | refine xA4 ?_ _)); exact BK551.out⟩, ⟨by repeat (first | (with_reducible first | exact HB.out | apply xA1 | apply xA0 | apply below_drew1 | refine xA6 ?_ GE551.out) | exact HB.out)⟩⟩
      ·rw [if_neg c12] at H
       have c12b0 : (a0_2 == 0) = false := beq_eq_false_iff_ne.mpr c12
       have c12b1 : (a0_2 != 0) = true := bne_iff_ne.mpr c12
       have H' := Aside0.mk H
       clear H
       obtain ⟨hcz14_0, hcz14_1, hcz14_2, hcz14_3, hcz14_4, hfz14_0, hfz14_1, hfz14_2, hfz14_3, hfz14_4⟩ := ex5 BK551.out
       go_wp2
       go_meet
       case rel => exact ⟨_, (true), (by first | rfl | (simp; done) | (simp [*]; done)), H', ⟨by have := HJ3.out; first | omega | exact Nat.le_refl _⟩, ⟨by (with_reducible repeat (first | refine xA5 ?_ _ | refine xA8 ?_ | refine xA4 ?_ _)); exact BK551.out⟩, ⟨by repeat (first | (with_reducible first | exact HB.out | apply xA1 | apply xA0 | apply below_drew1 | refine xA6 ?_ GE551.out) | exact HB.out)⟩⟩
     ·rw [if_neg c11] at H
      have c11b0 : (a0_1.toList == ([] : List UInt8)) = false := beq_eq_false_iff_ne.mpr c11
      have c11b1 : (a0_1.toList != ([] : List UInt8)) = true := bne_iff_ne.mpr c11
      (first | rw [c11b0] | (simp only [xB0, xB1]; rw [c11b0]) | skip)
      have H' := Aside0.mk H
      clear H
      obtain ⟨hcz15_0, hcz15_1, hcz15_2, hcz15_3, hcz15_4, hfz15_0, hfz15_1, hfz15_2, hfz15_3, hfz15_4⟩ := ex5 BK551.out
      go_wp2
      go_meet
      case rel => exact ⟨_, (true), (by first | rfl | (simp; done) | (simp [*]; done)), H', ⟨by have := HJ3.out; first | omega | exact Nat.le_refl _⟩, ⟨by (with_reducible repeat (first | refine xA5 ?_ _ | refine xA8 ?_ | refine xA4 ?_ _)); exact BK551.out⟩, ⟨by repeat (first | (with_reducible first | exact HB.out | apply xA1 | apply xA0 | apply below_drew1 | refine xA6 ?_ GE551.out) | exact HB.out)⟩⟩
    case rest =>
     clear HC10
     try clear c1
     try clear p2
     try clear c5
     try clear c8
     try clear c9
     try clear c11
     try clear c11b0
     try clear c11b1
     try clear c12
     try clear c12b0
     try clear c12b1
     try clear hcz13_0 hcz13_1 hcz13_2 hcz13_3 hcz13_4
     try clear hcz14_0 hcz14_1 hcz14_2 hcz14_3 hcz14_4
     try clear hcz15_0 hcz15_1 hcz15_2 hcz15_3 hcz15_4
     try clear hcz6_0 hcz6_1 hcz6_2 hcz6_3 hcz6_4
     try clear hfz13_0 hfz13_1 hfz13_2 hfz13_3 hfz13_4
     try clear hfz14_0 hfz14_1 hfz14_2 hfz14_3 hfz14_4
     try clear hfz15_0 hfz15_1 hfz15_2 hfz15_3 hfz15_4
     try clear hfz6_0 hfz6_1 hfz6_2 hfz6_3 hfz6_4
     try clear p2
     obtain ⟨kq, x32_9, rfl, HA, HJ9, BK551, HB⟩ := hcut
     cases kq with
     | zero => exact absurd HA.out (by simp [xA3.j1])
     | succ kj9 =>
      have H := HA.out
      clear HA
      simp only [xA3.j1] at H
      by_cases c16 : x32_9 = true
      ·subst c16
       have H1 : (some false) = some r := by rw [if_pos rfl] at H; exact H
       clear H
       have H := H1
       clear H1
       obtain rfl := Option.some.inj H
       go_wp2
       go_ret
       exact ⟨by first | rfl | (simp <;> rfl) | (simp [*] <;> rfl), by repeat (first | (with_reducible first | exact HB.out | apply xA1 | apply xA0 | apply below_drew1 | refine xA6 ?_ GE551.out) | exact HB.out)⟩
      ·replace c16 := Bool.eq_false_iff.mpr c16
       subst c16
       have H1 : (if a0_0.toList = ([108, 105, 110, 101, 97, 114] : List UInt8) then (if (l0_4.length : Int) = 3 then (if 1 < (l0_4.length : Int) then ((xAf.f kj9 ((xA2 l0_4 1).f0) ((xA2 l0_4 1).f1) ((xA2 l0_4 1).f2) ((xA2 l0_4 1).f3) ((xA2 l0_4 1).f4) (⟨#[110, 117, 109]⟩ : ByteArray)).bind fun t554 => (if t554 = true then (if 2 < (l0_4.length : Int) then ((xAf.f kj9 ((xA2 l0_4 2).f0) ((xA2 l0_4 2).f1) ((xA2 l0_4 2).f2) ((xA2 l0_4 2).f3) ((xA2 l0_4 2).f4) (⟨#[110, 117, 109]⟩ : ByteArray)).bind fun t556 => (if t556 = true then (xA3.j3 kj9 a1 1 a0_0 a0_1 a0_2 a0_3 l0_4) else (some false))) else (none)) else (some false))) else (none)) else (some false)) else (if a0_0.toList = ([115, 110, 97, 112, 115, 104, 111, 116] : List UInt8) then (if (l0_4.length : Int) = 3 then (if 2 < (l0_4.length : Int) then ((xAf.f kj9 ((xA2 l0_4 2).f0) ((xA2 l0_4 2).f1) ((xA2 l0_4 2).f2) ((xA2 l0_4 2).f3) ((xA2 l0_4 2).f4) (⟨#[110, 117, 109]⟩ : ByteArray)).bind fun t558 => (if t558 = true then (xA3.j3 kj9 a1 2 a0_0 a0_1 a0_2 a0_3 l0_4) else (some false))) else (none)) else (some false)) else (if a0_0.toList = ([99, 114, 121, 112, 116] : List UInt8) then (xA3.j2 kj9 a1 1 a0_0 (a0_0.toList == ([99, 114, 121, 112, 116] : List UInt8)) a0_0 a0_1 a0_2 a0_3 l0_4) else (if a0_0.toList = ([105, 110, 116, 101, 103, 114, 105, 116, 121] : List UInt8) then (xA3.j2 kj9 a1 1 a0_0 (a0_0.toList == ([105, 110, 116, 101, 103, 114, 105, 116, 121] : List UInt8)) a0_0 a0_1 a0_2 a0_3 l0_4) else (xA3.j2 kj9 a1 1 a0_0 (a0_0.toList == ([118, 101, 114, 105, 116, 121] : List UInt8)) a0_0 a0_1 a0_2 a0_3 l0_4))))) = some r := by rw [if_neg (show ¬ (false = true) by decide)] at H; exact H
       clear H
       have H := H1
       clear H1
       have HC17 := Aside0.mk H
       clear H
       obtain ⟨hcz18_0, hcz18_1, hcz18_2, hcz18_3, hcz18_4, hfz18_0, hfz18_1, hfz18_2, hfz18_3, hfz18_4⟩ := ex5 BK551.out
       go_upto_block 0 with (fail)
       go_cut [6] (fun v6 wc => ∃ (kq : Nat) (x6_16 : Int), v6 = .int .i64 x6_16 ∧ Aside0 (xA3.j3 kq a1 x6_16 a0_0 a0_1 a0_2 a0_3 l0_4 = some r) ∧ Aside0 (kq ≤ kj9) ∧ Aside0 (wc.heap[gb551]? = some (.cells #[.string a0_0, .string a0_1, .int .i64 a0_2, .int .i64 a0_3, (.slice A0_4 l0_4.length c0_4)] 25 (0, 0))) ∧ Aside0 (Below w.heap.size w wc))
       case first =>
        have H := HC17.out
        clear HC17
        by_cases c19 : a0_0.toList = ([108, 105, 110, 101, 97, 114] : List UInt8)
        ·rw [if_pos c19] at H
         have c19b0 : (a0_0.toList == ([108, 105, 110, 101, 97, 114] : List UInt8)) = true := beq_iff_eq.mpr c19
         have c19b1 : (a0_0.toList != ([108, 105, 110, 101, 97, 114] : List UInt8)) = false := bne_eq_false_iff_eq.mpr c19
         clear c19
         (first | rw [c19b0] | (simp only [xB0, xB1]; rw [c19b0]) | skip)
         by_cases c20 : (l0_4.length : Int) = 3
         ·rw [if_pos c20] at H
          have c20b0 : ((l0_4.length : Int) == 3) = true := beq_iff_eq.mpr c20
          have c20b1 : ((l0_4.length : Int) != 3) = false := bne_eq_false_iff_eq.mpr c20
          clear c20
          by_cases c21 : 1 < (l0_4.length : Int)
          ·rw [if_pos c21] at H
           have c21b0 : decide (1 < (l0_4.length : Int)) = true := decide_eq_true c21
           have c21b1 : decide (1 < l0_4.length) = true := decide_eq_true (by omega)
           clear c21
           replace H := Option.bind_eq_some_iff.mp H
           obtain ⟨t554, A220, H⟩ := H
           replace H : (if t554 = true then (if 2 < (l0_4.length : Int) then ((xAf.f kj9 ((xA2 l0_4 2).f0) ((xA2 l0_4 2).f1) ((xA2 l0_4 2).f2) ((xA2 l0_4 2).f3) ((xA2 l0_4 2).f4) (⟨#[110, 117, 109]⟩ : ByteArray)).bind fun t556 => (if t556 = true then (xA3.j3 kj9 a1 1 a0_0 a0_1 a0_2 a0_3 l0_4) else (some false))) else (none)) else (some false)) = some r := H
           have A22 := Aside0.mk A220
           clear A220
           by_cases c23 : t554 = true
           ·subst c23
            have H1 : (if 2 < (l0_4.length : Int) then ((xAf.f kj9 ((xA2 l0_4 2).f0) ((xA2 l0_4 2).f1) ((xA2 l0_4 2).f2) ((xA2 l0_4 2).f3) ((xA2 l0_4 2).f4) (⟨#[110, 117, 109]⟩ : ByteArray)).bind fun t556 => (if t556 = true then (xA3.j3 kj9 a1 1 a0_0 a0_1 a0_2 a0_3 l0_4) else (some false))) else (none)) = some r := by rw [if_pos rfl] at H; exact H
            clear H
            have H := H1
            clear H1
            by_cases c24 : 2 < (l0_4.length : Int)
            ·rw [if_pos c24] at H
             have c24b0 : decide (2 < (l0_4.length : Int)) = true := decide_eq_true c24
             have c24b1 : decide (2 < l0_4.length) = true := decide_eq_true (by omega)
             clear c24
             replace H := Option.bind_eq_some_iff.mp H
             obtain ⟨t556, A250, H⟩ := H
             replace H : (if t556 = true then (xA3.j3 kj9 a1 1 a0_0 a0_1 a0_2 a0_3 l0_4) else (some false)) = some r := H
             have A25 := Aside0.mk A250
             clear A250
             by_cases c26 : t556 = true
             ·subst c26
              have H1 : (xA3.j3 kj9 a1 1 a0_0 a0_1 a0_2 a0_3 l0_4) = some r := by rw [if_pos rfl] at H; exact H
              clear H
              have H := H1
              clear H1
              have H' := Aside0.mk H
              clear H
              obtain ⟨hcz27_0, hcz27_1, hcz27_2, hcz27_3, hcz27_4, hfz27_0, hfz27_1, hfz27_2, hfz27_3, hfz27_4⟩ := ex5 BK551.out
              have p553 : 0 ≤ (1 : Int) := (by omega)
              have q553 : 1 < (l0_4.length : Int) := of_decide_eq_true (by first | (with_reducible assumption) | assumption)
              obtain ⟨ad553, A553_4, c553_4, e553, hx553_0, hx553_1, hx553_2, hx553_3, hx553_4, hl553_4, hi553_4⟩ := xC3 HR0_4.out 1 p553 q553
              cases e553
              (try simp only [show (1 : Int).toNat = 1 from rfl, Nat.reduceMul, Nat.reduceEqDiff, Go.Addr.add, ↓reduceIte] at hx553_0 hx553_1 hx553_2 hx553_3 hx553_4)
              have qi553 : (1 < l0_4.length) = True := eq_true (by omega)
              (try rw [show ((1 : Int)).toNat = 1 from rfl] at hx553_0)
              (try rw [show 1 * 5 = 5 from rfl] at hx553_0)
              (try rw [show ((1 : Int)).toNat = 1 from rfl] at hx553_1)
              (try rw [show 1 * 5 = 5 from rfl] at hx553_1)
              (try rw [show ((1 : Int)).toNat = 1 from rfl] at hx553_2)
              (try rw [show 1 * 5 = 5 from rfl] at hx553_2)
              (try rw [show ((1 : Int)).toNat = 1 from rfl] at hx553_3)
              (try rw [show 1 * 5 = 5 from rfl] at hx553_3)
              (try rw [show ((1 : Int)).toNat = 1 from rfl] at hx553_4)
              (try rw [show 1 * 5 = 5 from rfl] at hx553_4)
              replace hx553_0 := (HB.out.cell (World.block_lt_of_cell? w _ hx553_0)).trans hx553_0
              replace hx553_1 := (HB.out.cell (World.block_lt_of_cell? w _ hx553_1)).trans hx553_1
              replace hx553_2 := (HB.out.cell (World.block_lt_of_cell? w _ hx553_2)).trans hx553_2
              replace hx553_3 := (HB.out.cell (World.block_lt_of_cell? w _ hx553_3)).trans hx553_3
              replace hx553_4 := (HB.out.cell (World.block_lt_of_cell? w _ hx553_4)).trans hx553_4
              have HR553_4 := Aside0.mk hi553_4
              have HC553_4 := Aside0.mk hl553_4
              clear hi553_4 hl553_4
              replace p553 := eq_true p553
              replace q553 := eq_true q553
              go_wp2_with (first | (go_at_call 56; (with_reducible refine (xAf.calls kj9 ((xA2 l0_4 1).f0) ((xA2 l0_4 1).f1) ((xA2 l0_4 1).f2) ((xA2 l0_4 1).f3) _ _ ((xA2 l0_4 1).f4) (⟨#[110, 117, 109]⟩ : ByteArray) true _ ?side1 ?side2 A22.out).mono ?_); (case side1 => repeat (first | exact (Kd.C_below HR553_4.out HB.out) | (with_reducible refine Kd.C_alloc ?_ _) | (with_reducible refine Kd.C_drewN ?_ _) | (with_reducible refine Kd.C_drew ?_))); (case side2 => exact HC553_4.out); rintro e w28 ⟨rfl, hb⟩; have n0_ := Aside0.mk (xAt (g := gb551) (o := .cells #[.string a0_0, .string a0_1, .int .i64 a0_2, .int .i64 a0_3, .slice (some ad553) l0_4.length c0_4] 25 (0, 0)) (by (with_reducible repeat (first | refine xA5 ?_ _ | refine xA8 ?_ | refine xA4 ?_ _)); exact BK551.out) hb); have n1_ := Aside0.mk (xAi (by repeat (first | (with_reducible first | exact HB.out | apply xA1 | apply xA0 | apply below_drew1 | refine xA6 ?_ GE551.out) | exact HB.out)) hb); clear BK551; clear HB; have BK551 := n0_; have HB := n1_; clear n0_ n1_; (try clear hb); (try clear hb2); (try clear hk); (try clear hi); obtain ⟨hcz29_0, hcz29_1, hcz29_2, hcz29_3, hcz29_4, hfz29_0, hfz29_1, hfz29_2, hfz29_3, hfz29_4⟩ := ex5 BK551.out; have p555 : 0 ≤ (2 : Int) := (by omega); have q555 : 2 < (l0_4.length : Int) := of_decide_eq_true (by first | (with_reducible assumption) | assumption); obtain ⟨ad555, A555_4, c555_4, e555, hx555_0, hx555_1, hx555_2, hx555_3, hx555_4, hl555_4, hi555_4⟩ := xC3 HR0_4.out 2 p555 q555; obtain rfl : ad553 = ad555 := (by injection e555); (try simp only [show (2 : Int).toNat = 2 from rfl, Nat.reduceMul, Nat.reduceEqDiff, Go.Addr.add, ↓reduceIte] at hx555_0 hx555_1 hx555_2 hx555_3 hx555_4); have qi555 : (2 < l0_4.length) = True := eq_true (by omega); (try rw [show ((2 : Int)).toNat = 2 from rfl] at hx555_0); (try rw [show 2 * 5 = 10 from rfl] at hx555_0); (try rw [show ((2 : Int)).toNat = 2 from rfl] at hx555_1); (try rw [show 2 * 5 = 10 from rfl] at hx555_1); (try rw [show ((2 : Int)).toNat = 2 from rfl] at hx555_2); (try rw [show 2 * 5 = 10 from rfl] at hx555_2); (try rw [show ((2 : Int)).toNat = 2 from rfl] at hx555_3); (try rw [show 2 * 5 = 10 from rfl] at hx555_3); (try rw [show ((2 : Int)).toNat = 2 from rfl] at hx555_4); (try rw [show 2 * 5 = 10 from rfl] at hx555_4); replace hx555_0 := (HB.out.cell (World.block_lt_of_cell? w _ hx555_0)).trans hx555_0; replace hx555_1 := (HB.out.cell (World.block_lt_of_cell? w _ hx555_1)).trans hx555_1; replace hx555_2 := (HB.out.cell (World.block_lt_of_cell? w _ hx555_2)).trans hx555_2; replace hx555_3 := (HB.out.cell (World.block_lt_of_cell? w _ hx555_3)).trans hx555_3; replace hx555_4 := (HB.out.cell (World.block_lt_of_cell? w _ hx555_4)).trans hx555_4; have HR555_4 := Aside0.mk hi555_4; have HC555_4 := Aside0.mk hl555_4; clear hi555_4 hl555_4; replace p555 := eq_true p555; replace q555 := eq_true q555) | (go_at_call 56; (with_reducible refine (xAf.calls kj9 ((xA2 l0_4 2).f0) ((xA2 l0_4 2).f1) ((xA2 l0_4 2).f2) ((xA2 l0_4 2).f3) _ _ ((xA2 l0_4 2).f4) (⟨#[110, 117, 109]⟩ : ByteArray) true _ ?side1 ?side2 A25.out).mono ?_); (case side1 => repeat (first | exact (Kd.C_below HR555_4.out HB.out) | (with_reducible refine Kd.C_alloc ?_ _) | (with_reducible refine Kd.C_drewN ?_ _) | (with_reducible refine Kd.C_drew ?_))); (case side2 => exact HC555_4.out); rintro e w30 ⟨rfl, hb⟩; have n0_ := Aside0.mk (xAt (g := gb551) (o := .cells #[.string a0_0, .string a0_1, .int .i64 a0_2, .int .i64 a0_3, .slice (some ad553) l0_4.length c0_4] 25 (0, 0)) (by (with_reducible repeat (first | refine xA5 ?_ _ | refine xA8 ?_ | refine xA4 ?_ _)); exact BK551.out) hb); have n1_ := Aside0.mk (xAi (by repeat (first | (with_reducible first | exact HB.out | apply xA1 | apply xA0 | apply below_drew1 | refine xA6 ?_ GE551.out) | exact HB.out)) hb); clear BK551; clear HB; have BK551 := n0_; have HB := n1_; clear n0_ n1_; (try clear hb); (try clear hb2); (try clear hk); (try clear hi)))
              go_meet
              case rel => exact ⟨_, (1), (by first | rfl | (simp; done) | (simp [*]; done)), H', ⟨by have := HJ3.out; have := HJ9.out; first | omega | exact Nat.le_refl _⟩, ⟨by (with_reducible repeat (first | refine xA5 ?_ _ | refine xA8 ?_ | refine xA4 ?_ _)); exact BK551.out⟩, ⟨by repeat (first | (with_reducible first | exact HB.out | apply xA1 | apply xA0 | apply below_drew1 | refine xA6 ?_ GE551.out) | exact HB.out)⟩⟩
             ·replace c26 := Bool.eq_false_iff.mpr c26
              subst c26
              have H1 : (some false) = some r := by rw [if_neg (show ¬ (false = true) by decide)] at H; exact H
              clear H
              have H := H1
              clear H1
              obtain rfl := Option.some.inj H
              obtain ⟨hcz31_0, hcz31_1, hcz31_2, hcz31_3, hcz31_4, hfz31_0, hfz31_1, hfz31_2, hfz31_3, hfz31_4⟩ := ex5 BK551.out
              have p553 : 0 ≤ (1 : Int) := (by omega)
              have q553 : 1 < (l0_4.length : Int) := of_decide_eq_true (by first | (with_reducible assumption) | assumption)
              obtain ⟨ad553, A553_4, c553_4, e553, hx553_0, hx553_1, hx553_2, hx553_3, hx553_4, hl553_4, hi553_4⟩ := xC3 HR0_4.out 1 p553 q553
              cases e553
              (try simp only [show (1 : Int).toNat = 1 from rfl, Nat.reduceMul, Nat.reduceEqDiff, Go.Addr.add, ↓reduceIte] at hx553_0 hx553_1 hx553_2 hx553_3 hx553_4)
              have qi553 : (1 < l0_4.length) = True := eq_true (by omega)
              (try rw [show ((1 : Int)).toNat = 1 from rfl] at hx553_0)
              (try rw [show 1 * 5 = 5 from rfl] at hx553_0)
              (try rw [show ((1 : Int)).toNat = 1 from rfl] at hx553_1)
              (try rw [show 1 * 5 = 5 from rfl] at hx553_1)
              (try rw [show ((1 : Int)).toNat = 1 from rfl] at hx553_2)
              (try rw [show 1 * 5 = 5 from rfl] at hx553_2)
              (try rw [show ((1 : Int)).toNat = 1 from rfl] at hx553_3)
              (try rw [show 1 * 5 = 5 from rfl] at hx553_3)
              (try rw [show ((1 : Int)).toNat = 1 from rfl] at hx553_4)
              (try rw [show 1 * 5 = 5 from rfl] at hx553_4)
              replace hx553_0 := (HB.out.cell (World.block_lt_of_cell? w _ hx553_0)).trans hx553_0
              replace hx553_1 := (HB.out.cell (World.block_lt_of_cell? w _ hx553_1)).trans hx553_1
              replace hx553_2 := (HB.out.cell (World.block_lt_of_cell? w _ hx553_2)).trans hx553_2
              replace hx553_3 := (HB.out.cell (World.block_lt_of_cell? w _ hx553_3)).trans hx553_3
              replace hx553_4 := (HB.out.cell (World.block_lt_of_cell? w _ hx553_4)).trans hx553_4
              have HR553_4 := Aside0.mk hi553_4
              have HC553_4 := Aside0.mk hl553_4
              clear hi553_4 hl553_4
              replace p553 := eq_true p553
              replace q553 := eq_true q553
              go_wp2_with (first | (go_at_call 56; (with_reducible refine (xAf.calls kj9 ((xA2 l0_4 1).f0) ((xA2 l0_4 1).f1) ((xA2 l0_4 1).f2) ((xA2 l0_4 1).f3) _ _ ((xA2 l0_4 1).f4) (⟨#[110, 117, 109]⟩ : ByteArray) true _ ?side1 ?side2 A22.out).mono ?_); (case side1 => repeat (first | exact (Kd.C_below HR553_4.out HB.out) | (with_reducible refine Kd.C_alloc ?_ _) | (with_reducible refine Kd.C_drewN ?_ _) | (with_reducible refine Kd.C_drew ?_))); (case side2 => exact HC553_4.out); rintro e w32 ⟨rfl, hb⟩; have n0_ := Aside0.mk (xAt (g := gb551) (o := .cells #[.string a0_0, .string a0_1, .int .i64 a0_2, .int .i64 a0_3, .slice (some ad553) l0_4.length c0_4] 25 (0, 0)) (by (with_reducible repeat (first | refine xA5 ?_ _ | refine xA8 ?_ | refine xA4 ?_ _)); exact BK551.out) hb); have n1_ := Aside0.mk (xAi (by repeat (first | (with_reducible first | exact HB.out | apply xA1 | apply xA0 | apply below_drew1 | refine xA6 ?_ GE551.out) | exact HB.out)) hb); clear BK551; clear HB; have BK551 := n0_; have HB := n1_; clear n0_ n1_; (try clear hb); (try clear hb2); (try clear hk); (try clear hi); obtain ⟨hcz33_0, hcz33_1, hcz33_2, hcz33_3, hcz33_4, hfz33_0, hfz33_1, hfz33_2, hfz33_3, hfz33_4⟩ := ex5 BK551.out; have p555 : 0 ≤ (2 : Int) := (by omega); have q555 : 2 < (l0_4.length : Int) := of_decide_eq_true (by first | (with_reducible assumption) | assumption); obtain ⟨ad555, A555_4, c555_4, e555, hx555_0, hx555_1, hx555_2, hx555_3, hx555_4, hl555_4, hi555_4⟩ := xC3 HR0_4.out 2 p555 q555; obtain rfl : ad553 = ad555 := (by injection e555); (try simp only [show (2 : Int).toNat = 2 from rfl, Nat.reduceMul, Nat.reduceEqDiff, Go.Addr.add, ↓reduceIte] at hx555_0 hx555_1 hx555_2 hx555_3 hx555_4); have qi555 : (2 < l0_4.length) = True := eq_true (by omega); (try rw [show ((2 : Int)).toNat = 2 from rfl] at hx555_0); (try rw [show 2 * 5 = 10 from rfl] at hx555_0); (try rw [show ((2 : Int)).toNat = 2 from rfl] at hx555_1); (try rw [show 2 * 5 = 10 from rfl] at hx555_1); (try rw [show ((2 : Int)).toNat = 2 from rfl] at hx555_2); (try rw [show 2 * 5 = 10 from rfl] at hx555_2); (try rw [show ((2 : Int)).toNat = 2 from rfl] at hx555_3); (try rw [show 2 * 5 = 10 from rfl] at hx555_3); (try rw [show ((2 : Int)).toNat = 2 from rfl] at hx555_4); (try rw [show 2 * 5 = 10 from rfl] at hx555_4); replace hx555_0 := (HB.out.cell (World.block_lt_of_cell? w _ hx555_0)).trans hx555_0; replace hx555_1 := (HB.out.cell (World.block_lt_of_cell? w _ hx555_1)).trans hx555_1; replace hx555_2 := (HB.out.cell (World.block_lt_of_cell? w _ hx555_2)).trans hx555_2; replace hx555_3 := (HB.out.cell (World.block_lt_of_cell? w _ hx555_3)).trans hx555_3; replace hx555_4 := (HB.out.cell (World.block_lt_of_cell? w _ hx555_4)).trans hx555_4; have HR555_4 := Aside0.mk hi555_4; have HC555_4 := Aside0.mk hl555_4; clear hi555_4 hl555_4; replace p555 := eq_true p555; replace q555 := eq_true q555) | (go_at_call 56; (with_reducible refine (xAf.calls kj9 ((xA2 l0_4 2).f0) ((xA2 l0_4 2).f1) ((xA2 l0_4 2).f2) ((xA2 l0_4 2).f3) _ _ ((xA2 l0_4 2).f4) (⟨#[110, 117, 109]⟩ : ByteArray) false _ ?side1 ?side2 A25.out).mono ?_); (case side1 => repeat (first | exact (Kd.C_below HR555_4.out HB.out) | (with_reducible refine Kd.C_alloc ?_ _) | (with_reducible refine Kd.C_drewN ?_ _) | (with_reducible refine Kd.C_drew ?_))); (case side2 => exact HC555_4.out); rintro e w34 ⟨rfl, hb⟩; have n0_ := Aside0.mk (xAt (g := gb551) (o := .cells #[.string a0_0, .string a0_1, .int .i64 a0_2, .int .i64 a0_3, .slice (some ad553) l0_4.length c0_4] 25 (0, 0)) (by (with_reducible repeat (first | refine xA5 ?_ _ | refine xA8 ?_ | refine xA4 ?_ _)); exact BK551.out) hb); have n1_ := Aside0.mk (xAi (by repeat (first | (with_reducible first | exact HB.out | apply xA1 | apply xA0 | apply below_drew1 | refine xA6 ?_ GE551.out) | exact HB.out)) hb); clear BK551; clear HB; have BK551 := n0_; have HB := n1_; clear n0_ n1_; (try clear hb); (try clear hb2); (try clear hk); (try clear hi)))
              go_ret
              exact ⟨by first | rfl | (simp <;> rfl) | (simp [*] <;> rfl), by repeat (first | (with_reducible first | exact HB.out | apply xA1 | apply xA0 | apply below_drew1 | refine xA6 ?_ GE551.out) | exact HB.out)⟩
            ·rw [if_neg c24] at H
             exact absurd H (by simp)
           ·replace c23 := Bool.eq_false_iff.mpr c23
            subst c23
            have H1 : (some false) = some r := by rw [if_neg (show ¬ (false = true) by decide)] at H; exact H
            clear H
            have H := H1
            clear H1
            obtain rfl := Option.some.inj H
            obtain ⟨hcz35_0, hcz35_1, hcz35_2, hcz35_3, hcz35_4, hfz35_0, hfz35_1, hfz35_2, hfz35_3, hfz35_4⟩ := ex5 BK551.out
            have p553 : 0 ≤ (1 : Int) := (by omega)
            have q553 : 1 < (l0_4.length : Int) := of_decide_eq_true (by first | (with_reducible assumption) | assumption)
            obtain ⟨ad553, A553_4, c553_4, e553, hx553_0, hx553_1, hx553_2, hx553_3, hx553_4, hl553_4, hi553_4⟩ := xC3 HR0_4.out 1 p553 q553
            cases e553
            (try simp only [show (1 : Int).toNat = 1 from rfl, Nat.reduceMul, Nat.reduceEqDiff, Go.Addr.add, ↓reduceIte] at hx553_0 hx553_1 hx553_2 hx553_3 hx553_4)
            have qi553 : (1 < l0_4.length) = True := eq_true (by omega)
            (try rw [show ((1 : Int)).toNat = 1 from rfl] at hx553_0)
            (try rw [show 1 * 5 = 5 from rfl] at hx553_0)
            (try rw [show ((1 : Int)).toNat = 1 from rfl] at hx553_1)
            (try rw [show 1 * 5 = 5 from rfl] at hx553_1)
            (try rw [show ((1 : Int)).toNat = 1 from rfl] at hx553_2)
            (try rw [show 1 * 5 = 5 from rfl] at hx553_2)
            (try rw [show ((1 : Int)).toNat = 1 from rfl] at hx553_3)
            (try rw [show 1 * 5 = 5 from rfl] at hx553_3)
            (try rw [show ((1 : Int)).toNat = 1 from rfl] at hx553_4)
            (try rw [show 1 * 5 = 5 from rfl] at hx553_4)
            replace hx553_0 := (HB.out.cell (World.block_lt_of_cell? w _ hx553_0)).trans hx553_0
            replace hx553_1 := (HB.out.cell (World.block_lt_of_cell? w _ hx553_1)).trans hx553_1
            replace hx553_2 := (HB.out.cell (World.block_lt_of_cell? w _ hx553_2)).trans hx553_2
            replace hx553_3 := (HB.out.cell (World.block_lt_of_cell? w _ hx553_3)).trans hx553_3
            replace hx553_4 := (HB.out.cell (World.block_lt_of_cell? w _ hx553_4)).trans hx553_4
            have HR553_4 := Aside0.mk hi553_4
            have HC553_4 := Aside0.mk hl553_4
            clear hi553_4 hl553_4
            replace p553 := eq_true p553
            replace q553 := eq_true q553
            go_wp2_with (first | (go_at_call 56; (with_reducible refine (xAf.calls kj9 ((xA2 l0_4 1).f0) ((xA2 l0_4 1).f1) ((xA2 l0_4 1).f2) ((xA2 l0_4 1).f3) _ _ ((xA2 l0_4 1).f4) (⟨#[110, 117, 109]⟩ : ByteArray) false _ ?side1 ?side2 A22.out).mono ?_); (case side1 => repeat (first | exact (Kd.C_below HR553_4.out HB.out) | (with_reducible refine Kd.C_alloc ?_ _) | (with_reducible refine Kd.C_drewN ?_ _) | (with_reducible refine Kd.C_drew ?_))); (case side2 => exact HC553_4.out); rintro e w36 ⟨rfl, hb⟩; have n0_ := Aside0.mk (xAt (g := gb551) (o := .cells #[.string a0_0, .string a0_1, .int .i64 a0_2, .int .i64 a0_3, .slice (some ad553) l0_4.length c0_4] 25 (0, 0)) (by (with_reducible repeat (first | refine xA5 ?_ _ | refine xA8 ?_ | refine xA4 ?_ _)); exact BK551.out) hb); have n1_ := Aside0.mk (xAi (by repeat (first | (with_reducible first | exact HB.out | apply xA1 | apply xA0 | apply below_drew1 | refine xA6 ?_ GE551.out) | exact HB.out)) hb); clear BK551; clear HB; have BK551 := n0_; have HB := n1_; clear n0_ n1_; (try clear hb); (try clear hb2); (try clear hk); (try clear hi)))
            go_ret
            exact ⟨by first | rfl | (simp <;> rfl) | (simp [*] <;> rfl), by repeat (first | (with_reducible first | exact HB.out | apply xA1 | apply xA0 | apply below_drew1 | refine xA6 ?_ GE551.out) | exact HB.out)⟩
          ·rw [if_neg c21] at H
           exact absurd H (by simp)
         ·rw [if_neg c20] at H
          have c20b0 : ((l0_4.length : Int) == 3) = false := beq_eq_false_iff_ne.mpr c20
          have c20b1 : ((l0_4.length : Int) != 3) = true := bne_iff_ne.mpr c20
          obtain rfl := Option.some.inj H
          obtain ⟨hcz37_0, hcz37_1, hcz37_2, hcz37_3, hcz37_4, hfz37_0, hfz37_1, hfz37_2, hfz37_3, hfz37_4⟩ := ex5 BK551.out
          go_wp2
          go_ret
          exact ⟨by first | rfl | (simp <;> rfl) | (simp [*] <;> rfl), by repeat (first | (with_reducible first | exact HB.out | apply xA1 | apply xA0 | apply below_drew1 | refine xA6 ?_ GE551.out) | exact HB.out)⟩
        ·rw [if_neg c19] at H
         have c19b0 : (a0_0.toList == ([108, 105, 110, 101, 97, 114] : List UInt8)) = false := beq_eq_false_iff_ne.mpr c19
         have c19b1 : (a0_0.toList != ([108, 105, 110, 101, 97, 114] : List UInt8)) = true := bne_iff_ne.mpr c19
         (first | rw [c19b0] | (simp only [xB0, xB1]; rw [c19b0]) | skip)
         by_cases c38 : a0_0.toList = ([115, 110, 97, 112, 115, 104, 111, 116] : List UInt8)
         ·rw [if_pos c38] at H
          have c38b0 : (a0_0.toList == ([115, 110, 97, 112, 115, 104, 111, 116] : List UInt8)) = true := beq_iff_eq.mpr c38
          have c38b1 : (a0_0.toList != ([115, 110, 97, 112, 115, 104, 111, 116] : List UInt8)) = false := bne_eq_false_iff_eq.mpr c38
          clear c38
          by_cases c39 : (l0_4.length : Int) = 3
          ·rw [if_pos c39] at H
           have c39b0 : ((l0_4.length : Int) == 3) = true := beq_iff_eq.mpr c39
           have c39b1 : ((l0_4.length : Int) != 3) = false := bne_eq_false_iff_eq.mpr c39
           clear c39
           by_cases c40 : 2 < (l0_4.length : Int)
           ·rw [if_pos c40] at H
            have c40b0 : decide (2 < (l0_4.length : Int)) = true := decide_eq_true c40
            have c40b1 : decide (2 < l0_4.length) = true := decide_eq_true (by omega)
            clear c40
            replace H := Option.bind_eq_some_iff.mp H
            obtain ⟨t558, A410, H⟩ := H
            replace H : (if t558 = true then (xA3.j3 kj9 a1 2 a0_0 a0_1 a0_2 a0_3 l0_4) else (some false)) = some r := H
            have A41 := Aside0.mk A410
            clear A410
            by_cases c42 : t558 = true
            ·subst c42
             have H1 : (xA3.j3 kj9 a1 2 a0_0 a0_1 a0_2 a0_3 l0_4) = some r := by rw [if_pos rfl] at H; exact H
             clear H
             have H := H1
             clear H1
             have H' := Aside0.mk H
             clear H
             obtain ⟨hcz43_0, hcz43_1, hcz43_2, hcz43_3, hcz43_4, hfz43_0, hfz43_1, hfz43_2, hfz43_3, hfz43_4⟩ := ex5 BK551.out
             have p557 : 0 ≤ (2 : Int) := (by omega)
             have q557 : 2 < (l0_4.length : Int) := of_decide_eq_true (by first | (with_reducible assumption) | assumption)
             obtain ⟨ad557, A557_4, c557_4, e557, hx557_0, hx557_1, hx557_2, hx557_3, hx557_4, hl557_4, hi557_4⟩ := xC3 HR0_4.out 2 p557 q557
             cases e557
             (try simp only [show (2 : Int).toNat = 2 from rfl, Nat.reduceMul, Nat.reduceEqDiff, Go.Addr.add, ↓reduceIte] at hx557_0 hx557_1 hx557_2 hx557_3 hx557_4)
             have qi557 : (2 < l0_4.length) = True := eq_true (by omega)
             (try rw [show ((2 : Int)).toNat = 2 from rfl] at hx557_0)
             (try rw [show 2 * 5 = 10 from rfl] at hx557_0)
             (try rw [show ((2 : Int)).toNat = 2 from rfl] at hx557_1)
             (try rw [show 2 * 5 = 10 from rfl] at hx557_1)
             (try rw [show ((2 : Int)).toNat = 2 from rfl] at hx557_2)
             (try rw [show 2 * 5 = 10 from rfl] at hx557_2)
             (try rw [show ((2 : Int)).toNat = 2 from rfl] at hx557_3)
             (try rw [show 2 * 5 = 10 from rfl] at hx557_3)
             (try rw [show ((2 : Int)).toNat = 2 from rfl] at hx557_4)
             (try rw [show 2 * 5 = 10 from rfl] at hx557_4)
             replace hx557_0 := (HB.out.cell (World.block_lt_of_cell? w _ hx557_0)).trans hx557_0
             replace hx557_1 := (HB.out.cell (World.block_lt_of_cell? w _ hx557_1)).trans hx557_1
             replace hx557_2 := (HB.out.cell (World.block_lt_of_cell? w _ hx557_2)).trans hx557_2
             replace hx557_3 := (HB.out.cell (World.block_lt_of_cell? w _ hx557_3)).trans hx557_3
             replace hx557_4 := (HB.out.cell (World.block_lt_of_cell? w _ hx557_4)).trans hx557_4
             have HR557_4 := Aside0.mk hi557_4
             have HC557_4 := Aside0.mk hl557_4
             clear hi557_4 hl557_4
             replace p557 := eq_true p557
             replace q557 := eq_true q557
             go_wp2_with (first | (go_at_call 56; (with_reducible refine (xAf.calls kj9 ((xA2 l0_4 2).f0) ((xA2 l0_4 2).f1) ((xA2 l0_4 2).f2) ((xA2 l0_4 2).f3) _ _ ((xA2 l0_4 2).f4) (⟨#[110, 117, 109]⟩ : ByteArray) true _ ?side1 ?side2 A41.out).mono ?_); (case side1 => repeat (first | exact (Kd.C_below HR557_4.out HB.out) | (with_reducible refine Kd.C_alloc ?_ _) | (with_reducible refine Kd.C_drewN ?_ _) | (with_reducible refine Kd.C_drew ?_))); (case side2 => exact HC557_4.out); rintro e w44 ⟨rfl, hb⟩; have n0_ := Aside0.mk (xAt (g := gb551) (o := .cells #[.string a0_0, .string a0_1, .int .i64 a0_2, .int .i64 a0_3, .slice (some ad557) l0_4.length c0_4] 25 (0, 0)) (by (with_reducible repeat (first | refine xA5 ?_ _ | refine xA8 ?_ | refine xA4 ?_ _)); exact BK551.out) hb); have n1_ := Aside0.mk (xAi (by repeat (first | (with_reducible first | exact HB.out | apply xA1 | apply xA0 | apply below_drew1 | refine xA6 ?_ GE551.out) | exact HB.out)) hb); clear BK551; clear HB; have BK551 := n0_; have HB := n1_; clear n0_ n1_; (try clear hb); (try clear hb2); (try clear hk); (try clear hi)))
             go_meet
             case rel => exact ⟨_, (2), (by first | rfl | (simp; done) | (simp [*]; done)), H', ⟨by have := HJ3.out; have := HJ9.out; first | omega | exact Nat.le_refl _⟩, ⟨by (with_reducible repeat (first | refine xA5 ?_ _ | refine xA8 ?_ | refine xA4 ?_ _)); exact BK551.out⟩, ⟨by repeat (first | (with_reducible first | exact HB.out | apply xA1 | apply xA0 | apply below_drew1 | refine xA6 ?_ GE551.out) | exact HB.out)⟩⟩
            ·replace c42 := Bool.eq_false_iff.mpr c42
             subst c42
             have H1 : (some false) = some r := by rw [if_neg (show ¬ (false = true) by decide)] at H; exact H
             clear H
             have H := H1
             clear H1
             obtain rfl := Option.some.inj H
             obtain ⟨hcz45_0, hcz45_1, hcz45_2, hcz45_3, hcz45_4, hfz45_0, hfz45_1, hfz45_2, hfz45_3, hfz45_4⟩ := ex5 BK551.out
             have p557 : 0 ≤ (2 : Int) := (by omega)
             have q557 : 2 < (l0_4.length : Int) := of_decide_eq_true (by first | (with_reducible assumption) | assumption)
             obtain ⟨ad557, A557_4, c557_4, e557, hx557_0, hx557_1, hx557_2, hx557_3, hx557_4, hl557_4, hi557_4⟩ := xC3 HR0_4.out 2 p557 q557
             cases e557
             (try simp only [show (2 : Int).toNat = 2 from rfl, Nat.reduceMul, Nat.reduceEqDiff, Go.Addr.add, ↓reduceIte] at hx557_0 hx557_1 hx557_2 hx557_3 hx557_4)
             have qi557 : (2 < l0_4.length) = True := eq_true (by omega)
             (try rw [show ((2 : Int)).toNat = 2 from rfl] at hx557_0)
             (try rw [show 2 * 5 = 10 from rfl] at hx557_0)
             (try rw [show ((2 : Int)).toNat = 2 from rfl] at hx557_1)
             (try rw [show 2 * 5 = 10 from rfl] at hx557_1)
             (try rw [show ((2 : Int)).toNat = 2 from rfl] at hx557_2)
             (try rw [show 2 * 5 = 10 from rfl] at hx557_2)
             (try rw [show ((2 : Int)).toNat = 2 from rfl] at hx557_3)
             (try rw [show 2 * 5 = 10 from rfl] at hx557_3)
             (try rw [show ((2 : Int)).toNat = 2 from rfl] at hx557_4)
             (try rw [show 2 * 5 = 10 from rfl] at hx557_4)
             replace hx557_0 := (HB.out.cell (World.block_lt_of_cell? w _ hx557_0)).trans hx557_0
             replace hx557_1 := (HB.out.cell (World.block_lt_of_cell? w _ hx557_1)).trans hx557_1
             replace hx557_2 := (HB.out.cell (World.block_lt_of_cell? w _ hx557_2)).trans hx557_2
             replace hx557_3 := (HB.out.cell (World.block_lt_of_cell? w _ hx557_3)).trans hx557_3
             replace hx557_4 := (HB.out.cell (World.block_lt_of_cell? w _ hx557_4)).trans hx557_4
             have HR557_4 := Aside0.mk hi557_4
             have HC557_4 := Aside0.mk hl557_4
             clear hi557_4 hl557_4
             replace p557 := eq_true p557
             replace q557 := eq_true q557
             go_wp2_with (first | (go_at_call 56; (with_reducible refine (xAf.calls kj9 ((xA2 l0_4 2).f0) ((xA2 l0_4 2).f1) ((xA2 l0_4 2).f2) ((xA2 l0_4 2).f3) _ _ ((xA2 l0_4 2).f4) (⟨#[110, 117, 109]⟩ : ByteArray) false _ ?side1 ?side2 A41.out).mono ?_); (case side1 => repeat (first | exact (Kd.C_below HR557_4.out HB.out) | (with_reducible refine Kd.C_alloc ?_ _) | (with_reducible refine Kd.C_drewN ?_ _) | (with_reducible refine Kd.C_drew ?_))); (case side2 => exact HC557_4.out); rintro e w46 ⟨rfl, hb⟩; have n0_ := Aside0.mk (xAt (g := gb551) (o := .cells #[.string a0_0, .string a0_1, .int .i64 a0_2, .int .i64 a0_3, .slice (some ad557) l0_4.length c0_4] 25 (0, 0)) (by (with_reducible repeat (first | refine xA5 ?_ _ | refine xA8 ?_ | refine xA4 ?_ _)); exact BK551.out) hb); have n1_ := Aside0.mk (xAi (by repeat (first | (with_reducible first | exact HB.out | apply xA1 | apply xA0 | apply below_drew1 | refine xA6 ?_ GE551.out) | exact HB.out)) hb); clear BK551; clear HB; have BK551 := n0_; have HB := n1_; clear n0_ n1_; (try clear hb); (try clear hb2); (try clear hk); (try clear hi)))
             go_ret
             exact ⟨by first | rfl | (simp <;> rfl) | (simp [*] <;> rfl), by repeat (first | (with_reducible first | exact HB.out | apply xA1 | apply xA0 | apply below_drew1 | refine xA6 ?_ GE551.out) | exact HB.out)⟩
           ·rw [if_neg c40] at H
            exact absurd H (by simp)
          ·rw [if_neg c39] at H
           have c39b0 : ((l0_4.length : Int) == 3) = false := beq_eq_false_iff_ne.mpr c39
           have c39b1 : ((l0_4.length : Int) != 3) = true := bne_iff_ne.mpr c39
           obtain rfl := Option.some.inj H
           obtain ⟨hcz47_0, hcz47_1, hcz47_2, hcz47_3, hcz47_4, hfz47_0, hfz47_1, hfz47_2, hfz47_3, hfz47_4⟩ := ex5 BK551.out
           go_wp2
           go_ret
           exact ⟨by first | rfl | (simp <;> rfl) | (simp [*] <;> rfl), by repeat (first | (with_reducible first | exact HB.out | apply xA1 | apply xA0 | apply below_drew1 | refine xA6 ?_ GE551.out) | exact HB.out)⟩
         ·rw [if_neg c38] at H
          have c38b0 : (a0_0.toList == ([115, 110, 97, 112, 115, 104, 111, 116] : List UInt8)) = false := beq_eq_false_iff_ne.mpr c38
          have c38b1 : (a0_0.toList != ([115, 110, 97, 112, 115, 104, 111, 116] : List UInt8)) = true := bne_iff_ne.mpr c38
          have HC48 := Aside0.mk H
          clear H
          go_upto_if 72 with (fail)
          go_cut [72] (fun v72 wc => ∃ (kq : Nat) (x72_47 : Bool), v72 = .bool x72_47 ∧ Aside0 (xA3.j2 kq a1 1 a0_0 x72_47 a0_0 a0_1 a0_2 a0_3 l0_4 = some r) ∧ Aside0 (kq ≤ kj9) ∧ Aside0 (wc.heap[gb551]? = some (.cells #[.string a0_0, .string a0_1, .int .i64 a0_2, .int .i64 a0_3, (.slice A0_4 l0_4.length c0_4)] 25 (0, 0))) ∧ Aside0 (Below w.heap.size w wc))
          case first =>
           have H := HC48.out
           clear HC48
           by_cases c49 : a0_0.toList = ([99, 114, 121, 112, 116] : List UInt8)
           ·rw [if_pos c49] at H
            have c49b0 : (a0_0.toList == ([99, 114, 121, 112, 116] : List UInt8)) = true := beq_iff_eq.mpr c49
            have c49b1 : (a0_0.toList != ([99, 114, 121, 112, 116] : List UInt8)) = false := bne_eq_false_iff_eq.mpr c49
            clear c49
            (first | rw [c49b0] | (simp only [xB0, xB1]; rw [c49b0]) | skip)
            have H' := Aside0.mk H
            clear H
            go_wp2
            go_meet
            case rel => exact ⟨_, ((a0_0.toList == ([99, 114, 121, 112, 116] : List UInt8))), (by first | rfl | (simp; done) | (simp [*]; done)), H', ⟨by have := HJ3.out; have := HJ9.out; first | omega | exact Nat.le_refl _⟩, ⟨by (with_reducible repeat (first | refine xA5 ?_ _ | refine xA8 ?_ | refine xA4 ?_ _)); exact BK551.out⟩, ⟨by repeat (first | (with_reducible first | exact HB.out | apply xA1 | apply xA0 | apply below_drew1 | refine xA6 ?_ GE551.out) | exact HB.out)⟩⟩
           ·rw [if_neg c49] at H
            have c49b0 : (a0_0.toList == ([99, 114, 121, 112, 116] : List UInt8)) = false := beq_eq_false_iff_ne.mpr c49
            have c49b1 : (a0_0.toList != ([99, 114, 121, 112, 116] : List UInt8)) = true := bne_iff_ne.mpr c49
            (first | rw [c49b0] | (simp only [xB0, xB1]; rw [c49b0]) | skip)
            by_cases c50 : a0_0.toList = ([105, 110, 116, 101, 103, 114, 105, 116, 121] : List UInt8)
            ·rw [if_pos c50] at H
             have c50b0 : (a0_0.toList == ([105, 110, 116, 101, 103, 114, 105, 116, 121] : List UInt8)) = true := beq_iff_eq.mpr c50
             have c50b1 : (a0_0.toList != ([105, 110, 116, 101, 103, 114, 105, 116, 121] : List UInt8)) = false := bne_eq_false_iff_eq.mpr c50
             clear c50
             have H' := Aside0.mk H
             clear H
             go_wp2
             go_meet
             case rel => exact ⟨_, ((a0_0.toList == ([105, 110, 116, 101, 103, 114, 105, 116, 121] : List UInt8))), (by first | rfl | (simp; done) | (simp [*]; done)), H', ⟨by have := HJ3.out; have := HJ9.out; first | omega | exact Nat.le_refl _⟩, ⟨by (with_reducible repeat (first | refine xA5 ?_ _ | refine xA8 ?_ | refine xA4 ?_ _)); exact BK551.out⟩, ⟨by repeat (first | (with_reducible first | exact HB.out | apply xA1 | apply xA0 | apply below_drew1 | refine xA6 ?_ GE551.out) | exact HB.out)⟩⟩
            ·rw [if_neg c50] at H
             have c50b0 : (a0_0.toList == ([105, 110, 116, 101, 103, 114, 105, 116, 121] : List UInt8)) = false := beq_eq_false_iff_ne.mpr c50
             have c50b1 : (a0_0.toList != ([105, 110, 116, 101, 103, 114, 105, 116, 121] : List UInt8)) = true := bne_iff_ne.mpr c50
             have H' := Aside0.mk H
             clear H
             go_wp2
             go_meet
             case rel => exact ⟨_, ((a0_0.toList == ([118, 101, 114, 105, 116, 121] : List UInt8))), (by first | rfl | (simp; done) | (simp [*]; done)), H', ⟨by have := HJ3.out; have := HJ9.out; first | omega | exact Nat.le_refl _⟩, ⟨by (with_reducible repeat (first | refine xA5 ?_ _ | refine xA8 ?_ | refine xA4 ?_ _)); exact BK551.out⟩, ⟨by repeat (first | (with_reducible first | exact HB.out | apply xA1 | apply xA0 | apply below_drew1 | refine xA6 ?_ GE551.out) | exact HB.out)⟩⟩
          case rest =>
           clear HC48
           try clear c1
           try clear c2
           try clear p2
           try clear c3
           try clear c4
           try clear c5
           try clear p5
           try clear q5
           try clear hx5
           try clear qi5
           try clear c8
           try clear c9
           try clear c11
           try clear c11b0
           try clear c11b1
           try clear c12
           try clear c12b0
           try clear c12b1
           try clear c16
           try clear c19
           try clear c19b0
           try clear c19b1
           try clear c20
           try clear c20b0
           try clear c20b1
           try clear c21
           try clear c21b0
           try clear c21b1
           try clear c23
           try clear c24
           try clear c24b0
           try clear c24b1
           try clear c26
           try clear c38
           try clear c38b0
           try clear c38b1
           try clear c39
           try clear c39b0
           try clear c39b1
           try clear c40
           try clear c40b0
           try clear c40b1
           try clear c42
           try clear c49
           try clear c49b0
           try clear c49b1
           try clear c50
           try clear c50b0
           try clear c50b1
           try clear hcz13_0 hcz13_1 hcz13_2 hcz13_3 hcz13_4
           try clear hcz14_0 hcz14_1 hcz14_2 hcz14_3 hcz14_4
           try clear hcz15_0 hcz15_1 hcz15_2 hcz15_3 hcz15_4
           try clear hcz18_0 hcz18_1 hcz18_2 hcz18_3 hcz18_4
           try clear hcz27_0 hcz27_1 hcz27_2 hcz27_3 hcz27_4
           try clear hcz29_0 hcz29_1 hcz29_2 hcz29_3 hcz29_4
           try clear hcz31_0 hcz31_1 hcz31_2 hcz31_3 hcz31_4
           try clear hcz33_0 hcz33_1 hcz33_2 hcz33_3 hcz33_4
           try clear hcz35_0 hcz35_1 hcz35_2 hcz35_3 hcz35_4
           try clear hcz37_0 hcz37_1 hcz37_2 hcz37_3 hcz37_4
           try clear hcz43_0 hcz43_1 hcz43_2 hcz43_3 hcz43_4
           try clear hcz45_0 hcz45_1 hcz45_2 hcz45_3 hcz45_4
           try clear hcz47_0 hcz47_1 hcz47_2 hcz47_3 hcz47_4
           try clear hcz6_0 hcz6_1 hcz6_2 hcz6_3 hcz6_4
           try clear hfz13_0 hfz13_1 hfz13_2 hfz13_3 hfz13_4
           try clear hfz14_0 hfz14_1 hfz14_2 hfz14_3 hfz14_4
           try clear hfz15_0 hfz15_1 hfz15_2 hfz15_3 hfz15_4
           try clear hfz18_0 hfz18_1 hfz18_2 hfz18_3 hfz18_4
           try clear hfz27_0 hfz27_1 hfz27_2 hfz27_3 hfz27_4
           try clear hfz29_0 hfz29_1 hfz29_2 hfz29_3 hfz29_4
           try clear hfz31_0 hfz31_1 hfz31_2 hfz31_3 hfz31_4
           try clear hfz33_0 hfz33_1 hfz33_2 hfz33_3 hfz33_4
           try clear hfz35_0 hfz35_1 hfz35_2 hfz35_3 hfz35_4
           try clear hfz37_0 hfz37_1 hfz37_2 hfz37_3 hfz37_4
           try clear hfz43_0 hfz43_1 hfz43_2 hfz43_3 hfz43_4
           try clear hfz45_0 hfz45_1 hfz45_2 hfz45_3 hfz45_4
           try clear hfz47_0 hfz47_1 hfz47_2 hfz47_3 hfz47_4
           try clear hfz6_0 hfz6_1 hfz6_2 hfz6_3 hfz6_4
           try clear hx553_0 hx553_1 hx553_2 hx553_3 hx553_4
           try clear hx555_0 hx555_1 hx555_2 hx555_3 hx555_4
           try clear hx557_0 hx557_1 hx557_2 hx557_3 hx557_4
           try clear p2
           try clear p553
           try clear p555
           try clear p557
           try clear q553
           try clear q555
           try clear q557
           obtain ⟨kq, x72_47, rfl, HA, HJ47, BK551, HB⟩ := hcut
           cases kq with
           | zero => exact absurd HA.out (by simp [xA3.j2])
           | succ kj47 =>
            have H := HA.out
            clear HA
            simp only [xA3.j2] at H
            by_cases c51 : x72_47 = true
            ·subst c51
             have H1 : (if (l0_4.length : Int) = 2 then (if 1 < (l0_4.length : Int) then ((xAf.f kj47 ((xA2 l0_4 1).f0) ((xA2 l0_4 1).f1) ((xA2 l0_4 1).f2) ((xA2 l0_4 1).f3) ((xA2 l0_4 1).f4) (⟨#[110, 97, 109, 101]⟩ : ByteArray)).bind fun t560 => (if t560 = true then (xA3.j3 kj47 a1 1 a0_0 a0_1 a0_2 a0_3 l0_4) else (some false))) else (none)) else (some false)) = some r := by rw [if_pos rfl] at H; exact H
             clear H
             have H := H1
             clear H1
             by_cases c52 : (l0_4.length : Int) = 2
             ·rw [if_pos c52] at H
              have c52b0 : ((l0_4.length : Int) == 2) = true := beq_iff_eq.mpr c52
              have c52b1 : ((l0_4.length : Int) != 2) = false := bne_eq_false_iff_eq.mpr c52
              clear c52
              by_cases c53 : 1 < (l0_4.length : Int)
              ·rw [if_pos c53] at H
               have c53b0 : decide (1 < (l0_4.length : Int)) = true := decide_eq_true c53
               have c53b1 : decide (1 < l0_4.length) = true := decide_eq_true (by omega)
               clear c53
               replace H := Option.bind_eq_some_iff.mp H
               obtain ⟨t560, A540, H⟩ := H
               replace H : (if t560 = true then (xA3.j3 kj47 a1 1 a0_0 a0_1 a0_2 a0_3 l0_4) else (some false)) = some r := H
               have A54 := Aside0.mk A540
               clear A540
               by_cases c55 : t560 = true
               ·subst c55
                have H1 : (xA3.j3 kj47 a1 1 a0_0 a0_1 a0_2 a0_3 l0_4) = some r := by rw [if_pos rfl] at H; exact H
                clear H
                have H := H1
                clear H1
                have H' := Aside0.mk H
                clear H
                obtain ⟨hcz56_0, hcz56_1, hcz56_2, hcz56_3, hcz56_4, hfz56_0, hfz56_1, hfz56_2, hfz56_3, hfz56_4⟩ := ex5 BK551.out
                have p559 : 0 ≤ (1 : Int) := (by omega)
                have q559 : 1 < (l0_4.length : Int) := of_decide_eq_true (by first | (with_reducible assumption) | assumption)
                obtain ⟨ad559, A559_4, c559_4, e559, hx559_0, hx559_1, hx559_2, hx559_3, hx559_4, hl559_4, hi559_4⟩ := xC3 HR0_4.out 1 p559 q559
                cases e559
                (try simp only [show (1 : Int).toNat = 1 from rfl, Nat.reduceMul, Nat.reduceEqDiff, Go.Addr.add, ↓reduceIte] at hx559_0 hx559_1 hx559_2 hx559_3 hx559_4)
                have qi559 : (1 < l0_4.length) = True := eq_true (by omega)
                (try rw [show ((1 : Int)).toNat = 1 from rfl] at hx559_0)
                (try rw [show 1 * 5 = 5 from rfl] at hx559_0)
                (try rw [show ((1 : Int)).toNat = 1 from rfl] at hx559_1)
                (try rw [show 1 * 5 = 5 from rfl] at hx559_1)
                (try rw [show ((1 : Int)).toNat = 1 from rfl] at hx559_2)
                (try rw [show 1 * 5 = 5 from rfl] at hx559_2)
                (try rw [show ((1 : Int)).toNat = 1 from rfl] at hx559_3)
                (try rw [show 1 * 5 = 5 from rfl] at hx559_3)
                (try rw [show ((1 : Int)).toNat = 1 from rfl] at hx559_4)
                (try rw [show 1 * 5 = 5 from rfl] at hx559_4)
                replace hx559_0 := (HB.out.cell (World.block_lt_of_cell? w _ hx559_0)).trans hx559_0
                replace hx559_1 := (HB.out.cell (World.block_lt_of_cell? w _ hx559_1)).trans hx559_1
                replace hx559_2 := (HB.out.cell (World.block_lt_of_cell? w _ hx559_2)).trans hx559_2
                replace hx559_3 := (HB.out.cell (World.block_lt_of_cell? w _ hx559_3)).trans hx559_3
                replace hx559_4 := (HB.out.cell (World.block_lt_of_cell? w _ hx559_4)).trans hx559_4
                have HR559_4 := Aside0.mk hi559_4
                have HC559_4 := Aside0.mk hl559_4
                clear hi559_4 hl559_4
                replace p559 := eq_true p559
                replace q559 := eq_true q559
                go_wp2_with (first | (go_at_call 56; (with_reducible refine (xAf.calls kj47 ((xA2 l0_4 1).f0) ((xA2 l0_4 1).f1) ((xA2 l0_4 1).f2) ((xA2 l0_4 1).f3) _ _ ((xA2 l0_4 1).f4) (⟨#[110, 97, 109, 101]⟩ : ByteArray) true _ ?side1 ?side2 A54.out).mono ?_); (case side1 => repeat (first | exact (Kd.C_below HR559_4.out HB.out) | (with_reducible refine Kd.C_alloc ?_ _) | (with_reducible refine Kd.C_drewN ?_ _) | (with_reducible refine Kd.C_drew ?_))); (case side2 => exact HC559_4.out); rintro e w57 ⟨rfl, hb⟩; have n0_ := Aside0.mk (xAt (g := gb551) (o := .cells #[.string a0_0, .string a0_1, .int .i64 a0_2, .int .i64 a0_3, .slice (some ad559) l0_4.length c0_4] 25 (0, 0)) (by (with_reducible repeat (first | refine xA5 ?_ _ | refine xA8 ?_ | refine xA4 ?_ _)); exact BK551.out) hb); have n1_ := Aside0.mk (xAi (by repeat (first | (with_reducible first | exact HB.out | apply xA1 | apply xA0 | apply below_drew1 | refine xA6 ?_ GE551.out) | exact HB.out)) hb); clear BK551; clear HB; have BK551 := n0_; have HB := n1_; clear n0_ n1_; (try clear hb); (try clear hb2); (try clear hk); (try clear hi)))
                go_meet
                case rel => exact ⟨_, (1), (by first | rfl | (simp; done) | (simp [*]; done)), H', ⟨by have := HJ3.out; have := HJ9.out; have := HJ47.out; first | omega | exact Nat.le_refl _⟩, ⟨by (with_reducible repeat (first | refine xA5 ?_ _ | refine xA8 ?_ | refine xA4 ?_ _)); exact BK551.out⟩, ⟨by repeat (first | (with_reducible first | exact HB.out | apply xA1 | apply xA0 | apply below_drew1 | refine xA6 ?_ GE551.out) | exact HB.out)⟩⟩
               ·replace c55 := Bool.eq_false_iff.mpr c55
                subst c55
                have H1 : (some false) = some r := by rw [if_neg (show ¬ (false = true) by decide)] at H; exact H
                clear H
                have H := H1
                clear H1
                obtain rfl := Option.some.inj H
                obtain ⟨hcz58_0, hcz58_1, hcz58_2, hcz58_3, hcz58_4, hfz58_0, hfz58_1, hfz58_2, hfz58_3, hfz58_4⟩ := ex5 BK551.out
                have p559 : 0 ≤ (1 : Int) := (by omega)
                have q559 : 1 < (l0_4.length : Int) := of_decide_eq_true (by first | (with_reducible assumption) | assumption)
                obtain ⟨ad559, A559_4, c559_4, e559, hx559_0, hx559_1, hx559_2, hx559_3, hx559_4, hl559_4, hi559_4⟩ := xC3 HR0_4.out 1 p559 q559
                cases e559
                (try simp only [show (1 : Int).toNat = 1 from rfl, Nat.reduceMul, Nat.reduceEqDiff, Go.Addr.add, ↓reduceIte] at hx559_0 hx559_1 hx559_2 hx559_3 hx559_4)
                have qi559 : (1 < l0_4.length) = True := eq_true (by omega)
                (try rw [show ((1 : Int)).toNat = 1 from rfl] at hx559_0)
                (try rw [show 1 * 5 = 5 from rfl] at hx559_0)
                (try rw [show ((1 : Int)).toNat = 1 from rfl] at hx559_1)
                (try rw [show 1 * 5 = 5 from rfl] at hx559_1)
                (try rw [show ((1 : Int)).toNat = 1 from rfl] at hx559_2)
                (try rw [show 1 * 5 = 5 from rfl] at hx559_2)
                (try rw [show ((1 : Int)).toNat = 1 from rfl] at hx559_3)
                (try rw [show 1 * 5 = 5 from rfl] at hx559_3)
                (try rw [show ((1 : Int)).toNat = 1 from rfl] at hx559_4)
                (try rw [show 1 * 5 = 5 from rfl] at hx559_4)
                replace hx559_0 := (HB.out.cell (World.block_lt_of_cell? w _ hx559_0)).trans hx559_0
                replace hx559_1 := (HB.out.cell (World.block_lt_of_cell? w _ hx559_1)).trans hx559_1
                replace hx559_2 := (HB.out.cell (World.block_lt_of_cell? w _ hx559_2)).trans hx559_2
                replace hx559_3 := (HB.out.cell (World.block_lt_of_cell? w _ hx559_3)).trans hx559_3
                replace hx559_4 := (HB.out.cell (World.block_lt_of_cell? w _ hx559_4)).trans hx559_4
                have HR559_4 := Aside0.mk hi559_4
                have HC559_4 := Aside0.mk hl559_4
                clear hi559_4 hl559_4
                replace p559 := eq_true p559
                replace q559 := eq_true q559
                go_wp2_with (first | (go_at_call 56; (with_reducible refine (xAf.calls kj47 ((xA2 l0_4 1).f0) ((xA2 l0_4 1).f1) ((xA2 l0_4 1).f2) ((xA2 l0_4 1).f3) _ _ ((xA2 l0_4 1).f4) (⟨#[110, 97, 109, 101]⟩ : ByteArray) false _ ?side1 ?side2 A54.out).mono ?_); (case side1 => repeat (first | exact (Kd.C_below HR559_4.out HB.out) | (with_reducible refine Kd.C_alloc ?_ _) | (with_reducible refine Kd.C_drewN ?_ _) | (with_reducible refine Kd.C_drew ?_))); (case side2 => exact HC559_4.out); rintro e w59 ⟨rfl, hb⟩; have n0_ := Aside0.mk (xAt (g := gb551) (o := .cells #[.string a0_0, .string a0_1, .int .i64 a0_2, .int .i64 a0_3, .slice (some ad559) l0_4.length c0_4] 25 (0, 0)) (by (with_reducible repeat (first | refine xA5 ?_ _ | refine xA8 ?_ | refine xA4 ?_ _)); exact BK551.out) hb); have n1_ := Aside0.mk (xAi (by repeat (first | (with_reducible first | exact HB.out | apply xA1 | apply xA0 | apply below_drew1 | refine xA6 ?_ GE551.out) | exact HB.out)) hb); clear BK551; clear HB; have BK551 := n0_; have HB := n1_; clear n0_ n1_; (try clear hb); (try clear hb2); (try clear hk); (try clear hi)))
                go_ret
                exact ⟨by first | rfl | (simp <;> rfl) | (simp [*] <;> rfl), by repeat (first | (with_reducible first | exact HB.out | apply xA1 | apply xA0 | apply below_drew1 | refine xA6 ?_ GE551.out) | exact HB.out)⟩
              ·rw [if_neg c53] at H
               exact absurd H (by simp)
             ·rw [if_neg c52] at H
              have c52b0 : ((l0_4.length : Int) == 2) = false := beq_eq_false_iff_ne.mpr c52
              have c52b1 : ((l0_4.length : Int) != 2) = true := bne_iff_ne.mpr c52
              obtain rfl := Option.some.inj H
              obtain ⟨hcz60_0, hcz60_1, hcz60_2, hcz60_3, hcz60_4, hfz60_0, hfz60_1, hfz60_2, hfz60_3, hfz60_4⟩ := ex5 BK551.out
              go_wp2
              go_ret
              exact ⟨by first | rfl | (simp <;> rfl) | (simp [*] <;> rfl), by repeat (first | (with_reducible first | exact HB.out | apply xA1 | apply xA0 | apply below_drew1 | refine xA6 ?_ GE551.out) | exact HB.out)⟩
            ·replace c51 := Bool.eq_false_iff.mpr c51
             subst c51
             have H1 : (if a0_0.toList = ([99, 111, 110, 99, 97, 116] : List UInt8) then (xA3.j3 kj47 a1 (l0_4.length : Int) a0_0 a0_1 a0_2 a0_3 l0_4) else (if a0_0.toList = ([109, 105, 114, 114, 111, 114] : List UInt8) then (xA3.j3 kj47 a1 (l0_4.length : Int) a0_0 a0_1 a0_2 a0_3 l0_4) else (some false))) = some r := by rw [if_neg (show ¬ (false = true) by decide)] at H; exact H
             clear H
             have H := H1
             clear H1
             by_cases c61 : a0_0.toList = ([99, 111, 110, 99, 97, 116] : List UInt8)
             ·rw [if_pos c61] at H
              have c61b0 : (a0_0.toList == ([99, 111, 110, 99, 97, 116] : List UInt8)) = true := beq_iff_eq.mpr c61
              have c61b1 : (a0_0.toList != ([99, 111, 110, 99, 97, 116] : List UInt8)) = false := bne_eq_false_iff_eq.mpr c61
              clear c61
              have H' := Aside0.mk H
              clear H
              obtain ⟨hcz62_0, hcz62_1, hcz62_2, hcz62_3, hcz62_4, hfz62_0, hfz62_1, hfz62_2, hfz62_3, hfz62_4⟩ := ex5 BK551.out
              go_wp2
              go_meet
              case rel => exact ⟨_, ((l0_4.length : Int)), (by first | rfl | (simp; done) | (simp [*]; done)), H', ⟨by have := HJ3.out; have := HJ9.out; have := HJ47.out; first | omega | exact Nat.le_refl _⟩, ⟨by (with_reducible repeat (first | refine xA5 ?_ _ | refine xA8 ?_ | refine xA4 ?_ _)); exact BK551.out⟩, ⟨by repeat (first | (with_reducible first | exact HB.out | apply xA1 | apply xA0 | apply below_drew1 | refine xA6 ?_ GE551.out) | exact HB.out)⟩⟩
             ·rw [if_neg c61] at H
              have c61b0 : (a0_0.toList == ([99, 111, 110, 99, 97, 116] : List UInt8)) = false := beq_eq_false_iff_ne.mpr c61
              have c61b1 : (a0_0.toList != ([99, 111, 110, 99, 97, 116] : List UInt8)) = true := bne_iff_ne.mpr c61
              by_cases c63 : a0_0.toList = ([109, 105, 114, 114, 111, 114] : List UInt8)
              ·rw [if_pos c63] at H
               have c63b0 : (a0_0.toList == ([109, 105, 114, 114, 111, 114] : List UInt8)) = true := beq_iff_eq.mpr c63
               have c63b1 : (a0_0.toList != ([109, 105, 114, 114, 111, 114] : List UInt8)) = false := bne_eq_false_iff_eq.mpr c63
               clear c63
               have H' := Aside0.mk H
               clear H
               obtain ⟨hcz64_0, hcz64_1, hcz64_2, hcz64_3, hcz64_4, hfz64_0, hfz64_1, hfz64_2, hfz64_3, hfz64_4⟩ := ex5 BK551.out
               go_wp2
               go_meet
               case rel => exact ⟨_, ((l0_4.length : Int)), (by first | rfl | (simp; done) | (simp [*]; done)), H', ⟨by have := HJ3.out; have := HJ9.out; have := HJ47.out; first | omega | exact Nat.le_refl _⟩, ⟨by (with_reducible repeat (first | refine xA5 ?_ _ | refine xA8 ?_ | refine xA4 ?_ _)); exact BK551.out⟩, ⟨by repeat (first | (with_reducible first | exact HB.out | apply xA1 | apply xA0 | apply below_drew1 | refine xA6 ?_ GE551.out) | exact HB.out)⟩⟩
              ·rw [if_neg c63] at H
               have c63b0 : (a0_0.toList == ([109, 105, 114, 114, 111, 114] : List UInt8)) = false := beq_eq_false_iff_ne.mpr c63
               have c63b1 : (a0_0.toList != ([109, 105, 114, 114, 111, 114] : List UInt8)) = true := bne_iff_ne.mpr c63
               obtain rfl := Option.some.inj H
               go_wp2
               go_ret
               exact ⟨by first | rfl | (simp <;> rfl) | (simp [*] <;> rfl), by repeat (first | (with_reducible first | exact HB.out | apply xA1 | apply xA0 | apply below_drew1 | refine xA6 ?_ GE551.out) | exact HB.out)⟩
       case rest =>
        clear HC17
        try clear c1
        try clear c2
        try clear p2
        try clear c3
        try clear c4
        try clear c5
        try clear p5
        try clear q5
        try clear hx5
        try clear qi5
        try clear c6
        try clear c8
        try clear c9
        try clear c11
        try clear c11b0
        try clear c11b1
        try clear c12
        try clear c12b0
        try clear c12b1
        try clear c16
        try clear c19
        try clear c19b0
        try clear c19b1
        try clear c20
        try clear c20b0
        try clear c20b1
        try clear c21
        try clear c21b0
        try clear c21b1
        try clear c23
        try clear c24
        try clear c24b0
        try clear c24b1
        try clear c26
        try clear c38
        try clear c38b0
        try clear c38b1
        try clear c39
        try clear c39b0
        try clear c39b1
        try clear c40
        try clear c40b0
        try clear c40b1
        try clear c42
        try clear c49
        try clear c49b0
        try clear c49b1
        try clear c50
        try clear c50b0
        try clear c50b1
        try clear c51
        try clear c52
        try clear c52b0
        try clear c52b1
        try clear c53
        try clear c53b0
        try clear c53b1
        try clear c55
        try clear p55
        try clear q55
        try clear hx55
        try clear qi55
        try clear c61
        try clear c61b0
        try clear c61b1
        try clear c63
        try clear c63b0
        try clear c63b1
        try clear hcz13_0 hcz13_1 hcz13_2 hcz13_3 hcz13_4
        try clear hcz14_0 hcz14_1 hcz14_2 hcz14_3 hcz14_4
        try clear hcz15_0 hcz15_1 hcz15_2 hcz15_3 hcz15_4
        try clear hcz18_0 hcz18_1 hcz18_2 hcz18_3 hcz18_4
        try clear hcz27_0 hcz27_1 hcz27_2 hcz27_3 hcz27_4
        try clear hcz29_0 hcz29_1 hcz29_2 hcz29_3 hcz29_4
        try clear hcz31_0 hcz31_1 hcz31_2 hcz31_3 hcz31_4
        try clear hcz33_0 hcz33_1 hcz33_2 hcz33_3 hcz33_4
        try clear hcz35_0 hcz35_1 hcz35_2 hcz35_3 hcz35_4
        try clear hcz37_0 hcz37_1 hcz37_2 hcz37_3 hcz37_4
        try clear hcz43_0 hcz43_1 hcz43_2 hcz43_3 hcz43_4
        try clear hcz45_0 hcz45_1 hcz45_2 hcz45_3 hcz45_4
        try clear hcz47_0 hcz47_1 hcz47_2 hcz47_3 hcz47_4
        try clear hcz56_0 hcz56_1 hcz56_2 hcz56_3 hcz56_4
        try clear hcz58_0 hcz58_1 hcz58_2 hcz58_3 hcz58_4
        try clear hcz60_0 hcz60_1 hcz60_2 hcz60_3 hcz60_4
        try clear hcz62_0 hcz62_1 hcz62_2 hcz62_3 hcz62_4
        try clear hcz64_0 hcz64_1 hcz64_2 hcz64_3 hcz64_4
        try clear hcz6_0 hcz6_1 hcz6_2 hcz6_3 hcz6_4
        try clear hfz13_0 hfz13_1 hfz13_2 hfz13_3 hfz13_4
        try clear hfz14_0 hfz14_1 hfz14_2 hfz14_3 hfz14_4
        try clear hfz15_0 hfz15_1 hfz15_2 hfz15_3 hfz15_4
        try clear hfz18_0 hfz18_1 hfz18_2 hfz18_3 hfz18_4
        try clear hfz27_0 hfz27_1 hfz27_2 hfz27_3 hfz27_4
        try clear hfz29_0 hfz29_1 hfz29_2 hfz29_3 hfz29_4
        try clear hfz31_0 hfz31_1 hfz31_2 hfz31_3 hfz31_4
        try clear hfz33_0 hfz33_1 hfz33_2 hfz33_3 hfz33_4
        try clear hfz35_0 hfz35_1 hfz35_2 hfz35_3 hfz35_4
        try clear hfz37_0 hfz37_1 hfz37_2 hfz37_3 hfz37_4
        try clear hfz43_0 hfz43_1 hfz43_2 hfz43_3 hfz43_4
        try clear hfz45_0 hfz45_1 hfz45_2 hfz45_3 hfz45_4
        try clear hfz47_0 hfz47_1 hfz47_2 hfz47_3 hfz47_4
        try clear hfz56_0 hfz56_1 hfz56_2 hfz56_3 hfz56_4
        try clear hfz58_0 hfz58_1 hfz58_2 hfz58_3 hfz58_4
        try clear hfz60_0 hfz60_1 hfz60_2 hfz60_3 hfz60_4
        try clear hfz62_0 hfz62_1 hfz62_2 hfz62_3 hfz62_4
        try clear hfz64_0 hfz64_1 hfz64_2 hfz64_3 hfz64_4
        try clear hfz6_0 hfz6_1 hfz6_2 hfz6_3 hfz6_4
        try clear hx553_0 hx553_1 hx553_2 hx553_3 hx553_4
        try clear hx555_0 hx555_1 hx555_2 hx555_3 hx555_4
        try clear hx557_0 hx557_1 hx557_2 hx557_3 hx557_4
        try clear hx559_0 hx559_1 hx559_2 hx559_3 hx559_4
        try clear p2
        try clear p5
        try clear p553
        try clear p555
        try clear p557
        try clear p559
        try clear q5
        try clear q553
        try clear q555
        try clear q557
        try clear q559
        obtain ⟨kq, x6_16, rfl, HA, HJ16, BK551, HB⟩ := hcut
        cases kq with
        | zero => exact absurd HA.out (by simp [xA3.j3])
        | succ kj16 =>
         have H := HA.out
         clear HA
         simp only [xA3.j3] at H
         have H' := Aside0.mk H
         clear H
         go_wp2
         go_loopg [8] kj16 (fun kq v8 w' => ∃ (x8_4 : Int), v8 = .int .i64 x8_4 ∧ Aside0 (xA3.l0 kq a1 x6_16 x8_4 a0_0 a0_1 a0_2 a0_3 l0_4 = some r) ∧ Aside0 (kq ≤ kj16) ∧ Aside0 (w'.heap[gb551]? = some (.cells #[.string a0_0, .string a0_1, .int .i64 a0_2, .int .i64 a0_3, (.slice A0_4 l0_4.length c0_4)] 25 (0, 0))) ∧ Aside0 (Below w.heap.size w w'))
         case atStart => exact ⟨(0), (by first | rfl | (simp; done) | (simp [*]; done)), H', ⟨Nat.le_refl _⟩, ⟨by (with_reducible repeat (first | refine xA5 ?_ _ | refine xA8 ?_ | refine xA4 ?_ _)); exact BK551.out⟩, ⟨by repeat (first | (with_reducible first | exact HB.out | apply xA1 | apply xA0 | apply below_drew1 | refine xA6 ?_ GE551.out) | exact HB.out)⟩⟩
         case round =>
          clear H'
          try clear c1
          try clear c2
          try clear p2
          try clear c3
          try clear c4
          try clear c5
          try clear p5
          try clear q5
          try clear hx5
          try clear qi5
          try clear c6
          try clear c8
          try clear c9
          try clear c11
          try clear c11b0
          try clear c11b1
          try clear c12
          try clear c12b0
          try clear c12b1
          try clear c16
          try clear c19
          try clear c19b0
          try clear c19b1
          try clear c20
          try clear c20b0
          try clear c20b1
          try clear c21
          try clear c21b0
          try clear c21b1
          try clear c23
          try clear c24
          try clear c24b0
          try clear c24b1
          try clear c26
          try clear c38
          try clear c38b0
          try clear c38b1
          try clear c39
          try clear c39b0
          try clear c39b1
          try clear c40
          try clear c40b0
          try clear c40b1
          try clear c42
          try clear c49
          try clear c49b0
          try clear c49b1
          try clear c50
          try clear c50b0
          try clear c50b1
          try clear c51
          try clear c52
          try clear c52b0
          try clear c52b1
          try clear c53
          try clear c53b0
          try clear c53b1
          try clear c55
          try clear p55
          try clear q55
          try clear hx55
          try clear qi55
          try clear c61
          try clear c61b0
          try clear c61b1
          try clear c63
          try clear c63b0
          try clear c63b1
          try clear hcz13_0 hcz13_1 hcz13_2 hcz13_3 hcz13_4
          try clear hcz14_0 hcz14_1 hcz14_2 hcz14_3 hcz14_4
          try clear hcz15_0 hcz15_1 hcz15_2 hcz15_3 hcz15_4
          try clear hcz18_0 hcz18_1 hcz18_2 hcz18_3 hcz18_4
          try clear hcz27_0 hcz27_1 hcz27_2 hcz27_3 hcz27_4
          try clear hcz29_0 hcz29_1 hcz29_2 hcz29_3 hcz29_4
          try clear hcz31_0 hcz31_1 hcz31_2 hcz31_3 hcz31_4
          try clear hcz33_0 hcz33_1 hcz33_2 hcz33_3 hcz33_4
          try clear hcz35_0 hcz35_1 hcz35_2 hcz35_3 hcz35_4
          try clear hcz37_0 hcz37_1 hcz37_2 hcz37_3 hcz37_4
          try clear hcz43_0 hcz43_1 hcz43_2 hcz43_3 hcz43_4
          try clear hcz45_0 hcz45_1 hcz45_2 hcz45_3 hcz45_4
          try clear hcz47_0 hcz47_1 hcz47_2 hcz47_3 hcz47_4
          try clear hcz56_0 hcz56_1 hcz56_2 hcz56_3 hcz56_4
          try clear hcz58_0 hcz58_1 hcz58_2 hcz58_3 hcz58_4
          try clear hcz60_0 hcz60_1 hcz60_2 hcz60_3 hcz60_4
          try clear hcz62_0 hcz62_1 hcz62_2 hcz62_3 hcz62_4
          try clear hcz64_0 hcz64_1 hcz64_2 hcz64_3 hcz64_4
          try clear hcz6_0 hcz6_1 hcz6_2 hcz6_3 hcz6_4
          try clear hfz13_0 hfz13_1 hfz13_2 hfz13_3 hfz13_4
          try clear hfz14_0 hfz14_1 hfz14_2 hfz14_3 hfz14_4
          try clear hfz15_0 hfz15_1 hfz15_2 hfz15_3 hfz15_4
          try clear hfz18_0 hfz18_1 hfz18_2 hfz18_3 hfz18_4
          try clear hfz27_0 hfz27_1 hfz27_2 hfz27_3 hfz27_4
          try clear hfz29_0 hfz29_1 hfz29_2 hfz29_3 hfz29_4
          try clear hfz31_0 hfz31_1 hfz31_2 hfz31_3 hfz31_4
          try clear hfz33_0 hfz33_1 hfz33_2 hfz33_3 hfz33_4
          try clear hfz35_0 hfz35_1 hfz35_2 hfz35_3 hfz35_4
          try clear hfz37_0 hfz37_1 hfz37_2 hfz37_3 hfz37_4
          try clear hfz43_0 hfz43_1 hfz43_2 hfz43_3 hfz43_4
          try clear hfz45_0 hfz45_1 hfz45_2 hfz45_3 hfz45_4
          try clear hfz47_0 hfz47_1 hfz47_2 hfz47_3 hfz47_4
          try clear hfz56_0 hfz56_1 hfz56_2 hfz56_3 hfz56_4
          try clear hfz58_0 hfz58_1 hfz58_2 hfz58_3 hfz58_4
          try clear hfz60_0 hfz60_1 hfz60_2 hfz60_3 hfz60_4
          try clear hfz62_0 hfz62_1 hfz62_2 hfz62_3 hfz62_4
          try clear hfz64_0 hfz64_1 hfz64_2 hfz64_3 hfz64_4
          try clear hfz6_0 hfz6_1 hfz6_2 hfz6_3 hfz6_4
          try clear hx553_0 hx553_1 hx553_2 hx553_3 hx553_4
          try clear hx555_0 hx555_1 hx555_2 hx555_3 hx555_4
          try clear hx557_0 hx557_1 hx557_2 hx557_3 hx557_4
          try clear hx559_0 hx559_1 hx559_2 hx559_3 hx559_4
          try clear p2
          try clear p5
          try clear p55
          try clear p553
          try clear p555
          try clear p557
          try clear p559
          try clear q5
          try clear q55
          try clear q553
          try clear q555
          try clear q557
          try clear q559
          obtain ⟨x8_4, rfl, HA, HK4, BK551, HB⟩ := hrel
          cases gk with
          | zero => exact absurd HA.out (by simp [xA3.l0])
          | succ k4 =>
           have H := HA.out
           clear HA
           simp only [xA3.l0] at H
           by_cases c65 : x8_4 < x6_16
           ·rw [if_pos c65] at H
            have c65b0 : decide (x8_4 < x6_16) = true := decide_eq_true c65
            clear c65
            by_cases c66 : 0 ≤ x8_4
            ·rw [if_pos c66] at H
             have c66b0 : decide (0 ≤ x8_4) = true := decide_eq_true c66
             clear c66
             by_cases c67 : x8_4 < (l0_4.length : Int)
             ·rw [if_pos c67] at H
              have c67b0 : decide (x8_4 < (l0_4.length : Int)) = true := decide_eq_true c67
              clear c67
              replace H := Option.bind_eq_some_iff.mp H
              obtain ⟨t562, A680, H⟩ := H
              replace H : (if t562 = true then (xA3.l0 k4 a1 x6_16 (wrap64 (x8_4 + 1)) a0_0 a0_1 a0_2 a0_3 l0_4) else (some false)) = some r := H
              have A68 := Aside0.mk A680
              clear A680
              by_cases c69 : t562 = true
              ·subst c69
               have H1 : (xA3.l0 k4 a1 x6_16 (wrap64 (x8_4 + 1)) a0_0 a0_1 a0_2 a0_3 l0_4) = some r := by rw [if_pos rfl] at H; exact H
               clear H
               have H := H1
               clear H1
               have H' := Aside0.mk H
               clear H
               obtain ⟨hcz70_0, hcz70_1, hcz70_2, hcz70_3, hcz70_4, hfz70_0, hfz70_1, hfz70_2, hfz70_3, hfz70_4⟩ := ex5 BK551.out
               have p561 : 0 ≤ (x8_4 : Int) := of_decide_eq_true (by first | (with_reducible assumption) | assumption)
               have q561 : x8_4 < (l0_4.length : Int) := of_decide_eq_true (by first | (with_reducible assumption) | assumption)
               obtain ⟨ad561, A561_4, c561_4, e561, hx561_0, hx561_1, hx561_2, hx561_3, hx561_4, hl561_4, hi561_4⟩ := xC3 HR0_4.out x8_4 p561 q561
               cases e561
               replace hx561_0 := (HB.out.cell (World.block_lt_of_cell? w _ hx561_0)).trans hx561_0
               replace hx561_1 := (HB.out.cell (World.block_lt_of_cell? w _ hx561_1)).trans hx561_1
               replace hx561_2 := (HB.out.cell (World.block_lt_of_cell? w _ hx561_2)).trans hx561_2
               replace hx561_3 := (HB.out.cell (World.block_lt_of_cell? w _ hx561_3)).trans hx561_3
               replace hx561_4 := (HB.out.cell (World.block_lt_of_cell? w _ hx561_4)).trans hx561_4
               have HR561_4 := Aside0.mk hi561_4
               have HC561_4 := Aside0.mk hl561_4
               clear hi561_4 hl561_4
               replace p561 := eq_true p561
               replace q561 := eq_true q561
               go_wp2_with (first | ((with_reducible refine xAj (f := 57) rfl ?_); refine xB6 (some 106) rfl rfl Tryd.func57 (by kernel_rfl) rfl #[.agg #[.string ((xA2 l0_4 x8_4).f0), .string ((xA2 l0_4 x8_4).f1), .int .i64 ((xA2 l0_4 x8_4).f2), .int .i64 ((xA2 l0_4 x8_4).f3), .slice A561_4 ((xA2 l0_4 x8_4).f4).length c561_4], .int .i64 (wrap64 (a1 + 1))] rfl (by (try simp only [List.map_toArray, List.map_cons, List.map_nil]); first | done | rfl | (simp only [List.length_drop, List.length_take]; rfl)) ?_; (with_reducible refine (ih k4 (by have := HJ3.out; have := HJ9.out; have := HJ16.out; have := HK4.out; omega) ((xA2 l0_4 x8_4).f0) ((xA2 l0_4 x8_4).f1) ((xA2 l0_4 x8_4).f2) ((xA2 l0_4 x8_4).f3) _ _ ((xA2 l0_4 x8_4).f4) (wrap64 (a1 + 1)) true _ ?side1 ?side2 A68.out).mono ?_); (case side1 => repeat (first | exact (Kd.C_below HR561_4.out HB.out) | (with_reducible refine Kd.C_alloc ?_ _) | (with_reducible refine Kd.C_drewN ?_ _) | (with_reducible refine Kd.C_drew ?_))); (case side2 => exact HC561_4.out); rintro e w71 ⟨rfl, hb⟩; refine ⟨_, rfl, ?_⟩; have n0_ := Aside0.mk (xAt (g := gb551) (o := .cells #[.string a0_0, .string a0_1, .int .i64 a0_2, .int .i64 a0_3, .slice (some ad561) l0_4.length c0_4] 25 (0, 0)) (by (with_reducible repeat (first | refine xA5 ?_ _ | refine xA8 ?_ | refine xA4 ?_ _)); exact BK551.out) hb); have n1_ := Aside0.mk (xAi (by repeat (first | (with_reducible first | exact HB.out | apply xA1 | apply xA0 | apply below_drew1 | refine xA6 ?_ GE551.out) | exact HB.out)) hb); clear BK551; clear HB; have BK551 := n0_; have HB := n1_; clear n0_ n1_; (try clear hb); (try clear hb2); (try clear hk); (try clear hi)))
               go_roundg k4
               case measure => have := HJ3.out; have := HJ9.out; have := HJ16.out; have := HK4.out; omega
               case rel => exact ⟨(wrap64 (x8_4 + 1)), (by first | rfl | (simp; done) | (simp [*]; done)), H', ⟨by have := HJ3.out; have := HJ9.out; have := HJ16.out; have := HK4.out; omega⟩, ⟨by (with_reducible repeat (first | refine xA5 ?_ _ | refine xA8 ?_ | refine xA4 ?_ _)); exact BK551.out⟩, ⟨by repeat (first | (with_reducible first | exact HB.out | apply xA1 | apply xA0 | apply below_drew1 | refine xA6 ?_ GE551.out) | exact HB.out)⟩⟩
              ·replace c69 := Bool.eq_false_iff.mpr c69
               subst c69
               have H1 : (some false) = some r := by rw [if_neg (show ¬ (false = true) by decide)] at H; exact H
               clear H
               have H := H1
               clear H1
               obtain rfl := Option.some.inj H
               obtain ⟨hcz72_0, hcz72_1, hcz72_2, hcz72_3, hcz72_4, hfz72_0, hfz72_1, hfz72_2, hfz72_3, hfz72_4⟩ := ex5 BK551.out
               have p561 : 0 ≤ (x8_4 : Int) := of_decide_eq_true (by first | (with_reducible assumption) | assumption)
               have q561 : x8_4 < (l0_4.length : Int) := of_decide_eq_true (by first | (with_reducible assumption) | assumption)
               obtain ⟨ad561, A561_4, c561_4, e561, hx561_0, hx561_1, hx561_2, hx561_3, hx561_4, hl561_4, hi561_4⟩ := xC3 HR0_4.out x8_4 p561 q561
               cases e561
               replace hx561_0 := (HB.out.cell (World.block_lt_of_cell? w _ hx561_0)).trans hx561_0
               replace hx561_1 := (HB.out.cell (World.block_lt_of_cell? w _ hx561_1)).trans hx561_1
               replace hx561_2 := (HB.out.cell (World.block_lt_of_cell? w _ hx561_2)).trans hx561_2
               replace hx561_3 := (HB.out.cell (World.block_lt_of_cell? w _ hx561_3)).trans hx561_3
               replace hx561_4 := (HB.out.cell (World.block_lt_of_cell? w _ hx561_4)).trans hx561_4
               have HR561_4 := Aside0.mk hi561_4
               have HC561_4 := Aside0.mk hl561_4
               clear hi561_4 hl561_4
               replace p561 := eq_true p561
               replace q561 := eq_true q561
               go_wp2_with (first | ((with_reducible refine xAj (f := 57) rfl ?_); refine xB6 (some 106) rfl rfl Tryd.func57 (by kernel_rfl) rfl #[.agg #[.string ((xA2 l0_4 x8_4).f0), .string ((xA2 l0_4 x8_4).f1), .int .i64 ((xA2 l0_4 x8_4).f2), .int .i64 ((xA2 l0_4 x8_4).f3), .slice A561_4 ((xA2 l0_4 x8_4).f4).length c561_4], .int .i64 (wrap64 (a1 + 1))] rfl (by (try simp only [List.map_toArray, List.map_cons, List.map_nil]); first | done | rfl | (simp only [List.length_drop, List.length_take]; rfl)) ?_; (with_reducible refine (ih k4 (by have := HJ3.out; have := HJ9.out; have := HJ16.out; have := HK4.out; omega) ((xA2 l0_4 x8_4).f0) ((xA2 l0_4 x8_4).f1) ((xA2 l0_4 x8_4).f2) ((xA2 l0_4 x8_4).f3) _ _ ((xA2 l0_4 x8_4).f4) (wrap64 (a1 + 1)) false _ ?side1 ?side2 A68.out).mono ?_); (case side1 => repeat (first | exact (Kd.C_below HR561_4.out HB.out) | (with_reducible refine Kd.C_alloc ?_ _) | (with_reducible refine Kd.C_drewN ?_ _) | (with_reducible refine Kd.C_drew ?_))); (case side2 => exact HC561_4.out); rintro e w73 ⟨rfl, hb⟩; refine ⟨_, rfl, ?_⟩; have n0_ := Aside0.mk (xAt (g := gb551) (o := .cells #[.string a0_0, .string a0_1, .int .i64 a0_2, .int .i64 a0_3, .slice (some ad561) l0_4.length c0_4] 25 (0, 0)) (by (with_reducible repeat (first | refine xA5 ?_ _ | refine xA8 ?_ | refine xA4 ?_ _)); exact BK551.out) hb); have n1_ := Aside0.mk (xAi (by repeat (first | (with_reducible first | exact HB.out | apply xA1 | apply xA0 | apply below_drew1 | refine xA6 ?_ GE551.out) | exact HB.out)) hb); clear BK551; clear HB; have BK551 := n0_; have HB := n1_; clear n0_ n1_; (try clear hb); (try clear hb2); (try clear hk); (try clear hi)))
               go_ret
               exact ⟨by first | rfl | (simp <;> rfl) | (simp [*] <;> rfl), by repeat (first | (with_reducible first | exact HB.out | apply xA1 | apply xA0 | apply below_drew1 | refine xA6 ?_ GE551.out) | exact HB.out)⟩
             ·rw [if_neg c67] at H
              exact absurd H (by simp)
            ·rw [if_neg c66] at H
             exact absurd H (by simp)
           ·rw [if_neg c65] at H
            have c65b0 : decide (x8_4 < x6_16) = false := decide_eq_false c65
            clear c65
            obtain rfl := Option.some.inj H
            go_wp2
            go_ret
            exact ⟨by first | rfl | (simp <;> rfl) | (simp [*] <;> rfl), by repeat (first | (with_reducible first | exact HB.out | apply xA1 | apply xA0 | apply below_drew1 | refine xA6 ?_ GE551.out) | exact HB.out)⟩

end Go.Proofs.YtknbfhhmjbnemaaDoor.P
end
