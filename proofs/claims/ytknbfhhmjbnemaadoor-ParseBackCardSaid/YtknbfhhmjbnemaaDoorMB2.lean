/- Proved here, for this seat's claims: what the functions that the laws reach compute: the texts of this work, one behind the other, laid by a program of this session. Conditions: none beside the statement's own. -/
import Derived.Test.YtknbfhhmjbnemaaDoorMB1
import Derived.Recover
import Derived.Defers
section
namespace Go.Proofs.YtknbfhhmjbnemaaDoor.P
open Go.RowKit Go.Proofs.YtknbfhhmjbnemaaDoorW.PrintWords Go.Proofs.YtknbfhhmjbnemaaDoorW.PrintLast Go.Proofs.YtknbfhhmjbnemaaDoorW.PrintMore
attribute [local go_sem] max2_int min2_int max_two min_two max_three min_three max_four min_four   -- for this text's walks alone
set_option linter.unusedVariables false
set_option linter.unusedSimpArgs false

/-! ### lex_Reserved: function 68 -/
def lex_Reserved.f (a0 : ByteArray) : Option (Bool) := if a0.toList = ([] : List UInt8) then (some false) else ((strings_Contains.f a0 (⟨#[32]⟩ : ByteArray)).bind fun t137 => (if t137 = true then (some false) else (if 1 + a0.size ≤ 9223372036854775807 then (if ((⟨#[32]⟩ : ByteArray) ++ a0).size + 1 ≤ 9223372036854775807 then ((strings_Contains.f (⟨#[32, 100, 101, 118, 105, 99, 101, 32, 106, 111, 117, 114, 110, 97, 108, 32, 107, 101, 121, 32, 114, 111, 111, 116, 32, 118, 111, 108, 117, 109, 101, 32, 101, 120, 112, 111, 114, 116, 32, 114, 101, 97, 100, 111, 110, 108, 121, 32, 108, 105, 110, 101, 97, 114, 32, 99, 111, 110, 99, 97, 116, 32, 109, 105, 114, 114, 111, 114, 32, 115, 110, 97, 112, 115, 104, 111, 116, 32, 99, 114, 121, 112, 116, 32, 105, 110, 116, 101, 103, 114, 105, 116, 121, 32, 118, 101, 114, 105, 116, 121, 32]⟩ : ByteArray) (((⟨#[32]⟩ : ByteArray) ++ a0) ++ (⟨#[32]⟩ : ByteArray))).bind fun t138 => (some t138)) else (none)) else (none))))
set_option maxHeartbeats 8000000 in
set_option maxRecDepth 100000 in
theorem lex_Reserved.calls (a0 : ByteArray) (r : Bool) (w : World) (h : lex_Reserved.f a0 = some r) (m_ : Int) (hm_ : w.cell? ⟨0, 0, none⟩ = some (.int .i64 m_)) :
    Calls Tryd.prog 68 #[.string a0] w fun e w' => e = .returned (.bool r) ∧ Drawn0 w w' := by
  have hmA_ := Aside0.mk hm_
  clear hm_
  have H : (if a0.toList = ([] : List UInt8) then (some false) else ((strings_Contains.f a0 (⟨#[32]⟩ : ByteArray)).bind fun t137 => (if t137 = true then (some false) else (if 1 + a0.size ≤ 9223372036854775807 then (if ((⟨#[32]⟩ : ByteArray) ++ a0).size + 1 ≤ 9223372036854775807 then ((strings_Contains.f (⟨#[32, 100, 101, 118, 105, 99, 101, 32, 106, 111, 117, 114, 110, 97, 108, 32, 107, 101, 121, 32, 114, 111, 111, 116, 32, 118, 111, 108, 117, 109, 101, 32, 101, 120, 112, 111, 114, 116, 32, 114, 101, 97, 100, 111, 110, 108, 121, 32, 108, 105, 110, 101, 97, 114, 32, 99, 111, 110, 99, 97, 116, 32, 109, 105, 114, 114, 111, 114, 32, 115, 110, 97, 112, 115, 104, 111, 116, 32, 99, 114, 121, 112, 116, 32, 105, 110, 116, 101, 103, 114, 105, 116, 121, 32, 118, 101, 114, 105, 116, 121, 32]⟩ : ByteArray) (((⟨#[32]⟩ : ByteArray) ++ a0) ++ (⟨#[32]⟩ : ByteArray))).bind fun t138 => (some t138)) else (none)) else (none))))) = some r := h
  clear h
  by_cases c2 : a0.toList = ([] : List UInt8)
  · rw [if_pos c2] at H
    have c2b0 : (a0.toList == ([] : List UInt8)) = true := beq_iff_eq.mpr c2
    have c2b1 : (a0.toList != ([] : List UInt8)) = false := bne_eq_false_iff_eq.mpr c2
    clear c2
    obtain rfl := Option.some.inj H
    go_enter Tryd.func68, Tryd.ntmps68
    go_wp2
    go_ret
    exact ⟨by first | rfl | (simp; done) | (simp [*]; done), by repeat (first | exact Drawn0.refl _ | apply Drawn0.step)⟩
  · rw [if_neg c2] at H
    have c2b0 : (a0.toList == ([] : List UInt8)) = false := beq_eq_false_iff_ne.mpr c2
    have c2b1 : (a0.toList != ([] : List UInt8)) = true := bne_iff_ne.mpr c2
    replace H := Option.bind_eq_some_iff.mp H
    obtain ⟨t137, A30, H⟩ := H
    replace H : (if t137 = true then (some false) else (if 1 + a0.size ≤ 9223372036854775807 then (if ((⟨#[32]⟩ : ByteArray) ++ a0).size + 1 ≤ 9223372036854775807 then ((strings_Contains.f (⟨#[32, 100, 101, 118, 105, 99, 101, 32, 106, 111, 117, 114, 110, 97, 108, 32, 107, 101, 121, 32, 114, 111, 111, 116, 32, 118, 111, 108, 117, 109, 101, 32, 101, 120, 112, 111, 114, 116, 32, 114, 101, 97, 100, 111, 110, 108, 121, 32, 108, 105, 110, 101, 97, 114, 32, 99, 111, 110, 99, 97, 116, 32, 109, 105, 114, 114, 111, 114, 32, 115, 110, 97, 112, 115, 104, 111, 116, 32, 99, 114, 121, 112, 116, 32, 105, 110, 116, 101, 103, 114, 105, 116, 121, 32, 118, 101, 114, 105, 116, 121, 32]⟩ : ByteArray) (((⟨#[32]⟩ : ByteArray) ++ a0) ++ (⟨#[32]⟩ : ByteArray))).bind fun t138 => (some t138)) else (none)) else (none))) = some r := H
    have A3 := Aside0.mk A30
    clear A30
    by_cases c4 : t137 = true
    · subst c4
      have H1 : (some false) = some r := by rw [if_pos rfl] at H; exact H
      clear H
      have H := H1
      clear H1
      obtain rfl := Option.some.inj H
      go_enter Tryd.func68, Tryd.ntmps68
      go_wp2_with (first | (go_at_call 85; (with_reducible refine (strings_Contains.calls a0 (⟨#[32]⟩ : ByteArray) true _ A3.out m_ (by first | (with_reducible exact hmA_.out) | (repeat (first | exact hmA_.out | refine mlen_drewN ?_ | refine mlen_drew ?_)))).mono ?_); rintro e w' ⟨rfl, ⟨nd, rfl⟩⟩))
      go_ret
      exact ⟨by first | rfl | (simp; done) | (simp [*]; done), by repeat (first | exact Drawn0.refl _ | apply Drawn0.step)⟩
    · replace c4 := Bool.eq_false_iff.mpr c4
      subst c4
      have H1 : (if 1 + a0.size ≤ 9223372036854775807 then (if ((⟨#[32]⟩ : ByteArray) ++ a0).size + 1 ≤ 9223372036854775807 then ((strings_Contains.f (⟨#[32, 100, 101, 118, 105, 99, 101, 32, 106, 111, 117, 114, 110, 97, 108, 32, 107, 101, 121, 32, 114, 111, 111, 116, 32, 118, 111, 108, 117, 109, 101, 32, 101, 120, 112, 111, 114, 116, 32, 114, 101, 97, 100, 111, 110, 108, 121, 32, 108, 105, 110, 101, 97, 114, 32, 99, 111, 110, 99, 97, 116, 32, 109, 105, 114, 114, 111, 114, 32, 115, 110, 97, 112, 115, 104, 111, 116, 32, 99, 114, 121, 112, 116, 32, 105, 110, 116, 101, 103, 114, 105, 116, 121, 32, 118, 101, 114, 105, 116, 121, 32]⟩ : ByteArray) (((⟨#[32]⟩ : ByteArray) ++ a0) ++ (⟨#[32]⟩ : ByteArray))).bind fun t138 => (some t138)) else (none)) else (none)) = some r := by rw [if_neg (show ¬ (false = true) by decide)] at H; exact H
      clear H
      have H := H1
      clear H1
      by_cases c5 : 1 + a0.size ≤ 9223372036854775807
      · rw [if_pos c5] at H
        have c5b0 := eq_true c5
        have c5b1 : decide (1 + a0.size ≤ 9223372036854775807) = true := decide_eq_true c5
        try have c5b2 : (9223372036854775807 < 1 + a0.size) = False := eq_false (Nat.not_lt.2 c5)
        by_cases c6 : ((⟨#[32]⟩ : ByteArray) ++ a0).size + 1 ≤ 9223372036854775807
        · rw [if_pos c6] at H
          have c6b0 := eq_true c6
          have c6b1 : decide (((⟨#[32]⟩ : ByteArray) ++ a0).size + 1 ≤ 9223372036854775807) = true := decide_eq_true c6
          try have c6b2 : (9223372036854775807 < ((⟨#[32]⟩ : ByteArray) ++ a0).size + 1) = False := eq_false (Nat.not_lt.2 c6)
          have c6s := c6
          (try simp only [ByteArray.size_append, show (⟨#[32]⟩ : ByteArray).size = 1 from rfl] at c6s)
          (try have c6u := decide_eq_true c6s)
          (try have c6v := eq_false (Nat.not_lt.2 c6s))
          clear c6s
          replace H := Option.bind_eq_some_iff.mp H
          obtain ⟨t138, A70, H⟩ := H
          replace H : (some t138) = some r := H
          have A7 := Aside0.mk A70
          clear A70
          obtain rfl := Option.some.inj H
          go_enter Tryd.func68, Tryd.ntmps68
          go_wp2_with (first | (go_at_call 85; (with_reducible refine (strings_Contains.calls a0 (⟨#[32]⟩ : ByteArray) false _ A3.out m_ (by first | (with_reducible exact hmA_.out) | (repeat (first | exact hmA_.out | refine mlen_drewN ?_ | refine mlen_drew ?_)))).mono ?_); rintro e w' ⟨rfl, ⟨nd, rfl⟩⟩) | (go_at_call 85; (with_reducible refine (strings_Contains.calls (⟨#[32, 100, 101, 118, 105, 99, 101, 32, 106, 111, 117, 114, 110, 97, 108, 32, 107, 101, 121, 32, 114, 111, 111, 116, 32, 118, 111, 108, 117, 109, 101, 32, 101, 120, 112, 111, 114, 116, 32, 114, 101, 97, 100, 111, 110, 108, 121, 32, 108, 105, 110, 101, 97, 114, 32, 99, 111, 110, 99, 97, 116, 32, 109, 105, 114, 114, 111, 114, 32, 115, 110, 97, 112, 115, 104, 111, 116, 32, 99, 114, 121, 112, 116, 32, 105, 110, 116, 101, 103, 114, 105, 116, 121, 32, 118, 101, 114, 105, 116, 121, 32]⟩ : ByteArray) (((⟨#[32]⟩ : ByteArray) ++ a0) ++ (⟨#[32]⟩ : ByteArray)) t138 _ A7.out m_ (by first | (with_reducible exact hmA_.out) | (repeat (first | exact hmA_.out | refine mlen_drewN ?_ | refine mlen_drew ?_)))).mono ?_); rintro e w' ⟨rfl, ⟨nd, rfl⟩⟩))
          go_ret
          exact ⟨by first | rfl | (simp; done) | (simp [*]; done), by repeat (first | exact Drawn0.refl _ | apply Drawn0.step)⟩
        · rw [if_neg c6] at H
          exact absurd H (by simp)
      · rw [if_neg c5] at H
        exact absurd H (by simp)

end Go.Proofs.YtknbfhhmjbnemaaDoor.P
end
section
namespace Go.Proofs.YtknbfhhmjbnemaaDoor.P
open Go.RowKit Go.Proofs.YtknbfhhmjbnemaaDoorW.PrintWords Go.Proofs.YtknbfhhmjbnemaaDoorW.PrintLast Go.Proofs.YtknbfhhmjbnemaaDoorW.PrintMore
attribute [local go_sem] max2_int min2_int max_two min_two max_three min_three max_four min_four   -- for this text's walks alone
set_option linter.unusedVariables false
set_option linter.unusedSimpArgs false

/-! ### parse_target: function 69 -/
def parse_target.f (a0 : ByteArray) : Option (Bool) := if a0.toList = ([108, 105, 110, 101, 97, 114] : List UInt8) then (some true) else (if a0.toList = ([99, 111, 110, 99, 97, 116] : List UInt8) then (some true) else (if a0.toList = ([109, 105, 114, 114, 111, 114] : List UInt8) then (some true) else (if a0.toList = ([115, 110, 97, 112, 115, 104, 111, 116] : List UInt8) then (some true) else (if a0.toList = ([99, 114, 121, 112, 116] : List UInt8) then (some true) else (if a0.toList = ([105, 110, 116, 101, 103, 114, 105, 116, 121] : List UInt8) then (some true) else (if a0.toList = ([118, 101, 114, 105, 116, 121] : List UInt8) then (some true) else (some false)))))))
set_option maxHeartbeats 8000000 in
set_option maxRecDepth 100000 in
theorem parse_target.calls (a0 : ByteArray) (r : Bool) (w : World) (h : parse_target.f a0 = some r) :
    Calls Tryd.prog 69 #[.string a0] w fun e w' => e = .returned (.bool r) ∧ Drawn0 w w' := by
  have H : (if a0.toList = ([108, 105, 110, 101, 97, 114] : List UInt8) then (some true) else (if a0.toList = ([99, 111, 110, 99, 97, 116] : List UInt8) then (some true) else (if a0.toList = ([109, 105, 114, 114, 111, 114] : List UInt8) then (some true) else (if a0.toList = ([115, 110, 97, 112, 115, 104, 111, 116] : List UInt8) then (some true) else (if a0.toList = ([99, 114, 121, 112, 116] : List UInt8) then (some true) else (if a0.toList = ([105, 110, 116, 101, 103, 114, 105, 116, 121] : List UInt8) then (some true) else (if a0.toList = ([118, 101, 114, 105, 116, 121] : List UInt8) then (some true) else (some false)))))))) = some r := h
  clear h
  by_cases c2 : a0.toList = ([108, 105, 110, 101, 97, 114] : List UInt8)
  · rw [if_pos c2] at H
    have c2b0 : (a0.toList == ([108, 105, 110, 101, 97, 114] : List UInt8)) = true := beq_iff_eq.mpr c2
    have c2b1 : (a0.toList != ([108, 105, 110, 101, 97, 114] : List UInt8)) = false := bne_eq_false_iff_eq.mpr c2
    clear c2
    obtain rfl := Option.some.inj H
    go_enter Tryd.func69, Tryd.ntmps69
    go_wp2
    go_ret
    exact ⟨by first | rfl | (simp; done) | (simp [*]; done), by repeat (first | exact Drawn0.refl _ | apply Drawn0.step)⟩
  · rw [if_neg c2] at H
    have c2b0 : (a0.toList == ([108, 105, 110, 101, 97, 114] : List UInt8)) = false := beq_eq_false_iff_ne.mpr c2
    have c2b1 : (a0.toList != ([108, 105, 110, 101, 97, 114] : List UInt8)) = true := bne_iff_ne.mpr c2
    by_cases c3 : a0.toList = ([99, 111, 110, 99, 97, 116] : List UInt8)
    · rw [if_pos c3] at H
      have c3b0 : (a0.toList == ([99, 111, 110, 99, 97, 116] : List UInt8)) = true := beq_iff_eq.mpr c3
      have c3b1 : (a0.toList != ([99, 111, 110, 99, 97, 116] : List UInt8)) = false := bne_eq_false_iff_eq.mpr c3
      clear c3
      obtain rfl := Option.some.inj H
      go_enter Tryd.func69, Tryd.ntmps69
      go_wp2
      go_ret
      exact ⟨by first | rfl | (simp; done) | (simp [*]; done), by repeat (first | exact Drawn0.refl _ | apply Drawn0.step)⟩
    · rw [if_neg c3] at H
      have c3b0 : (a0.toList == ([99, 111, 110, 99, 97, 116] : List UInt8)) = false := beq_eq_false_iff_ne.mpr c3
      have c3b1 : (a0.toList != ([99, 111, 110, 99, 97, 116] : List UInt8)) = true := bne_iff_ne.mpr c3
      by_cases c4 : a0.toList = ([109, 105, 114, 114, 111, 114] : List UInt8)
      · rw [if_pos c4] at H
        have c4b0 : (a0.toList == ([109, 105, 114, 114, 111, 114] : List UInt8)) = true := beq_iff_eq.mpr c4
        have c4b1 : (a0.toList != ([109, 105, 114, 114, 111, 114] : List UInt8)) = false := bne_eq_false_iff_eq.mpr c4
        clear c4
        obtain rfl := Option.some.inj H
        go_enter Tryd.func69, Tryd.ntmps69
        go_wp2
        go_ret
        exact ⟨by first | rfl | (simp; done) | (simp [*]; done), by repeat (first | exact Drawn0.refl _ | apply Drawn0.step)⟩
      · rw [if_neg c4] at H
        have c4b0 : (a0.toList == ([109, 105, 114, 114, 111, 114] : List UInt8)) = false := beq_eq_false_iff_ne.mpr c4
        have c4b1 : (a0.toList != ([109, 105, 114, 114, 111, 114] : List UInt8)) = true := bne_iff_ne.mpr c4
        by_cases c5 : a0.toList = ([115, 110, 97, 112, 115, 104, 111, 116] : List UInt8)
        · rw [if_pos c5] at H
          have c5b0 : (a0.toList == ([115, 110, 97, 112, 115, 104, 111, 116] : List UInt8)) = true := beq_iff_eq.mpr c5
          have c5b1 : (a0.toList != ([115, 110, 97, 112, 115, 104, 111, 116] : List UInt8)) = false := bne_eq_false_iff_eq.mpr c5
          clear c5
          obtain rfl := Option.some.inj H
          go_enter Tryd.func69, Tryd.ntmps69
          go_wp2
          go_ret
          exact ⟨by first | rfl | (simp; done) | (simp [*]; done), by repeat (first | exact Drawn0.refl _ | apply Drawn0.step)⟩
        · rw [if_neg c5] at H
          have c5b0 : (a0.toList == ([115, 110, 97, 112, 115, 104, 111, 116] : List UInt8)) = false := beq_eq_false_iff_ne.mpr c5
          have c5b1 : (a0.toList != ([115, 110, 97, 112, 115, 104, 111, 116] : List UInt8)) = true := bne_iff_ne.mpr c5
          by_cases c6 : a0.toList = ([99, 114, 121, 112, 116] : List UInt8)
          · rw [if_pos c6] at H
            have c6b0 : (a0.toList == ([99, 114, 121, 112, 116] : List UInt8)) = true := beq_iff_eq.mpr c6
            have c6b1 : (a0.toList != ([99, 114, 121, 112, 116] : List UInt8)) = false := bne_eq_false_iff_eq.mpr c6
            clear c6
            obtain rfl := Option.some.inj H
            go_enter Tryd.func69, Tryd.ntmps69
            go_wp2
            go_ret
            exact ⟨by first | rfl | (simp; done) | (simp [*]; done), by repeat (first | exact Drawn0.refl _ | apply Drawn0.step)⟩
          · rw [if_neg c6] at H
            have c6b0 : (a0.toList == ([99, 114, 121, 112, 116] : List UInt8)) = false := beq_eq_false_iff_ne.mpr c6
            have c6b1 : (a0.toList != ([99, 114, 121, 112, 116] : List UInt8)) = true := bne_iff_ne.mpr c6
            by_cases c7 : a0.toList = ([105, 110, 116, 101, 103, 114, 105, 116, 121] : List UInt8)
            · rw [if_pos c7] at H
              have c7b0 : (a0.toList == ([105, 110, 116, 101, 103, 114, 105, 116, 121] : List UInt8)) = true := beq_iff_eq.mpr c7
              have c7b1 : (a0.toList != ([105, 110, 116, 101, 103, 114, 105, 116, 121] : List UInt8)) = false := bne_eq_false_iff_eq.mpr c7
              clear c7
              obtain rfl := Option.some.inj H
              go_enter Tryd.func69, Tryd.ntmps69
              go_wp2
              go_ret
              exact ⟨by first | rfl | (simp; done) | (simp [*]; done), by repeat (first | exact Drawn0.refl _ | apply Drawn0.step)⟩
            · rw [if_neg c7] at H
              have c7b0 : (a0.toList == ([105, 110, 116, 101, 103, 114, 105, 116, 121] : List UInt8)) = false := beq_eq_false_iff_ne.mpr c7
              have c7b1 : (a0.toList != ([105, 110, 116, 101, 103, 114, 105, 116, 121] : List UInt8)) = true := bne_iff_ne.mpr c7
              by_cases c8 : a0.toList = ([118, 101, 114, 105, 116, 121] : List UInt8)
              · rw [if_pos c8] at H
                have c8b0 : (a0.toList == ([118, 101, 114, 105, 116, 121] : List UInt8)) = true := beq_iff_eq.mpr c8
                have c8b1 : (a0.toList != ([118, 101, 114, 105, 116, 121] : List UInt8)) = false := bne_eq_false_iff_eq.mpr c8
                clear c8
                obtain rfl := Option.some.inj H
                go_enter Tryd.func69, Tryd.ntmps69
                go_wp2
                go_ret
                exact ⟨by first | rfl | (simp; done) | (simp [*]; done), by repeat (first | exact Drawn0.refl _ | apply Drawn0.step)⟩
              · rw [if_neg c8] at H
                have c8b0 : (a0.toList == ([118, 101, 114, 105, 116, 121] : List UInt8)) = false := beq_eq_false_iff_ne.mpr c8
                have c8b1 : (a0.toList != ([118, 101, 114, 105, 116, 121] : List UInt8)) = true := bne_iff_ne.mpr c8
                obtain rfl := Option.some.inj H
                go_enter Tryd.func69, Tryd.ntmps69
                go_wp2
                go_ret
                exact ⟨by first | rfl | (simp; done) | (simp [*]; done), by repeat (first | exact Drawn0.refl _ | apply Drawn0.step)⟩

end Go.Proofs.YtknbfhhmjbnemaaDoor.P
end
section
namespace Go.Proofs.YtknbfhhmjbnemaaDoor.P
open Go.RowKit Go.Proofs.YtknbfhhmjbnemaaDoorW.PrintWords Go.Proofs.YtknbfhhmjbnemaaDoorW.PrintLast Go.Proofs.YtknbfhhmjbnemaaDoorW.PrintMore
set_option linter.unusedVariables false
set_option linter.unusedSimpArgs false

/-! parse's parser: what is left of the tokens, the text's length -/
def PsS (w0 w W : World) (g : Nat) (T : List S60) (en : Int) : Prop := (∃ A c, W.heap[g]? = some (.cells #[.slice A T.length c, .int .i64 en] 44 (0, 0)) ∧ T.length ≤ c ∧ Kd.C k60 w0 A T.length T ∧ ∀ a, A = some a → ∃ cs, w0.heap[a.block]? = some (.cells cs 60 (0, 0))) ∧ w0.heap.size ≤ g ∧ Below w0.heap.size w0 W ∧ KeepBut w W g none ∧ ∃ m, w0.cell? ⟨0, 0, none⟩ = some (.int .i64 m)
section
variable {w0 w W W1 : World} {g : Nat} {T T' : List S60} {en en' : Int}
theorem PsS.lt (h : PsS w0 w W g T en) : g < W.heap.size := by
  obtain ⟨⟨A, c, hb, _⟩, _⟩ := h
  exact blk_lt hb
theorem PsS.bel (h : PsS w0 w W g T en) : Below w0.heap.size w0 W := h.2.2.1
theorem PsS.kb (h : PsS w0 w W g T en) : KeepBut w W g none := h.2.2.2.1
theorem PsS.ge (h : PsS w0 w W g T en) : w0.heap.size ≤ g := h.2.1
theorem PsS.below (h : PsS w0 w W g T en) (hb : Below W.heap.size W W1) : PsS w0 w W1 g T en := by
  obtain ⟨⟨A, c, hbk, hc, hC⟩, hg, hB, hK, hm⟩ := h
  exact ⟨⟨A, c, blk_below hbk hb, hc, hC⟩, hg, below_then hB hB.size hb, hK.trans (KeepBut.of_below hb g none) (.inl rfl), hm⟩
theorem PsS.alloc (h : PsS w0 w W g T en) (o : Obj) : PsS w0 w (W.alloc o) g T en := h.below (below_alloc (Below.refl _ _) _)
theorem PsS.drewN (h : PsS w0 w W g T en) (m : Nat) : PsS w0 w (W.drewN m) g T en := h.below (pw_below_drewN (Below.refl _ _) m)
theorem PsS.drew (h : PsS w0 w W g T en) : PsS w0 w W.drew g T en := h.below (below_drew (Below.refl _ _))
theorem PsS.grown {row : Option Nat} (h : PsS w0 w W g T en) (hg : W.grownBy W1 row) (hne : some g ≠ row) (hr : ∀ k, row = some k → w.heap.size ≤ k ∧ w0.heap.size ≤ k) : PsS w0 w W1 g T en := by
  obtain ⟨⟨A, c, hbk, hc, hC⟩, hgg, hB, hK, hm⟩ := h
  exact ⟨⟨A, c, blk_grown hbk hg hne, hc, hC⟩, hgg, pw_below_grown hB row hB.size hg (fun k hk => (hr k hk).2), hK.trans (KeepBut.of_grown hg g) (by
    cases row with
    | none => exact .inl rfl
    | some b => exact .inr ⟨b, rfl, (hr b rfl).1⟩), hm⟩
theorem PsS.far (h : PsS w0 w W g T en) {b j : Nat} (hne : g ≠ b) (hb : w.heap.size ≤ b) (hb0 : w0.heap.size ≤ b) (v : Value) : PsS w0 w (W.setCell ⟨b, j, none⟩ v) g T en := by
  obtain ⟨⟨A, c, hbk, hc, hC⟩, hgg, hB, hK, hm⟩ := h
  exact ⟨⟨A, c, blk_far hbk hne v, hc, hC⟩, hgg, below_set hB hb0, keep_far hK hb v, hm⟩
/-- Behind a call: w is the caller's start. -/
theorem PsS.call {wc : World} (h : PsS w0 w wc g T en) (h1 : PsS w0 wc W1 g T' en') : PsS w0 w W1 g T' en' := ⟨h1.1, h1.2.1, h1.bel, h.kb.trans h1.kb (.inl rfl), h1.2.2.2.2⟩
theorem PsS.start (h : PsS w0 w W g T en) : PsS w0 W W g T en := ⟨h.1, h.2.1, h.bel, KeepBut.refl _ _ _, h.2.2.2.2⟩
/-- The tokens' slice, cut by one. -/
theorem PsS.cut {t : S60} {A : Option Addr} {c : Nat} (h : PsS w0 w W g (t :: T) en) (hbk : W.heap[g]? = some (.cells #[.slice A (t :: T).length c, .int .i64 en] 44 (0, 0))) (hc : (t :: T).length ≤ c) (hC : Kd.C k60 w0 A (t :: T).length (t :: T)) :
    PsS w0 w (W.setCell ⟨g, 0, none⟩ (.slice (if c = 1 then A else A.map (·.add 4)) T.length (c - 1))) g T en := by
  obtain ⟨⟨A0, c0, hb0, _, _, hT⟩, hg, hB, hK, hm⟩ := h
  have e := Option.some.inj (hb0.symm.trans hbk)
  injection e with e1 _ _
  have e2 := congrArg (fun v : Array Value => v[0]?) e1
  simp at e2
  obtain ⟨rfl, rfl⟩ := e2
  have hd := Kd.C_drop (m := 1) hC (by simp) hc
  simp only [List.drop_succ_cons, List.drop_zero] at hd
  refine ⟨⟨_, c0 - 1, blk_put hbk 0 _ rfl, by simp at hc; omega, hd, fun a ha => ?_⟩, hg, below_set hB hg, hK.set_ 0 _, hm⟩
  split at ha
  · exact hT a ha
  · obtain ⟨a1, h1, rfl⟩ := Option.map_eq_some_iff.mp ha
    obtain ⟨cs, h2⟩ := hT a1 h1
    exact ⟨cs, by simpa [Addr.add] using h2⟩
theorem PsS.cell (h : PsS w0 w W g T en) : ∃ m, W.cell? ⟨0, 0, none⟩ = some (.int .i64 m) := by
  obtain ⟨m, hm⟩ := h.2.2.2.2
  exact ⟨m, pw_cell_below h.bel hm⟩
end
abbrev PErr := Int × Int
/-- A fault that is thrown. -/
def faultOf (x : PErr) : List PanicEntry := [{ v := .iface 40 (.agg #[.int .i64 x.1, .int .i64 x.2]), recovered := false }]
def pplace (T : List S60) (en : Int) : Int := match T with | [] => en | t :: _ => t.f3
def presv (s : ByteArray) : Option Bool := lex_Reserved.f s
/-- What panicked. -/
def PBad (w0 w : World) (g : Nat) (x : PErr) (e : Ending) (w' : World) : Prop := e = .panicked (faultOf x) ∧ Below w0.heap.size w0 w' ∧ KeepBut w w' g none
end Go.Proofs.YtknbfhhmjbnemaaDoor.P
end
section
namespace Go.Proofs.YtknbfhhmjbnemaaDoor.P
open Go.RowKit Go.Proofs.YtknbfhhmjbnemaaDoorW.PrintWords Go.Proofs.YtknbfhhmjbnemaaDoorW.PrintLast Go.Proofs.YtknbfhhmjbnemaaDoorW.PrintMore
set_option linter.unusedVariables false
set_option linter.unusedSimpArgs false

theorem add0 (a : Addr) : a.add 0 = a := by unfold Addr.add; simp
theorem PsS.head {w0 w W : World} {g : Nat} {t : S60} {T : List S60} {en : Int} (h : PsS w0 w W g (t :: T) en) :
    ∃ ad c, W.heap[g]? = some (.cells #[.slice (some ad) (t :: T).length c, .int .i64 en] 44 (0, 0)) ∧ (t :: T).length ≤ c ∧ Kd.C k60 w0 (some ad) (t :: T).length (t :: T) ∧
      W.cell? ad = some (.int .i64 t.f0) ∧ W.cell? ⟨ad.block, ad.off + 1, none⟩ = some (.string t.f1) ∧ W.cell? ⟨ad.block, ad.off + 2, none⟩ = some (.int .i64 t.f2) ∧ W.cell? ⟨ad.block, ad.off + 3, none⟩ = some (.int .i64 t.f3) := by
  obtain ⟨⟨A, c, hbk, hc, hC, hT⟩, _, hB, _⟩ := h
  obtain ⟨ad, rfl, y0, y1, y2, y3⟩ := at_T60 hC 0 (Int.le_refl _) (by simp)
  simp only [Int.toNat_zero, Nat.zero_mul, add0] at y0 y1 y2 y3
  exact ⟨ad, c, hbk, hc, hC, pw_cell_below hB y0, pw_cell_below hB y1, pw_cell_below hB y2, pw_cell_below hB y3⟩
theorem PsS.empty {w0 w W : World} {g : Nat} {en : Int} (h : PsS w0 w W g [] en) : ∃ A c, W.heap[g]? = some (.cells #[.slice A 0 c, .int .i64 en] 44 (0, 0)) := by
  obtain ⟨⟨A, c, hbk, hc, hC⟩, _⟩ := h
  exact ⟨A, c, hbk⟩
set_option maxHeartbeats 2000000 in
theorem pplace_calls (g : Nat) (T : List S60) (en : Int) (w0 w : World) (h : PsS w0 w w g T en) : Calls Tryd.prog 30 #[.pointer (some ⟨g, 0, none⟩)] w fun e w' => e = .returned (.int .i64 (pplace T en)) ∧ w' = w := by
  cases T with
  | nil =>
    obtain ⟨A, c, hbk⟩ := h.empty
    have x0 : w.cell? ⟨g, 0, none⟩ = some (.slice A 0 c) := (blk_cell hbk 0).trans rfl
    have x1 : w.cell? ⟨g, 1, none⟩ = some (.int .i64 en) := (blk_cell hbk 1).trans rfl
    clear h hbk
    go_enter Tryd.func30, Tryd.ntmps30
    go_wp2
    go_ret
    exact ⟨rfl, rfl⟩
  | cons t T =>
    obtain ⟨ad, c, hbk, hc, hC, y0, y1, y2, y3⟩ := h.head
    have x0 := (blk_cell hbk 0).trans rfl
    have hl : 0 < (t :: T).length := by simp
    clear h hbk hC
    generalize (t :: T).length = n at *
    have d0 : ((n : Int) == 0) = false := by simp; omega
    have d1 : (0 : Int) < (n : Int) := by omega
    go_enter Tryd.func30, Tryd.ntmps30
    go_wp2
    go_ret
    exact ⟨rfl, rfl⟩
set_option maxHeartbeats 2000000 in
theorem pfail_calls (g : Nat) (T : List S60) (en er : Int) (w0 w : World) (h : PsS w0 w w g T en) : Calls Tryd.prog 66 #[.pointer (some ⟨g, 0, none⟩), .int .i64 er] w (PBad w0 w g (er, pplace T en)) := by
  have HP := Aside0.mk (pplace_calls g T en w0 w h)
  have HS := Aside0.mk h
  clear h
  have hpn : ∀ (x : Value) (w : World), (Instr.panic (.iface 40 x)).run Tryd.prog w = .halt (.panic (.iface 40 x)) w := fun _ _ => rfl
  go_enter Tryd.func66, Tryd.ntmps66
  go_wp2_with (go_at_call 30; (with_reducible refine HP.out.mono ?_); rintro e w' ⟨rfl, rfl⟩)
  exact ⟨rfl, rfl, HS.out.bel, KeepBut.refl _ _ _⟩
def pis (T : List S60) (s : ByteArray) : Bool := match T with | [] => false | t :: _ => (t.f0 == 0 || t.f0 == 3) && (t.f1.toList == s.toList)
set_option maxHeartbeats 2000000 in
theorem pis_calls (g : Nat) (T : List S60) (en : Int) (s : ByteArray) (w0 w : World) (h : PsS w0 w w g T en) : Calls Tryd.prog 70 #[.pointer (some ⟨g, 0, none⟩), .string s] w fun e w' => e = .returned (.bool (pis T s)) ∧ w' = w := by
  cases T with
  | nil =>
    obtain ⟨A, c, hbk⟩ := h.empty
    have x0 : w.cell? ⟨g, 0, none⟩ = some (.slice A 0 c) := (blk_cell hbk 0).trans rfl
    clear h hbk
    go_enter Tryd.func70, Tryd.ntmps70
    go_wp2
    go_ret
    exact ⟨rfl, rfl⟩
  | cons t T =>
    obtain ⟨ad, c, hbk, hc, hC, y0, y1, y2, y3⟩ := h.head
    have x0 := (blk_cell hbk 0).trans rfl
    have hl : 0 < (t :: T).length := by simp
    clear h hbk hC
    unfold pis
    dsimp only
    generalize (t :: T).length = n at *
    have d0 : decide ((n : Int) > 0) = true := decide_eq_true (by omega)
    have d0' : decide (0 < (n : Int)) = true := decide_eq_true (by omega)
    have d0'' : decide (0 < n) = true := decide_eq_true hl
    have d1 : (0 : Int) < (n : Int) := by omega
    by_cases h0 : t.f0 = 0
    · have e0 : (t.f0 == 0) = true := by rw [h0]; rfl
      rw [e0]
      clear h0
      go_enter Tryd.func70, Tryd.ntmps70
      go_wp2
      go_ret
      exact ⟨by simp, rfl⟩
    · have e0 : (t.f0 == 0) = false := by simpa using h0
      rw [e0]
      clear h0
      by_cases h3 : t.f0 = 3
      · have e3 : (t.f0 == 3) = true := by rw [h3]; rfl
        rw [e3]
        clear h3
        go_enter Tryd.func70, Tryd.ntmps70
        go_wp2
        go_ret
        exact ⟨by simp, rfl⟩
      · have e3 : (t.f0 == 3) = false := by simpa using h3
        rw [e3]
        clear h3
        go_enter Tryd.func70, Tryd.ntmps70
        go_wp2
        go_ret
        exact ⟨by simp, rfl⟩
theorem pis_cons {T : List S60} {s : ByteArray} (h : pis T s = true) : ∃ t T', T = t :: T' := by
  cases T with
  | nil => cases h
  | cons t T' => exact ⟨t, T', rfl⟩
set_option maxHeartbeats 2000000 in
theorem phas_calls (g : Nat) (T : List S60) (en : Int) (s : ByteArray) (w0 w : World) (h : PsS w0 w w g T en) : Calls Tryd.prog 38 #[.pointer (some ⟨g, 0, none⟩), .string s] w fun e w' => e = .returned (.bool (pis T s)) ∧ PsS w0 w w' g (if pis T s = true then T.tail else T) en := by
  have HI := Aside0.mk (pis_calls g T en s w0 w h)
  have HS := Aside0.mk h
  clear h
  cases hp : pis T s with
  | false =>
    rw [hp] at HI
    clear hp
    go_enter Tryd.func38, Tryd.ntmps38
    go_wp2_with (go_at_call 70; (with_reducible refine HI.out.mono ?_); rintro e w' ⟨rfl, rfl⟩)
    go_ret
    exact ⟨rfl, HS.out⟩
  | true =>
    rw [hp] at HI
    obtain ⟨t, T, rfl⟩ := pis_cons hp
    clear hp
    obtain ⟨ad, c, hbk, hc, hC, y0, y1, y2, y3⟩ := HS.out.head
    have x0 := (blk_cell hbk 0).trans rfl
    have z0 := blk_frozen hbk 0
    have HX := Aside0.mk (HS.out.cut hbk hc hC)
    have hl : 1 ≤ (t :: T).length := by simp
    have hlt : (t :: T).length - 1 = T.length := by simp
    have HLT := Aside0.mk hlt
    clear hbk hC y0 y1 y2 y3 hlt
    generalize (t :: T).length = n at *
    have d1 : (1 : Int) ≤ (n : Int) := by omega
    go_enter Tryd.func38, Tryd.ntmps38
    go_wp2_with (go_at_call 70; (with_reducible refine HI.out.mono ?_); rintro e w' ⟨rfl, rfl⟩)
    all_goals
      refine bodyPost_ret (results_tmp rfl _ _ _) rfl ⟨rfl, ?_⟩
      have HX1 := HX.out
      rw [← HLT.out] at HX1
      first
        | (rw [if_neg h] at HX1; exact HX1)
        | (rw [if_pos h, h] at HX1; exact HX1)
end Go.Proofs.YtknbfhhmjbnemaaDoor.P
end
section
namespace Go.Proofs.YtknbfhhmjbnemaaDoor.P
open Go.RowKit Go.Proofs.YtknbfhhmjbnemaaDoorW.PrintWords Go.Proofs.YtknbfhhmjbnemaaDoorW.PrintLast Go.Proofs.YtknbfhhmjbnemaaDoorW.PrintMore
set_option linter.unusedVariables false
set_option linter.unusedSimpArgs false

theorem PsS.bad {w0 w W w' : World} {g : Nat} {T : List S60} {en : Int} {x : PErr} {e : Ending} (h : PsS w0 w W g T en) (hb : PBad w0 W g x e w') : PBad w0 w g x e w' := ⟨hb.1, hb.2.1, h.kb.trans hb.2.2 (.inl rfl)⟩
theorem lt_of_cell {w : World} {a : Addr} {v : Value} (h : w.cell? a = some v) : a.block < w.heap.size := by
  rcases Nat.lt_or_ge a.block w.heap.size with hlt | hge
  · exact hlt
  · unfold World.cell? at h
    rw [Array.getElem?_eq_none hge] at h
    simp at h
theorem cell_alloc {w : World} {a : Addr} {v : Value} (h : w.cell? a = some v) (o : Obj) : (w.alloc o).cell? a = some v := pw_cell_below (below_alloc (Below.refl w.heap.size w) o) h
/-- What a call of the parser's ends in: what it hands back, and the state; or a fault thrown. -/
def PRes {α : Type} (w0 w : World) (g : Nat) (en : Int) (V : α → Ending → World → Prop) (r : Except PErr (α × List S60)) (e : Ending) (w' : World) : Prop := match r with | .ok (a, T') => V a e w' ∧ PsS w0 w w' g T' en | .error x => PBad w0 w g x e w'
/-- A word or a sign that must come. -/
def pmust (T : List S60) (en : Int) (s : ByteArray) : Except PErr (Unit × List S60) := if pis T s = true then .ok ((), T.tail) else .error (111, pplace T en)
set_option maxHeartbeats 2000000 in
theorem pmust_calls (g : Nat) (T : List S60) (en : Int) (s : ByteArray) (w0 w : World) (h : PsS w0 w w g T en) : Calls Tryd.prog 36 #[.pointer (some ⟨g, 0, none⟩), .string s] w (PRes w0 w g en (fun _ e _ => e = .returned (.tuple #[])) (pmust T en s)) := by
  have HH := Aside0.mk (phas_calls g T en s w0 w h)
  clear h
  unfold pmust
  cases hp : pis T s with
  | false =>
    rw [hp] at HH
    simp only [Bool.false_eq_true, if_false, if_true] at HH
    clear hp
    simp only [Bool.false_eq_true, if_false]
    go_enter Tryd.func36, Tryd.ntmps36
    go_wp2_with (first | (go_at_call 38; (with_reducible refine HH.out.mono ?_); rintro e w1 ⟨rfl, h1⟩; have H1 := Aside0.mk h1; clear h1) | (go_at_call 66; (with_reducible refine (pfail_calls g T en 111 w0 w1 H1.out.start).mono ?_); rintro e w2 ⟨rfl, h2⟩; exact ⟨rfl, H1.out.bad ⟨rfl, h2⟩⟩))

  | true =>
    rw [hp] at HH
    simp only [Bool.false_eq_true, if_false, if_true] at HH
    clear hp
    simp only [if_true]
    go_enter Tryd.func36, Tryd.ntmps36
    go_wp2_with (go_at_call 38; (with_reducible refine HH.out.mono ?_); rintro e w1 ⟨rfl, h1⟩; have H1 := Aside0.mk h1; clear h1)
    refine bodyPost_end (results_none rfl _ _ _) rfl ⟨rfl, H1.out⟩
/-- What of asks of a token. -/
def pmay (k : Int) (t : S60) : Option Bool := if t.f0 = k then (if k = 0 then (presv t.f1).map (fun b => !b) else some true) else some false
def tokV (t : S60) : Value := .agg #[.int .i64 t.f0, .string t.f1, .int .i64 t.f2, .int .i64 t.f3]
set_option maxHeartbeats 2000000 in
theorem of1_calls (t : S60) (k : Int) (bk : Nat) (r : Bool) (m : Int) (w : World) (hb : w.heap[bk]? = some (.cells #[.int .i64 k] 58 (0, 0))) (hm : w.cell? ⟨0, 0, none⟩ = some (.int .i64 m)) (hr : pmay k t = some r) :
    Calls Tryd.prog 67 #[tokV t, .pointer (some ⟨bk, 0, none⟩)] w fun e w' => e = .returned (.bool r) ∧ Below w.heap.size w w' := by
  unfold pmay at hr
  unfold tokV
  have HM := Aside0.mk (cell_alloc hm)
  have x0 : w.cell? ⟨bk, 0, none⟩ = some (.int .i64 k) := (blk_cell hb 0).trans rfl
  have hlt := blk_lt hb
  have hne : bk ≠ w.heap.size := Nat.ne_of_lt hlt
  have hne' : w.heap.size ≠ bk := Ne.symm hne
  have hu58 := Tryd.underlying58
  have hu60 := Tryd.underlying60
  clear hm hb
  by_cases hk : t.f0 = k
  · rw [if_pos hk] at hr
    have e1 : (t.f0 == k) = true := by simpa using hk
    clear hk
    by_cases h0 : k = 0
    · rw [if_pos h0] at hr
      have e2 : (k == 0) = true := by simpa using h0
      obtain ⟨b, hb, rfl⟩ := Option.map_eq_some_iff.mp hr
      have HB := Aside0.mk (show lex_Reserved.f t.f1 = some b from hb)
      clear hr hb h0
      go_enter Tryd.func67, Tryd.ntmps67
      go_wp2_with (go_at_call 68; (with_reducible refine (lex_Reserved.calls _ b _ HB.out m (HM.out _)).mono ?_); rintro e w' ⟨rfl, ⟨nd, rfl⟩⟩)
      go_ret
      exact ⟨by simp, pw_below_drewN (below_alloc (Below.refl _ _) _) _⟩
    · rw [if_neg h0] at hr
      have e2 : (k == 0) = false := by simpa using h0
      cases hr
      clear h0
      go_enter Tryd.func67, Tryd.ntmps67
      go_wp2
      go_ret
      exact ⟨by simp, below_alloc (Below.refl _ _) _⟩
  · rw [if_neg hk] at hr
    have e1 : (t.f0 == k) = false := by simpa using hk
    cases hr
    clear hk
    go_enter Tryd.func67, Tryd.ntmps67
    go_wp2
    go_ret
    exact ⟨by simp, below_alloc (Below.refl _ _) _⟩
/-- The next token, if it may be. -/
def ptake (may : S60 → Option Bool) (T : List S60) (en : Int) : Option (Except PErr (S60 × List S60)) := match T with | [] => some (.error (111, en)) | t :: T' => (may t).map fun b => if b = true then .ok (t, T') else .error (111, t.f3)
set_option maxRecDepth 100000 in
set_option maxHeartbeats 4000000 in
theorem ptake_calls (g G : Nat) (caps : Array Value) (may : S60 → Option Bool) (T : List S60) (en : Int) (r : Except PErr (S60 × List S60)) (w0 w : World) (eg : Enters Tryd.prog G) (h : PsS w0 w w g T en)
    (hp : ∀ t b w1, may t = some b → Below w.heap.size w w1 → Calls Tryd.prog G (#[tokV t] ++ caps) w1 fun e w' => e = .returned (.bool b) ∧ Below w1.heap.size w1 w') (hr : ptake may T en = some r) :
    Calls Tryd.prog 31 #[.pointer (some ⟨g, 0, none⟩), .func (.func G) #[] caps] w (PRes w0 w g en (fun t e _ => e = .returned (tokV t)) r) := by
  cases T with
  | nil =>
    cases hr
    have HS := Aside0.mk h
    obtain ⟨A, c, hbk⟩ := h.empty
    have x0 : w.cell? ⟨g, 0, none⟩ = some (.slice A 0 c) := (blk_cell hbk 0).trans rfl
    have hlt := blk_lt hbk
    have hne : g ≠ w.heap.size := Nat.ne_of_lt hlt
    have hne' : w.heap.size ≠ g := Ne.symm hne
    clear h hbk hp
    unfold Enters at eg
    go_enter Tryd.func31, Tryd.ntmps31
    go_wp2_with (go_at_call 66; (with_reducible refine (pfail_calls g [] en 111 w0 _ (HS.out.alloc _).start).mono ?_); rintro e w2 ⟨rfl, h2⟩; exact ⟨rfl, (HS.out.alloc _).bad ⟨rfl, h2⟩⟩)
  | cons t T =>
    have HS := Aside0.mk h
    obtain ⟨ad, c, hbk, hc, hC, y0, y1, y2, y3⟩ := h.head
    have x0 : w.cell? ⟨g, 0, none⟩ = some (.slice (some ad) (t :: T).length c) := (blk_cell hbk 0).trans rfl
    have z0 := blk_frozen hbk 0
    have hlt := blk_lt hbk
    have hne : g ≠ w.heap.size := Nat.ne_of_lt hlt
    have hne' : w.heap.size ≠ g := Ne.symm hne
    have hll : 1 ≤ (t :: T).length := by simp
    have hlT : (t :: T).length - 1 = T.length := by simp
    have HLT := Aside0.mk hlT
    have HC := Aside0.mk (And.intro hc hC)
    have hbk2 := hbk
    have HP := Aside0.mk hp
    have y0 := cell_alloc y0
    have y1 := cell_alloc y1
    have y2 := cell_alloc y2
    have y3 := cell_alloc y3
    clear h hbk hC hlT hp
    simp only [ptake] at hr
    obtain ⟨b, hb, rfl⟩ := Option.map_eq_some_iff.mp hr
    have HB := Aside0.mk hb
    clear hr hb
    unfold Enters at eg
    generalize hnn : (t :: T).length = n at *
    have hnn := Aside0.mk hnn
    have d1 : (1 : Int) ≤ (n : Int) := by omega
    have d0 : (0 : Int) < (n : Int) := by omega
    have d2 : ((n : Int) == 0) = false := by simp; omega
    cases b with
    | false =>
      go_enter Tryd.func31, Tryd.ntmps31
      go_wp2_with (first | (go_at_fn G; refine (HP.out t _ _ HB.out (below_alloc (Below.refl _ _) _)).mono ?_; rintro e w1 ⟨rfl, h1⟩; have H1 := Aside0.mk ((HS.out.alloc _).below h1); clear h1) | (go_at_call 66; (with_reducible refine (pfail_calls g _ en 111 w0 _ H1.out.start).mono ?_); rintro e w2 ⟨rfl, h2⟩; exact ⟨rfl, H1.out.bad ⟨rfl, h2⟩⟩))
    | true =>
      have HBK2 := Aside0.mk (fun o => blk_alloc hbk2 o)
      have HLTn := Aside0.mk hlt
      have HN := Aside0.mk (fun o => blk_new w o)
      have HGE := Aside0.mk (Nat.le_trans HS.out.bel.size (Nat.le_refl _))
      go_enter Tryd.func31, Tryd.ntmps31
      go_upto_region 3 with (first | (go_at_fn G; refine (HP.out t _ _ HB.out (below_alloc (Below.refl _ _) _)).mono ?_; rintro e w1 ⟨rfl, h1⟩; have H1 := Aside0.mk ((HS.out.alloc _).below h1); have Y0 := pw_cell_below h1 (y0 _); have Y1 := pw_cell_below h1 (y1 _); have Y2 := pw_cell_below h1 (y2 _); have Y3 := pw_cell_below h1 (y3 _); have B1 := Aside0.mk (blk_below (HBK2.out _) h1); have R1 := Aside0.mk (blk_below (HN.out _) h1); clear h1))
      clear x0 z0 y0 y1 y2 y3 hlt hne hne' hbk2
      have y0 := cell_alloc Y0
      have y1 := cell_alloc Y1
      have y2 := cell_alloc Y2
      have y3 := cell_alloc Y3
      have x0 := (blk_cell B1.out 0).trans rfl
      have hlt1 := blk_lt B1.out
      have hne : g ≠ w1.heap.size := Nat.ne_of_lt hlt1
      have hne' : w1.heap.size ≠ g := Ne.symm hne
      go_upto_region 4 with (fail)
      generalize hW : World.alloc w1 _ = W2
      have H2 := Aside0.mk (show PsS w0 w W2 g (t :: T) en from by rw [← hW]; exact H1.out.alloc _)
      have B2 := Aside0.mk (show W2.heap[g]? = some (.cells #[.slice (some ad) n c, .int .i64 en] 44 (0, 0)) from by rw [← hW]; exact blk_alloc B1.out _)
      have R2 := Aside0.mk (show W2.heap[w.heap.size]? = some (.cells #[.int .i64 0, .string ⟨#[]⟩, .int .i64 0, .int .i64 0] 60 (0, 0)) from by rw [← hW]; exact blk_alloc R1.out _)
      have T2 := Aside0.mk (show W2.heap[w1.heap.size]? = some (.cells #[.int .i64 t.f0, .string t.f1, .int .i64 t.f2, .int .i64 t.f3] 60 (0, 0)) from by rw [← hW]; exact blk_new _ _)
      have NE1 := Aside0.mk hne
      have NE2 := Aside0.mk (Nat.ne_of_lt (blk_lt R1.out))
      generalize w1.heap.size = bt at *
      clear hW Y0 Y1 Y2 Y3 y0 y1 y2 y3 x0 hlt1 hne hne'
      have x0 := (blk_cell B2.out 0).trans rfl
      have z0 := blk_frozen B2.out 0
      have HX := Aside0.mk (H2.out.cut (by rw [hnn.out]; exact B2.out) (by rw [hnn.out]; exact hc) (by rw [hnn.out]; exact HC.out.2))
      have NE3 := Aside0.mk (Nat.ne_of_lt HLTn.out).symm
      go_upto_region 5 with (fail)
      generalize hW : World.setCell W2 _ _ = W3
      have H3 := Aside0.mk (show PsS w0 w W3 g T en from by rw [← hW]; have := HX.out; rw [← HLT.out] at this; exact this)
      have R3 := Aside0.mk (show W3.heap[w.heap.size]? = some (.cells #[.int .i64 0, .string ⟨#[]⟩, .int .i64 0, .int .i64 0] 60 (0, 0)) from by rw [← hW]; exact blk_far R2.out NE3.out _)
      have T3 := Aside0.mk (show W3.heap[bt]? = some (.cells #[.int .i64 t.f0, .string t.f1, .int .i64 t.f2, .int .i64 t.f3] 60 (0, 0)) from by rw [← hW]; exact blk_far T2.out NE1.out.symm _)
      clear hW x0 z0 HX H1 H2 B1 B2 R1 R2 T2
      have t0 := (blk_cell T3.out 0).trans rfl
      have t1 := (blk_cell T3.out 1).trans rfl
      have t2 := (blk_cell T3.out 2).trans rfl
      have t3 := (blk_cell T3.out 3).trans rfl
      have r0 := (blk_cell R3.out 0).trans rfl
      have r1 := (blk_cell R3.out 1).trans rfl
      have r2 := (blk_cell R3.out 2).trans rfl
      have r3 := (blk_cell R3.out 3).trans rfl
      have z0 := blk_frozen R3.out 0
      have z1 := blk_frozen R3.out 1
      have z2 := blk_frozen R3.out 2
      have z3 := blk_frozen R3.out 3
      have ne2 := NE2.out
      have hu60 := Tryd.underlying60
      go_wp2
      all_goals exact bodyPost_ret (results_cell_row rfl _ _ _ 60 #[.int .i64 t.f0, .string t.f1, .int .i64 t.f2, .int .i64 t.f3] (0, 0) _ rfl (blk_put (blk_put (blk_put (blk_put R3.out 0 _ rfl) 1 _ rfl) 2 _ rfl) 3 _ rfl) Tryd.underlying60 rfl (by kernel_rfl)) rfl ⟨rfl, (((H3.out.far NE3.out.symm (Nat.le_refl _) HGE.out _).far NE3.out.symm (Nat.le_refl _) HGE.out _).far NE3.out.symm (Nat.le_refl _) HGE.out _).far NE3.out.symm (Nat.le_refl _) HGE.out _⟩
end Go.Proofs.YtknbfhhmjbnemaaDoor.P
end
section
namespace Go.Proofs.YtknbfhhmjbnemaaDoor.P
open Go.RowKit Go.Proofs.YtknbfhhmjbnemaaDoorW.PrintWords Go.Proofs.YtknbfhhmjbnemaaDoorW.PrintLast Go.Proofs.YtknbfhhmjbnemaaDoorW.PrintMore
set_option linter.unusedVariables false
set_option linter.unusedSimpArgs false

/-- A token of a kind, no reserved word. -/
def pof (T : List S60) (en k : Int) : Option (Except PErr (S60 × List S60)) := ptake (pmay k) T en
set_option maxHeartbeats 4000000 in
theorem pof_calls (g : Nat) (T : List S60) (en k : Int) (r : Except PErr (S60 × List S60)) (w0 w : World) (h : PsS w0 w w g T en) (hr : pof T en k = some r) :
    Calls Tryd.prog 35 #[.pointer (some ⟨g, 0, none⟩), .int .i64 k] w (PRes w0 w g en (fun t e _ => e = .returned (tokV t)) r) := by
  have HS := Aside0.mk h
  have HR := Aside0.mk (show ptake (pmay k) T en = some r from hr)
  clear h hr
  have eg : Enters Tryd.prog 67 := enters_of Tryd.func67 (by kernel_rfl) rfl
  have EG := Aside0.mk eg
  clear eg
  obtain ⟨m, hm⟩ := HS.out.cell
  have HM := Aside0.mk hm
  clear hm
  have HS1 := Aside0.mk ((HS.out.alloc (.cells #[.int .i64 k] 58 (0, 0))).alloc (.cells #[.int .i64 0, .string ⟨#[]⟩, .int .i64 0, .int .i64 0] 60 (0, 0)))
  have HK := Aside0.mk (blk_alloc (blk_new w (.cells #[.int .i64 k] 58 (0, 0))) (.cells #[.int .i64 0, .string ⟨#[]⟩, .int .i64 0, .int .i64 0] 60 (0, 0)))
  have HZ := Aside0.mk (show ((w.alloc (.cells #[.int .i64 k] 58 (0, 0))).alloc (.cells #[.int .i64 0, .string ⟨#[]⟩, .int .i64 0, .int .i64 0] 60 (0, 0))).heap[w.heap.size + 1]? = some _ from (by have := blk_new (w.alloc (.cells #[.int .i64 k] 58 (0, 0))) (.cells #[.int .i64 0, .string ⟨#[]⟩, .int .i64 0, .int .i64 0] 60 (0, 0)); rwa [World.size_alloc] at this))
  have HM2 := Aside0.mk (cell_alloc (cell_alloc HM.out (.cells #[.int .i64 k] 58 (0, 0))) (.cells #[.int .i64 0, .string ⟨#[]⟩, .int .i64 0, .int .i64 0] 60 (0, 0)))
  have HG := Aside0.mk (show g ≠ w.heap.size + 1 from by have := HS.out.lt; omega)
  have HG0 := Aside0.mk (show w0.heap.size ≤ w.heap.size + 1 from by have := HS.out.bel.size; omega)
  have hu60 := Tryd.underlying60
  go_enter Tryd.func35, Tryd.ntmps35
  go_wp2_with (go_at_call 31; (with_reducible refine (ptake_calls g 67 _ (pmay k) T en r w0 _ EG.out HS1.out.start (fun t b w1 hb hB => of1_calls t k _ b m w1 (blk_below HK.out hB) (pw_cell_below hB HM2.out) hb) HR.out).mono ?_); rintro e w2 h2; rcases r with x | ⟨t, T'⟩; (obtain ⟨rfl, h3⟩ := h2; exact ⟨rfl, HS1.out.bad ⟨rfl, h3⟩⟩); (obtain ⟨rfl, h3⟩ := h2; unfold tokV; have H3 := Aside0.mk (HS1.out.call h3); have R3 := Aside0.mk (h3.kb.blk HZ.out HG.out.symm (by simp)); clear h3 HS1 HK HZ HM2; have r0 := (blk_cell R3.out 0).trans rfl; have z0 := blk_frozen R3.out 0; have r1 := (blk_cell R3.out 1).trans rfl; have z1 := blk_frozen R3.out 1; have r2 := (blk_cell R3.out 2).trans rfl; have z2 := blk_frozen R3.out 2; have r3 := (blk_cell R3.out 3).trans rfl; have z3 := blk_frozen R3.out 3))
  exact bodyPost_ret (results_cell_row rfl _ _ _ 60 #[.int .i64 t.f0, .string t.f1, .int .i64 t.f2, .int .i64 t.f3] (0, 0) _ rfl (blk_put (blk_put (blk_put (blk_put R3.out 0 _ rfl) 1 _ rfl) 2 _ rfl) 3 _ rfl) Tryd.underlying60 rfl (by kernel_rfl)) rfl ⟨rfl, (((H3.out.far HG.out (by omega) HG0.out _).far HG.out (by omega) HG0.out _).far HG.out (by omega) HG0.out _).far HG.out (by omega) HG0.out _⟩
def pnumN (t : S60) : S25 := ⟨⟨#[110, 117, 109]⟩, ⟨#[]⟩, t.f2, t.f3, []⟩
def pnameN (t : S60) : S25 := ⟨⟨#[110, 97, 109, 101]⟩, t.f1, 0, t.f3, []⟩
def leafV (n : S25) : Value := .agg #[.string n.f0, .string n.f1, .int .i64 n.f2, .int .i64 n.f3, .slice none 0 0]
set_option maxRecDepth 100000 in
set_option maxHeartbeats 4000000 in
theorem pnumber_calls (g : Nat) (T : List S60) (en : Int) (r : Except PErr (S60 × List S60)) (w0 w : World) (h : PsS w0 w w g T en) (hr : pof T en 1 = some r) :
    Calls Tryd.prog 34 #[.pointer (some ⟨g, 0, none⟩)] w (PRes w0 w g en (fun t e _ => e = .returned (leafV (pnumN t))) r) := by
  have HS1 := Aside0.mk (h.alloc (.cells #[.string (⟨#[]⟩ : ByteArray), .string (⟨#[]⟩ : ByteArray), .int .i64 0, .int .i64 0, .slice none 0 0] 25 (0, 0)))
  have HZ := Aside0.mk (blk_new w (.cells #[.string (⟨#[]⟩ : ByteArray), .string (⟨#[]⟩ : ByteArray), .int .i64 0, .int .i64 0, .slice none 0 0] 25 (0, 0)))
  have HG := Aside0.mk (show g ≠ w.heap.size from by have := h.lt; omega)
  have HG0 := Aside0.mk (show w0.heap.size ≤ w.heap.size from h.bel.size)
  have HR := Aside0.mk hr
  clear h hr
  have hu25 := Tryd.underlying25
  have hu60 := Tryd.underlying60
  go_enter Tryd.func34, Tryd.ntmps34
  go_wp2_with (go_at_call 35; (with_reducible refine (pof_calls g T en 1 r w0 _ HS1.out.start HR.out).mono ?_); rintro e w2 h2; rcases r with x | ⟨t, T'⟩; (obtain ⟨rfl, h3⟩ := h2; exact ⟨rfl, HS1.out.bad ⟨rfl, h3⟩⟩); (obtain ⟨rfl, h3⟩ := h2; unfold tokV; have H2 := Aside0.mk (HS1.out.call h3); have R2 := Aside0.mk (h3.kb.blk HZ.out HG.out.symm (by simp)); have hne : w.heap.size ≠ w2.heap.size := Nat.ne_of_lt (blk_lt R2.out); have hne' := hne.symm; clear h3 HS1 HZ; have r0 : ∀ o, (w2.alloc o).cell? ⟨w.heap.size, 0, none⟩ = some (.string (⟨#[]⟩ : ByteArray)) := fun o => (blk_cell (blk_alloc R2.out o) 0).trans rfl; have z0 : ∀ o, (w2.alloc o).frozen? ⟨w.heap.size, 0, none⟩ = false := fun o => blk_frozen (blk_alloc R2.out o) 0; have r1 : ∀ o, (w2.alloc o).cell? ⟨w.heap.size, 1, none⟩ = some (.string (⟨#[]⟩ : ByteArray)) := fun o => (blk_cell (blk_alloc R2.out o) 1).trans rfl; have z1 : ∀ o, (w2.alloc o).frozen? ⟨w.heap.size, 1, none⟩ = false := fun o => blk_frozen (blk_alloc R2.out o) 1; have r2 : ∀ o, (w2.alloc o).cell? ⟨w.heap.size, 2, none⟩ = some (.int .i64 0) := fun o => (blk_cell (blk_alloc R2.out o) 2).trans rfl; have z2 : ∀ o, (w2.alloc o).frozen? ⟨w.heap.size, 2, none⟩ = false := fun o => blk_frozen (blk_alloc R2.out o) 2; have r3 : ∀ o, (w2.alloc o).cell? ⟨w.heap.size, 3, none⟩ = some (.int .i64 0) := fun o => (blk_cell (blk_alloc R2.out o) 3).trans rfl; have z3 : ∀ o, (w2.alloc o).frozen? ⟨w.heap.size, 3, none⟩ = false := fun o => blk_frozen (blk_alloc R2.out o) 3; have r4 : ∀ o, (w2.alloc o).cell? ⟨w.heap.size, 4, none⟩ = some (.slice none 0 0) := fun o => (blk_cell (blk_alloc R2.out o) 4).trans rfl; have z4 : ∀ o, (w2.alloc o).frozen? ⟨w.heap.size, 4, none⟩ = false := fun o => blk_frozen (blk_alloc R2.out o) 4))
  exact bodyPost_ret (results_cell_row rfl _ _ _ 25 #[.string (⟨#[110, 117, 109]⟩ : ByteArray), .string (⟨#[]⟩ : ByteArray), .int .i64 t.f2, .int .i64 t.f3, .slice none 0 0] (0, 0) _ rfl (blk_put (blk_put (blk_put (blk_put (blk_put (blk_alloc R2.out _) 0 _ rfl) 1 _ rfl) 2 _ rfl) 3 _ rfl) 4 _ rfl) Tryd.underlying25 rfl (by kernel_rfl)) rfl ⟨rfl, ((((((H2.out.alloc _).far HG.out (by omega) HG0.out _).far HG.out (by omega) HG0.out _).far HG.out (by omega) HG0.out _).far HG.out (by omega) HG0.out _).far HG.out (by omega) HG0.out _)⟩
set_option maxRecDepth 100000 in
set_option maxHeartbeats 4000000 in
theorem pname_calls (g : Nat) (T : List S60) (en : Int) (r : Except PErr (S60 × List S60)) (w0 w : World) (h : PsS w0 w w g T en) (hr : pof T en 0 = some r) :
    Calls Tryd.prog 33 #[.pointer (some ⟨g, 0, none⟩)] w (PRes w0 w g en (fun t e _ => e = .returned (leafV (pnameN t))) r) := by
  have HS1 := Aside0.mk (h.alloc (.cells #[.string (⟨#[]⟩ : ByteArray), .string (⟨#[]⟩ : ByteArray), .int .i64 0, .int .i64 0, .slice none 0 0] 25 (0, 0)))
  have HZ := Aside0.mk (blk_new w (.cells #[.string (⟨#[]⟩ : ByteArray), .string (⟨#[]⟩ : ByteArray), .int .i64 0, .int .i64 0, .slice none 0 0] 25 (0, 0)))
  have HG := Aside0.mk (show g ≠ w.heap.size from by have := h.lt; omega)
  have HG0 := Aside0.mk (show w0.heap.size ≤ w.heap.size from h.bel.size)
  have HR := Aside0.mk hr
  clear h hr
  have hu25 := Tryd.underlying25
  have hu60 := Tryd.underlying60
  go_enter Tryd.func33, Tryd.ntmps33
  go_wp2_with (go_at_call 35; (with_reducible refine (pof_calls g T en 0 r w0 _ HS1.out.start HR.out).mono ?_); rintro e w2 h2; rcases r with x | ⟨t, T'⟩; (obtain ⟨rfl, h3⟩ := h2; exact ⟨rfl, HS1.out.bad ⟨rfl, h3⟩⟩); (obtain ⟨rfl, h3⟩ := h2; unfold tokV; have H2 := Aside0.mk (HS1.out.call h3); have R2 := Aside0.mk (h3.kb.blk HZ.out HG.out.symm (by simp)); have hne : w.heap.size ≠ w2.heap.size := Nat.ne_of_lt (blk_lt R2.out); have hne' := hne.symm; clear h3 HS1 HZ; have r0 : ∀ o, (w2.alloc o).cell? ⟨w.heap.size, 0, none⟩ = some (.string (⟨#[]⟩ : ByteArray)) := fun o => (blk_cell (blk_alloc R2.out o) 0).trans rfl; have z0 : ∀ o, (w2.alloc o).frozen? ⟨w.heap.size, 0, none⟩ = false := fun o => blk_frozen (blk_alloc R2.out o) 0; have r1 : ∀ o, (w2.alloc o).cell? ⟨w.heap.size, 1, none⟩ = some (.string (⟨#[]⟩ : ByteArray)) := fun o => (blk_cell (blk_alloc R2.out o) 1).trans rfl; have z1 : ∀ o, (w2.alloc o).frozen? ⟨w.heap.size, 1, none⟩ = false := fun o => blk_frozen (blk_alloc R2.out o) 1; have r2 : ∀ o, (w2.alloc o).cell? ⟨w.heap.size, 2, none⟩ = some (.int .i64 0) := fun o => (blk_cell (blk_alloc R2.out o) 2).trans rfl; have z2 : ∀ o, (w2.alloc o).frozen? ⟨w.heap.size, 2, none⟩ = false := fun o => blk_frozen (blk_alloc R2.out o) 2; have r3 : ∀ o, (w2.alloc o).cell? ⟨w.heap.size, 3, none⟩ = some (.int .i64 0) := fun o => (blk_cell (blk_alloc R2.out o) 3).trans rfl; have z3 : ∀ o, (w2.alloc o).frozen? ⟨w.heap.size, 3, none⟩ = false := fun o => blk_frozen (blk_alloc R2.out o) 3; have r4 : ∀ o, (w2.alloc o).cell? ⟨w.heap.size, 4, none⟩ = some (.slice none 0 0) := fun o => (blk_cell (blk_alloc R2.out o) 4).trans rfl; have z4 : ∀ o, (w2.alloc o).frozen? ⟨w.heap.size, 4, none⟩ = false := fun o => blk_frozen (blk_alloc R2.out o) 4))
  exact bodyPost_ret (results_cell_row rfl _ _ _ 25 #[.string (⟨#[110, 97, 109, 101]⟩ : ByteArray), .string t.f1, .int .i64 0, .int .i64 t.f3, .slice none 0 0] (0, 0) _ rfl (blk_put (blk_put (blk_put (blk_put (blk_put (blk_alloc R2.out _) 0 _ rfl) 1 _ rfl) 2 _ rfl) 3 _ rfl) 4 _ rfl) Tryd.underlying25 rfl (by kernel_rfl)) rfl ⟨rfl, ((((((H2.out.alloc _).far HG.out (by omega) HG0.out _).far HG.out (by omega) HG0.out _).far HG.out (by omega) HG0.out _).far HG.out (by omega) HG0.out _).far HG.out (by omega) HG0.out _)⟩
end Go.Proofs.YtknbfhhmjbnemaaDoor.P
end
section
namespace Go.Proofs.YtknbfhhmjbnemaaDoor.P
open Go.RowKit Go.Proofs.YtknbfhhmjbnemaaDoorW.PrintWords Go.Proofs.YtknbfhhmjbnemaaDoorW.PrintLast Go.Proofs.YtknbfhhmjbnemaaDoorW.PrintMore
set_option linter.unusedVariables false
set_option linter.unusedSimpArgs false

abbrev PR (α : Type) := Option (Except PErr (α × List S60))
/-- One after the other; a fault ends it. -/
def pbd {α β : Type} (x : PR α) (f : α → List S60 → PR β) : PR β := match x with | none => none | some (.error e) => some (.error e) | some (.ok (a, T)) => f a T
theorem pbd_inv {α β : Type} {x : PR α} {f : α → List S60 → PR β} {r : Except PErr (β × List S60)} (h : pbd x f = some r) : (∃ e, x = some (.error e) ∧ r = .error e) ∨ ∃ a T, x = some (.ok (a, T)) ∧ f a T = some r := by
  unfold pbd at h
  split at h
  · cases h
  · rename_i e
    cases h
    exact .inl ⟨e, rfl, rfl⟩
  · rename_i a T
    exact .inr ⟨a, T, rfl, h⟩
theorem LeO.pbd {α β : Type} {x x' : PR α} {f f' : α → List S60 → PR β} (h : LeO x x') (k : ∀ a T, LeO (f a T) (f' a T)) : LeO (P.pbd x f) (P.pbd x' f') := by
  intro r hr
  rcases pbd_inv hr with ⟨e, hx, rfl⟩ | ⟨a, T, hx, hf⟩
  · rw [h _ hx]; rfl
  · rw [h _ hx]; exact k a T r hf
def ptarget (s : ByteArray) : Bool := (parse_target.f s).getD false
theorem ptarget_eq (s : ByteArray) : parse_target.f s = some (ptarget s) := by
  unfold ptarget parse_target.f
  repeat' split
  all_goals rfl
def ptgt (T : List S60) : Bool := match T with | [] => false | t :: _ => (t.f0 == 0) && ptarget t.f1
abbrev LP : ByteArray := ⟨#[40]⟩
abbrev RP : ByteArray := ⟨#[41]⟩
abbrev CM : ByteArray := ⟨#[44]⟩
mutual
def pexpr : Nat → List S60 → Int → Int → PR S25
  | 0, _, _, _ => none
  | k + 1, T, en, nest =>
    if nest < 0 ∨ nest > 100 then none
    else if nest > 12 then some (.error (112, pplace T en))
    else if ptgt T = true then
      pbd (some (pmust T.tail en LP)) fun _ T1 =>
      pbd (pexpr k T1 en (nest + 1)) fun first T2 =>
      pbd (if (T.headD z60).f1.toList = ([108, 105, 110, 101, 97, 114] : List UInt8) then
          pbd (some (pmust T2 en CM)) fun _ T3 => pbd (pof T3 en 1) fun a T4 => pbd (some (pmust T4 en CM)) fun _ T5 => pbd (pof T5 en 1) fun b T6 => some (.ok ([first] ++ [pnumN a] ++ [pnumN b], T6))
        else if (T.headD z60).f1.toList = ([115, 110, 97, 112, 115, 104, 111, 116] : List UInt8) then
          pbd (some (pmust T2 en CM)) fun _ T3 => pbd (pexpr k T3 en (nest + 1)) fun a T4 => pbd (some (pmust T4 en CM)) fun _ T5 => pbd (pof T5 en 1) fun b T6 => some (.ok ([first] ++ [a] ++ [pnumN b], T6))
        else if (T.headD z60).f1.toList = ([99, 114, 121, 112, 116] : List UInt8) ∨ (T.headD z60).f1.toList = ([105, 110, 116, 101, 103, 114, 105, 116, 121] : List UInt8) ∨ (T.headD z60).f1.toList = ([118, 101, 114, 105, 116, 121] : List UInt8) then
          pbd (some (pmust T2 en CM)) fun _ T3 => pbd (pof T3 en 0) fun a T4 => some (.ok ([first] ++ [pnameN a], T4))
        else pexprs k T2 en nest [first]) fun L T3 =>
      pbd (some (pmust T3 en RP)) fun _ T4 => some (.ok (⟨(T.headD z60).f1, ⟨#[]⟩, 0, pplace T en, L⟩, T4))
    else pbd (pof T en 0) fun t T1 => some (.ok (⟨(⟨#[117, 115, 101]⟩ : ByteArray), t.f1, 0, t.f3, []⟩, T1))
def pexprs : Nat → List S60 → Int → Int → List S25 → PR (List S25)
  | 0, _, _, _, _ => none
  | k + 1, T, en, nest, acc =>
    if acc.length ≤ 1000000 then
      if pis T CM = true then pbd (pexpr k T.tail en (nest + 1)) fun a T1 => pexprs k T1 en nest (acc ++ [a])
      else some (.ok (acc, T))
    else none
end
/-- What follows a target's word. -/
def pexprT (k : Nat) (t : S60) (T : List S60) (en nest : Int) : PR S25 :=
  pbd (some (pmust T en LP)) fun _ T1 =>
  pbd (pexpr k T1 en (nest + 1)) fun first T2 =>
  pbd (if t.f1.toList = ([108, 105, 110, 101, 97, 114] : List UInt8) then
      pbd (some (pmust T2 en CM)) fun _ T3 => pbd (pof T3 en 1) fun a T4 => pbd (some (pmust T4 en CM)) fun _ T5 => pbd (pof T5 en 1) fun b T6 => some (.ok ([first] ++ [pnumN a] ++ [pnumN b], T6))
    else if t.f1.toList = ([115, 110, 97, 112, 115, 104, 111, 116] : List UInt8) then
      pbd (some (pmust T2 en CM)) fun _ T3 => pbd (pexpr k T3 en (nest + 1)) fun a T4 => pbd (some (pmust T4 en CM)) fun _ T5 => pbd (pof T5 en 1) fun b T6 => some (.ok ([first] ++ [a] ++ [pnumN b], T6))
    else if t.f1.toList = ([99, 114, 121, 112, 116] : List UInt8) ∨ t.f1.toList = ([105, 110, 116, 101, 103, 114, 105, 116, 121] : List UInt8) ∨ t.f1.toList = ([118, 101, 114, 105, 116, 121] : List UInt8) then
      pbd (some (pmust T2 en CM)) fun _ T3 => pbd (pof T3 en 0) fun a T4 => some (.ok ([first] ++ [pnameN a], T4))
    else pexprs k T2 en nest [first]) fun L T3 =>
  pbd (some (pmust T3 en RP)) fun _ T4 => some (.ok (⟨t.f1, ⟨#[]⟩, 0, t.f3, L⟩, T4))
theorem pmust_bad {T : List S60} {en : Int} {s : ByteArray} {x : PErr} (hm : some (pmust T en s) = some (.error x)) (g : Nat) (w0 w : World) (h : PsS w0 w w g T en) : Calls Tryd.prog 36 #[.pointer (some ⟨g, 0, none⟩), .string s] w (PBad w0 w g x) := (pmust_calls g T en s w0 w h).mono (by
  intro e w' h
  rw [Option.some.inj hm] at h
  exact h)
theorem pmust_ok {T T1 : List S60} {en : Int} {s : ByteArray} {u : Unit} (hm : some (pmust T en s) = some (.ok (u, T1))) (g : Nat) (w0 w : World) (h : PsS w0 w w g T en) : Calls Tryd.prog 36 #[.pointer (some ⟨g, 0, none⟩), .string s] w fun e w' => e = .returned (.tuple #[]) ∧ PsS w0 w w' g T1 en := (pmust_calls g T en s w0 w h).mono (by
  intro e w' h
  rw [Option.some.inj hm] at h
  exact h)
theorem pexpr_mono : ∀ k, (∀ T en nest, LeO (pexpr k T en nest) (pexpr (k + 1) T en nest)) ∧ (∀ T en nest acc, LeO (pexprs k T en nest acc) (pexprs (k + 1) T en nest acc))
  | 0 => ⟨fun _ _ _ r h => by simp [pexpr] at h, fun _ _ _ _ r h => by simp [pexprs] at h⟩
  | k + 1 => by
    obtain ⟨ih1, ih2⟩ := pexpr_mono k
    constructor
    · intro T en nest
      rw [pexpr, pexpr]
      repeat' first
        | (with_reducible exact ih1 _ _ _)
        | (with_reducible exact ih2 _ _ _ _)
        | (with_reducible exact LeO.refl _)
        | (with_reducible exact LeO.none _)
        | (with_reducible refine LeO.ite ?_ ?_)
        | (with_reducible refine LeO.pbd ?_ (fun _ _ => ?_))
    · intro T en nest acc
      rw [pexprs, pexprs]
      repeat' first
        | (with_reducible exact ih1 _ _ _)
        | (with_reducible exact ih2 _ _ _ _)
        | (with_reducible exact LeO.refl _)
        | (with_reducible exact LeO.none _)
        | (with_reducible refine LeO.ite ?_ ?_)
        | (with_reducible refine LeO.pbd ?_ (fun _ _ => ?_))

/-- Where parser.expr stands, its node made. -/
structure ExP (w0 w W : World) (g : Nat) (T : List S60) (en : Int) (b4 bn : Nat) (op ss : ByteArray) (nn pl : Int) (Lv : Value) (L : List S25) : Prop where
  rs : PsS w0 w W g T en
  r4 : W.heap[b4]? = some (.cells #[.string ⟨#[]⟩, .string ⟨#[]⟩, .int .i64 0, .int .i64 0, .slice none 0 0] 25 (0, 0))
  nb : W.heap[bn]? = some (.cells #[.string op, .string ss, .int .i64 nn, .int .i64 pl, Lv] 25 (0, 0))
  row : Kd.N k25 25 W w.heap.size (fun k => w.heap.size ≤ k ∧ k ≠ b4 ∧ k ≠ bn) Lv L
  g4 : w.heap.size ≤ b4
  gn : w.heap.size ≤ bn
  ne : b4 ≠ bn
  gg : g < w.heap.size
  ww : w0.heap.size ≤ w.heap.size
section
variable {w0 w W W1 : World} {g b4 bn : Nat} {T T' : List S60} {en en' nn pl : Int} {op ss : ByteArray} {Lv : Value} {L : List S25}
theorem ExP.below (h : ExP w0 w W g T en b4 bn op ss nn pl Lv L) (hb : Below W.heap.size W W1) : ExP w0 w W1 g T en b4 bn op ss nn pl Lv L :=
  ⟨h.rs.below hb, blk_below h.r4 hb, blk_below h.nb hb, Kd.N_below h.row hb, h.g4, h.gn, h.ne, h.gg, h.ww⟩
theorem ExP.call (h : ExP w0 w W g T en b4 bn op ss nn pl Lv L) (h1 : PsS w0 W W1 g T' en) : ExP w0 w W1 g T' en b4 bn op ss nn pl Lv L :=
  ⟨h.rs.call h1, h1.kb.blk h.r4 (by have := h.g4; have := h.gg; omega) (by simp), h1.kb.blk h.nb (by have := h.gn; have := h.gg; omega) (by simp), Kd.N_keep h.row h1.kb (fun k hk => by have := h.gg; omega), h.g4, h.gn, h.ne, h.gg, h.ww⟩
theorem ExP.lt (h : ExP w0 w W g T en b4 bn op ss nn pl Lv L) : b4 < W.heap.size ∧ bn < W.heap.size ∧ ∀ k, Lv.ownBlock = some k → k < W.heap.size ∧ w.heap.size ≤ k ∧ k ≠ b4 ∧ k ≠ bn := ⟨blk_lt h.r4, blk_lt h.nb, fun k hk => ⟨Kd.N_lt h.row k hk, h.row.1 k hk⟩⟩
/-- A field of the node's turned. -/
theorem ExP.set_ (h : ExP w0 w W g T en b4 bn op ss nn pl Lv L) (j : Nat) (u : Value) {op' ss' : ByteArray} {nn' pl' : Int} (hj : (#[.string op, .string ss, .int .i64 nn, .int .i64 pl, Lv] : Array Value).setIfInBounds j u = #[.string op', .string ss', .int .i64 nn', .int .i64 pl', Lv]) : ExP w0 w (W.setCell ⟨bn, j, none⟩ u) g T en b4 bn op' ss' nn' pl' Lv L :=
  ⟨h.rs.far (by have := h.gg; have := h.gn; omega) h.gn (Nat.le_trans h.ww h.gn) _, blk_far (p := ⟨bn, j, none⟩) h.r4 h.ne _, blk_put h.nb j u hj, Kd.N_far (p := ⟨bn, j, none⟩) h.row (fun k hk => hk.2.2) _, h.g4, h.gn, h.ne, h.gg, h.ww⟩
/-- A row of its own was made for the node. -/
theorem ExP.setL {Lv1 : Value} {ys : List S25} (h : ExP w0 w W g T en b4 bn op ss nn pl Lv L) (hr : Kd.N k25 25 W w.heap.size (fun k => w.heap.size ≤ k ∧ k ≠ b4 ∧ k ≠ bn) Lv1 ys) : ExP w0 w (W.setCell ⟨bn, 4, none⟩ Lv1) g T en b4 bn op ss nn pl Lv1 ys :=
  ⟨h.rs.far (by have := h.gg; have := h.gn; omega) h.gn (Nat.le_trans h.ww h.gn) _, blk_far (p := ⟨bn, 4, none⟩) h.r4 h.ne _, blk_put h.nb 4 _ rfl, Kd.N_far (p := ⟨bn, 4, none⟩) hr (fun k hk => hk.2.2) _, h.g4, h.gn, h.ne, h.gg, h.ww⟩
/-- Elements were appended to the node's row. -/
theorem ExP.grown {Lv1 : Value} {ys : List S25} (h : ExP w0 w W g T en b4 bn op ss nn pl Lv L) (hr : Kd.N k25 25 W1 w.heap.size (fun k => w.heap.size ≤ k ∧ k ≠ b4 ∧ k ≠ bn) Lv1 (L ++ ys)) (hg : W.grownBy W1 Lv.ownBlock) : PsS w0 w W1 g T en ∧ W1.heap[b4]? = some (.cells #[.string ⟨#[]⟩, .string ⟨#[]⟩, .int .i64 0, .int .i64 0, .slice none 0 0] 25 (0, 0)) ∧ W1.heap[bn]? = some (.cells #[.string op, .string ss, .int .i64 nn, .int .i64 pl, Lv] 25 (0, 0)) := by
  have hl := h.lt.2.2
  exact ⟨h.rs.grown hg (fun e => by have := (hl _ e.symm).2.1; have := h.gg; omega) (fun k hk => ⟨(hl k hk).2.1, Nat.le_trans h.ww (hl k hk).2.1⟩), blk_grown h.r4 hg (fun e => (hl _ e.symm).2.2.1 rfl), blk_grown h.nb hg (fun e => (hl _ e.symm).2.2.2 rfl)⟩
/-- .. and the node has the row again. -/
theorem ExP.append {Lv1 : Value} {ys : List S25} (h : ExP w0 w W g T en b4 bn op ss nn pl Lv L) (hr : Kd.N k25 25 W1 w.heap.size (fun k => w.heap.size ≤ k ∧ k ≠ b4 ∧ k ≠ bn) Lv1 (L ++ ys)) (hg : W.grownBy W1 Lv.ownBlock) : ExP w0 w (W1.setCell ⟨bn, 4, none⟩ Lv1) g T en b4 bn op ss nn pl Lv1 (L ++ ys) := by
  obtain ⟨h1, h2, h3⟩ := h.grown hr hg
  exact ⟨h1.far (by have := h.gg; have := h.gn; omega) h.gn (Nat.le_trans h.ww h.gn) _, blk_far (p := ⟨bn, 4, none⟩) h2 h.ne _, blk_put h3 4 _ rfl, Kd.N_far (p := ⟨bn, 4, none⟩) hr (fun k hk => hk.2.2) _, h.g4, h.gn, h.ne, h.gg, h.ww⟩
end
/-- A node that is handed back: its parts are new. -/
def nodeR (w : World) (n : S25) (e : Ending) (w' : World) : Prop := ∃ v, e = .returned (.agg #[.string n.f0, .string n.f1, .int .i64 n.f2, .int .i64 n.f3, v]) ∧ Kd.N k25 25 w' w.heap.size (fun k => w.heap.size ≤ k) v n.f4
theorem FKp_node {W : World} {base : Nat} {ok : Nat → Prop} {x : S25} {A : Option Addr} {c : Nat} (h : Kd.N k25 25 W base ok (.slice A x.f4.length c) x.f4) : Kd.FK k25 W ok x [.string x.f0, .string x.f1, .int .i64 x.f2, .int .i64 x.f3, .slice A x.f4.length c] := k25_mkF W ok x (Kd.N_reads' h).2.1 (Kd.N_F h)
def PexprOk (k : Nat) : Prop := ∀ (g : Nat) (T : List S60) (en nest : Int) (r : Except PErr (S25 × List S60)) (w0 w : World), PsS w0 w w g T en → pexpr k T en nest = some r →
  Calls Tryd.prog 37 #[.pointer (some ⟨g, 0, none⟩), .int .i64 nest] w (PRes w0 w g en (nodeR w) r)
theorem PexprOk.use {k : Nat} (h : PexprOk k) (g : Nat) (T : List S60) (en nest : Int) (r : Except PErr (S25 × List S60)) (w0 w : World) (hI : PsS w0 w w g T en) (hr : pexpr k T en nest = some r) :
  Calls Tryd.prog 37 #[.pointer (some ⟨g, 0, none⟩), .int .i64 nest] w (PRes w0 w g en (nodeR w) r) := h g T en nest r w0 w hI hr
theorem pnumber_node (g : Nat) (T : List S60) (en : Int) (r : Except PErr (S60 × List S60)) (w0 w : World) (h : PsS w0 w w g T en) (hr : pof T en 1 = some r) :
    Calls Tryd.prog 34 #[.pointer (some ⟨g, 0, none⟩)] w (PRes w0 w g en (fun t => nodeR w (pnumN t)) r) := (pnumber_calls g T en r w0 w h hr).mono (by
  intro e w' h
  cases r with
  | error x => exact h
  | ok q => exact ⟨⟨_, h.1, Kd.N_nil _ _ _ _ _⟩, h.2⟩)
theorem pname_node (g : Nat) (T : List S60) (en : Int) (r : Except PErr (S60 × List S60)) (w0 w : World) (h : PsS w0 w w g T en) (hr : pof T en 0 = some r) :
    Calls Tryd.prog 33 #[.pointer (some ⟨g, 0, none⟩)] w (PRes w0 w g en (fun t => nodeR w (pnameN t)) r) := (pname_calls g T en r w0 w h hr).mono (by
  intro e w' h
  cases r with
  | error x => exact h
  | ok q => exact ⟨⟨_, h.1, Kd.N_nil _ _ _ _ _⟩, h.2⟩)
section
variable {P : Program} {ops : Array Oper} {Q : Exit → Act → World → Prop}
/-- A call of a Go function that may throw, as one step of a region that draws. -/
theorem goesP_ {oi : Oper} {N : Option Tmp} {a : Act} {w : World} {K : Act → World → Prop} {f : FuncId} {fn : Func} {as_ : Array Operand} {ts : Array TypeId} {R : Ending → World → Prop} (hf : P.funcs[f]? = some fn) (hname : (fn.name == "runtime.NumGoroutine") = false) (hb : fn.body.isSome = true) (args : Array Value)
    (hw : Region.wanted oi (yielded ops a.tmps) = true) (hN : oi.dst = N) (hop : oi.op = .call { callee := .value (.func f), args := as_, argTypes := ts }) (hargs : as_.map a.eval = args)
    (h : Calls P f args w R) (hR : ∀ e w', R e w' → (∃ c, e = .panicked c ∧ Q (.panic c) a w') ∨ ∃ v, e = .returned v ∧ K (a.put N v) w') : if Region.wanted oi (yielded ops a.tmps) = true then Oper.wp P oi a w K Q else K (a.put N undef) w := by
  rw [if_pos hw]
  subst hN
  have he := enters_ hf hname hb args w
  have hrun : (execOp a.eval oi).run P w = .ok (.enter f args) w := by
    unfold execOp
    simp [hop, resolve, Deferred.ofValue, invoke, Act.eval, hargs, he]
  unfold Oper.wp
  rw [hrun, Oper.upon_enter]
  refine h.mono fun e w'' hh => ?_
  rcases hR e w'' hh with ⟨c, rfl, hq⟩ | ⟨v, rfl, hk⟩
  · exact hq
  · exact hk
end
end Go.Proofs.YtknbfhhmjbnemaaDoor.P
end
section
namespace Go.Proofs.YtknbfhhmjbnemaaDoor.P
open Go.RowKit Go.Proofs.YtknbfhhmjbnemaaDoorW.PrintWords Go.Proofs.YtknbfhhmjbnemaaDoorW.PrintLast Go.Proofs.YtknbfhhmjbnemaaDoorW.PrintMore
set_option linter.unusedVariables false
set_option linter.unusedSimpArgs false

theorem ExP.drew {w0 w W : World} {g b4 bn : Nat} {T : List S60} {en nn pl : Int} {op ss : ByteArray} {Lv : Value} {L : List S25} (h : ExP w0 w W g T en b4 bn op ss nn pl Lv L) : ExP w0 w W.drew g T en b4 bn op ss nn pl Lv L := h.below (below_drew (Below.refl _ _))
theorem ptgt_false {T : List S60} (h : ¬ ptgt T = true) : T = [] ∨ ∃ t T', T = t :: T' ∧ (¬ t.f0 = 0 ∨ t.f0 = 0 ∧ ptarget t.f1 = false) := by
  cases T with
  | nil => exact .inl rfl
  | cons t T' =>
    refine .inr ⟨t, T', rfl, ?_⟩
    unfold ptgt at h
    by_cases h0 : t.f0 = 0
    · right
      simpa [h0] using h
    · exact .inl h0
theorem ptgt_true {T : List S60} (h : ptgt T = true) : ∃ t T', T = t :: T' ∧ t.f0 = 0 ∧ ptarget t.f1 = true := by
  cases T with
  | nil => cases h
  | cons t T' =>
    unfold ptgt at h
    simp only [Bool.and_eq_true, beq_iff_eq] at h
    exact ⟨t, T', rfl, h.1, h.2⟩

set_option maxHeartbeats 16000000 in
set_option maxRecDepth 100000 in
theorem pexpr_deep (g : Nat) (T : List S60) (en nest : Int) (r : Except PErr (S25 × List S60)) (w0 w : World) (hS : PsS w0 w w g T en) (hn0 : ¬ (nest < 0 ∨ nest > 100)) (hn : nest > 12) (hr : r = .error (112, pplace T en)) : Calls Tryd.prog 37 #[.pointer (some ⟨g, 0, none⟩), .int .i64 nest] w (PRes w0 w g en (nodeR w) r) := by
  have hu25 := Tryd.underlying25
  have hu60 := Tryd.underlying60
  have GW := Aside0.mk hS.lt
  have WW := Aside0.mk hS.bel.size
  have RS0 := Aside0.mk (hS.alloc (.cells #[.string (⟨#[]⟩ : ByteArray), .string (⟨#[]⟩ : ByteArray), .int .i64 0, .int .i64 0, .slice none 0 0] 25 (0, 0)))
  have HR4 := Aside0.mk (blk_new w (.cells #[.string (⟨#[]⟩ : ByteArray), .string (⟨#[]⟩ : ByteArray), .int .i64 0, .int .i64 0, .slice none 0 0] 25 (0, 0)))
  clear hS
  subst hr
  have dn : decide (nest > 12) = true := decide_eq_true hn
  have dn' : decide (12 < nest) = true := decide_eq_true hn
  go_enter Tryd.func37, Tryd.ntmps37
  go_wp2_with (go_at_call 66; (with_reducible refine (pfail_calls g _ en 112 w0 _ RS0.out.start).mono ?_); rintro e w2 ⟨rfl, h2⟩; exact ⟨rfl, RS0.out.bad ⟨rfl, h2⟩⟩)
set_option maxHeartbeats 16000000 in
set_option maxRecDepth 100000 in
theorem pexpr_use0 (g : Nat)  (en nest : Int) (r : Except PErr (S25 × List S60)) (w0 w : World) (hS : PsS w0 w w g [] en) (hn0 : ¬ (nest < 0 ∨ nest > 100)) (hn : ¬ nest > 12) (h : pbd (pof [] en 0) (fun t T1 => some (.ok (⟨(⟨#[117, 115, 101]⟩ : ByteArray), t.f1, 0, t.f3, []⟩, T1))) = some r) : Calls Tryd.prog 37 #[.pointer (some ⟨g, 0, none⟩), .int .i64 nest] w (PRes w0 w g en (nodeR w) r) := by
  have hu25 := Tryd.underlying25
  have hu60 := Tryd.underlying60
  have GW := Aside0.mk hS.lt
  have WW := Aside0.mk hS.bel.size
  have RS0 := Aside0.mk (hS.alloc (.cells #[.string (⟨#[]⟩ : ByteArray), .string (⟨#[]⟩ : ByteArray), .int .i64 0, .int .i64 0, .slice none 0 0] 25 (0, 0)))
  have HR4 := Aside0.mk (blk_new w (.cells #[.string (⟨#[]⟩ : ByteArray), .string (⟨#[]⟩ : ByteArray), .int .i64 0, .int .i64 0, .slice none 0 0] 25 (0, 0)))
  clear hS
  have dn : decide (nest > 12) = false := decide_eq_false hn
  have dn' : decide (12 < nest) = false := decide_eq_false hn
  have HH := Aside0.mk h
  clear h
  obtain ⟨A, c, hbk⟩ := RS0.out.empty
  have x0 := (blk_cell hbk 0).trans rfl
  clear hbk
  go_enter Tryd.func37, Tryd.ntmps37
  go_upto_region 4 with (fail)
  clear x0
  have hh := HH.out
  clear HH
  rcases pbd_inv hh with ⟨x, hx, rfl⟩ | ⟨t1, T1, hx, h1⟩
  · have HX := Aside0.mk hx
    clear hx hh
    go_wp2_with (go_at_call 33; (with_reducible refine (pname_calls g _ en _ w0 _ RS0.out.start HX.out).mono ?_); rintro e w2 ⟨rfl, h2⟩; exact ⟨rfl, RS0.out.bad ⟨rfl, h2⟩⟩)
  · have HX := Aside0.mk hx
    clear hx hh
    simp only [Option.some.injEq] at h1
    subst h1
    go_wp2_with (go_at_call 33; (with_reducible refine (pname_calls g _ en _ w0 _ RS0.out.start HX.out).mono ?_); rintro e w2 ⟨rfl, h2⟩; unfold leafV pnameN; have H2 := Aside0.mk (RS0.out.call h2); have R2 := Aside0.mk (h2.kb.blk HR4.out (Nat.ne_of_gt GW.out) (by simp)); have hne : w.heap.size ≠ w2.heap.size := Nat.ne_of_lt (blk_lt R2.out); have hne' := hne.symm; clear h2; have r0 : ∀ o, (w2.alloc o).cell? ⟨w.heap.size, 0, none⟩ = some (.string (⟨#[]⟩ : ByteArray)) := fun o => (blk_cell (blk_alloc R2.out o) 0).trans rfl; have z0 : ∀ o, (w2.alloc o).frozen? ⟨w.heap.size, 0, none⟩ = false := fun o => blk_frozen (blk_alloc R2.out o) 0; have r1 : ∀ o, (w2.alloc o).cell? ⟨w.heap.size, 1, none⟩ = some (.string (⟨#[]⟩ : ByteArray)) := fun o => (blk_cell (blk_alloc R2.out o) 1).trans rfl; have z1 : ∀ o, (w2.alloc o).frozen? ⟨w.heap.size, 1, none⟩ = false := fun o => blk_frozen (blk_alloc R2.out o) 1; have r2 : ∀ o, (w2.alloc o).cell? ⟨w.heap.size, 2, none⟩ = some (.int .i64 0) := fun o => (blk_cell (blk_alloc R2.out o) 2).trans rfl; have z2 : ∀ o, (w2.alloc o).frozen? ⟨w.heap.size, 2, none⟩ = false := fun o => blk_frozen (blk_alloc R2.out o) 2; have r3 : ∀ o, (w2.alloc o).cell? ⟨w.heap.size, 3, none⟩ = some (.int .i64 0) := fun o => (blk_cell (blk_alloc R2.out o) 3).trans rfl; have z3 : ∀ o, (w2.alloc o).frozen? ⟨w.heap.size, 3, none⟩ = false := fun o => blk_frozen (blk_alloc R2.out o) 3; have r4 : ∀ o, (w2.alloc o).cell? ⟨w.heap.size, 4, none⟩ = some (.slice none 0 0) := fun o => (blk_cell (blk_alloc R2.out o) 4).trans rfl; have z4 : ∀ o, (w2.alloc o).frozen? ⟨w.heap.size, 4, none⟩ = false := fun o => blk_frozen (blk_alloc R2.out o) 4)
    exact bodyPost_ret (results_cell_row rfl _ _ _ 25 #[.string (⟨#[117, 115, 101]⟩ : ByteArray), .string t1.f1, .int .i64 0, .int .i64 t1.f3, .slice none 0 0] (0, 0) _ rfl (blk_put (blk_put (blk_put (blk_put (blk_put (blk_alloc R2.out _) 0 _ rfl) 1 _ rfl) 2 _ rfl) 3 _ rfl) 4 _ rfl) Tryd.underlying25 rfl (by kernel_rfl)) rfl ⟨⟨_, rfl, Kd.N_nil _ _ _ _ _⟩, ((((((H2.out.alloc _).far (Nat.ne_of_lt GW.out) (Nat.le_refl _) WW.out _).far (Nat.ne_of_lt GW.out) (Nat.le_refl _) WW.out _).far (Nat.ne_of_lt GW.out) (Nat.le_refl _) WW.out _).far (Nat.ne_of_lt GW.out) (Nat.le_refl _) WW.out _).far (Nat.ne_of_lt GW.out) (Nat.le_refl _) WW.out _)⟩
set_option maxHeartbeats 16000000 in
set_option maxRecDepth 100000 in
theorem pexpr_use1 (g : Nat) (t : S60) (T : List S60) (en nest : Int) (r : Except PErr (S25 × List S60)) (w0 w : World) (hS : PsS w0 w w g (t :: T) en) (hn0 : ¬ (nest < 0 ∨ nest > 100)) (hn : ¬ nest > 12) (h0 : ¬ t.f0 = 0) (h : pbd (pof (t :: T) en 0) (fun t T1 => some (.ok (⟨(⟨#[117, 115, 101]⟩ : ByteArray), t.f1, 0, t.f3, []⟩, T1))) = some r) : Calls Tryd.prog 37 #[.pointer (some ⟨g, 0, none⟩), .int .i64 nest] w (PRes w0 w g en (nodeR w) r) := by
  have hu25 := Tryd.underlying25
  have hu60 := Tryd.underlying60
  have GW := Aside0.mk hS.lt
  have WW := Aside0.mk hS.bel.size
  have RS0 := Aside0.mk (hS.alloc (.cells #[.string (⟨#[]⟩ : ByteArray), .string (⟨#[]⟩ : ByteArray), .int .i64 0, .int .i64 0, .slice none 0 0] 25 (0, 0)))
  have HR4 := Aside0.mk (blk_new w (.cells #[.string (⟨#[]⟩ : ByteArray), .string (⟨#[]⟩ : ByteArray), .int .i64 0, .int .i64 0, .slice none 0 0] 25 (0, 0)))
  clear hS
  have dn : decide (nest > 12) = false := decide_eq_false hn
  have dn' : decide (12 < nest) = false := decide_eq_false hn
  have HH := Aside0.mk h
  clear h
  obtain ⟨ad, c, hbk, hc, hC, y0, y1, y2, y3⟩ := RS0.out.head
  have x0 := (blk_cell hbk 0).trans rfl
  have hl : 0 < (t :: T).length := by simp
  clear hbk hC
  generalize (t :: T).length = n at *
  have d1 : (0 : Int) < (n : Int) := by omega
  have d2 : ((n : Int) == 0) = false := by simp; omega
  have e0 : (t.f0 == 0) = false := by simpa using h0
  have e0' : (t.f0 != 0) = true := by simpa using h0
  clear h0
  go_enter Tryd.func37, Tryd.ntmps37
  go_upto_region 4 with (fail)
  clear x0 y0 y1 y2 y3
  have hh := HH.out
  clear HH
  rcases pbd_inv hh with ⟨x, hx, rfl⟩ | ⟨t1, T1, hx, h1⟩
  · have HX := Aside0.mk hx
    clear hx hh
    go_wp2_with (go_at_call 33; (with_reducible refine (pname_calls g _ en _ w0 _ RS0.out.start HX.out).mono ?_); rintro e w2 ⟨rfl, h2⟩; exact ⟨rfl, RS0.out.bad ⟨rfl, h2⟩⟩)
  · have HX := Aside0.mk hx
    clear hx hh
    simp only [Option.some.injEq] at h1
    subst h1
    go_wp2_with (go_at_call 33; (with_reducible refine (pname_calls g _ en _ w0 _ RS0.out.start HX.out).mono ?_); rintro e w2 ⟨rfl, h2⟩; unfold leafV pnameN; have H2 := Aside0.mk (RS0.out.call h2); have R2 := Aside0.mk (h2.kb.blk HR4.out (Nat.ne_of_gt GW.out) (by simp)); have hne : w.heap.size ≠ w2.heap.size := Nat.ne_of_lt (blk_lt R2.out); have hne' := hne.symm; clear h2; have r0 : ∀ o, (w2.alloc o).cell? ⟨w.heap.size, 0, none⟩ = some (.string (⟨#[]⟩ : ByteArray)) := fun o => (blk_cell (blk_alloc R2.out o) 0).trans rfl; have z0 : ∀ o, (w2.alloc o).frozen? ⟨w.heap.size, 0, none⟩ = false := fun o => blk_frozen (blk_alloc R2.out o) 0; have r1 : ∀ o, (w2.alloc o).cell? ⟨w.heap.size, 1, none⟩ = some (.string (⟨#[]⟩ : ByteArray)) := fun o => (blk_cell (blk_alloc R2.out o) 1).trans rfl; have z1 : ∀ o, (w2.alloc o).frozen? ⟨w.heap.size, 1, none⟩ = false := fun o => blk_frozen (blk_alloc R2.out o) 1; have r2 : ∀ o, (w2.alloc o).cell? ⟨w.heap.size, 2, none⟩ = some (.int .i64 0) := fun o => (blk_cell (blk_alloc R2.out o) 2).trans rfl; have z2 : ∀ o, (w2.alloc o).frozen? ⟨w.heap.size, 2, none⟩ = false := fun o => blk_frozen (blk_alloc R2.out o) 2; have r3 : ∀ o, (w2.alloc o).cell? ⟨w.heap.size, 3, none⟩ = some (.int .i64 0) := fun o => (blk_cell (blk_alloc R2.out o) 3).trans rfl; have z3 : ∀ o, (w2.alloc o).frozen? ⟨w.heap.size, 3, none⟩ = false := fun o => blk_frozen (blk_alloc R2.out o) 3; have r4 : ∀ o, (w2.alloc o).cell? ⟨w.heap.size, 4, none⟩ = some (.slice none 0 0) := fun o => (blk_cell (blk_alloc R2.out o) 4).trans rfl; have z4 : ∀ o, (w2.alloc o).frozen? ⟨w.heap.size, 4, none⟩ = false := fun o => blk_frozen (blk_alloc R2.out o) 4)
    exact bodyPost_ret (results_cell_row rfl _ _ _ 25 #[.string (⟨#[117, 115, 101]⟩ : ByteArray), .string t1.f1, .int .i64 0, .int .i64 t1.f3, .slice none 0 0] (0, 0) _ rfl (blk_put (blk_put (blk_put (blk_put (blk_put (blk_alloc R2.out _) 0 _ rfl) 1 _ rfl) 2 _ rfl) 3 _ rfl) 4 _ rfl) Tryd.underlying25 rfl (by kernel_rfl)) rfl ⟨⟨_, rfl, Kd.N_nil _ _ _ _ _⟩, ((((((H2.out.alloc _).far (Nat.ne_of_lt GW.out) (Nat.le_refl _) WW.out _).far (Nat.ne_of_lt GW.out) (Nat.le_refl _) WW.out _).far (Nat.ne_of_lt GW.out) (Nat.le_refl _) WW.out _).far (Nat.ne_of_lt GW.out) (Nat.le_refl _) WW.out _).far (Nat.ne_of_lt GW.out) (Nat.le_refl _) WW.out _)⟩
set_option maxHeartbeats 16000000 in
set_option maxRecDepth 100000 in
theorem pexpr_use2 (g : Nat) (t : S60) (T : List S60) (en nest : Int) (r : Except PErr (S25 × List S60)) (w0 w : World) (hS : PsS w0 w w g (t :: T) en) (hn0 : ¬ (nest < 0 ∨ nest > 100)) (hn : ¬ nest > 12) (h0 : t.f0 = 0) (h1 : ptarget t.f1 = false) (h : pbd (pof (t :: T) en 0) (fun t T1 => some (.ok (⟨(⟨#[117, 115, 101]⟩ : ByteArray), t.f1, 0, t.f3, []⟩, T1))) = some r) : Calls Tryd.prog 37 #[.pointer (some ⟨g, 0, none⟩), .int .i64 nest] w (PRes w0 w g en (nodeR w) r) := by
  have hu25 := Tryd.underlying25
  have hu60 := Tryd.underlying60
  have GW := Aside0.mk hS.lt
  have WW := Aside0.mk hS.bel.size
  have RS0 := Aside0.mk (hS.alloc (.cells #[.string (⟨#[]⟩ : ByteArray), .string (⟨#[]⟩ : ByteArray), .int .i64 0, .int .i64 0, .slice none 0 0] 25 (0, 0)))
  have HR4 := Aside0.mk (blk_new w (.cells #[.string (⟨#[]⟩ : ByteArray), .string (⟨#[]⟩ : ByteArray), .int .i64 0, .int .i64 0, .slice none 0 0] 25 (0, 0)))
  clear hS
  have dn : decide (nest > 12) = false := decide_eq_false hn
  have dn' : decide (12 < nest) = false := decide_eq_false hn
  have HH := Aside0.mk h
  clear h
  obtain ⟨ad, c, hbk, hc, hC, y0, y1, y2, y3⟩ := RS0.out.head
  have x0 := (blk_cell hbk 0).trans rfl
  have hl : 0 < (t :: T).length := by simp
  clear hbk hC
  generalize (t :: T).length = n at *
  have d1 : (0 : Int) < (n : Int) := by omega
  have d2 : ((n : Int) == 0) = false := by simp; omega
  have e0 : (t.f0 == 0) = true := by simpa using h0
  have e0' : (t.f0 != 0) = false := by simpa using h0
  clear h0
  have HT := Aside0.mk ((ptarget_eq t.f1).trans (by rw [h1]))
  clear h1
  go_enter Tryd.func37, Tryd.ntmps37
  go_upto_region 4 with (go_at_call 69; (with_reducible refine (parse_target.calls _ false _ HT.out).mono ?_); rintro e w1 ⟨rfl, ⟨nd, rfl⟩⟩; have RS1 := Aside0.mk (RS0.out.drewN nd); have HR1 := Aside0.mk (blk_drewN HR4.out nd); clear RS0 HR4; have RS0 := RS1; have HR4 := HR1; clear RS1 HR1)
  clear x0 y0 y1 y2 y3
  have hh := HH.out
  clear HH
  rcases pbd_inv hh with ⟨x, hx, rfl⟩ | ⟨t1, T1, hx, h1⟩
  · have HX := Aside0.mk hx
    clear hx hh
    go_wp2_with (go_at_call 33; (with_reducible refine (pname_calls g _ en _ w0 _ RS0.out.start HX.out).mono ?_); rintro e w2 ⟨rfl, h2⟩; exact ⟨rfl, RS0.out.bad ⟨rfl, h2⟩⟩)
  · have HX := Aside0.mk hx
    clear hx hh
    simp only [Option.some.injEq] at h1
    subst h1
    go_wp2_with (go_at_call 33; (with_reducible refine (pname_calls g _ en _ w0 _ RS0.out.start HX.out).mono ?_); rintro e w2 ⟨rfl, h2⟩; unfold leafV pnameN; have H2 := Aside0.mk (RS0.out.call h2); have R2 := Aside0.mk (h2.kb.blk HR4.out (Nat.ne_of_gt GW.out) (by simp)); have hne : w.heap.size ≠ w2.heap.size := Nat.ne_of_lt (blk_lt R2.out); have hne' := hne.symm; clear h2; have r0 : ∀ o, (w2.alloc o).cell? ⟨w.heap.size, 0, none⟩ = some (.string (⟨#[]⟩ : ByteArray)) := fun o => (blk_cell (blk_alloc R2.out o) 0).trans rfl; have z0 : ∀ o, (w2.alloc o).frozen? ⟨w.heap.size, 0, none⟩ = false := fun o => blk_frozen (blk_alloc R2.out o) 0; have r1 : ∀ o, (w2.alloc o).cell? ⟨w.heap.size, 1, none⟩ = some (.string (⟨#[]⟩ : ByteArray)) := fun o => (blk_cell (blk_alloc R2.out o) 1).trans rfl; have z1 : ∀ o, (w2.alloc o).frozen? ⟨w.heap.size, 1, none⟩ = false := fun o => blk_frozen (blk_alloc R2.out o) 1; have r2 : ∀ o, (w2.alloc o).cell? ⟨w.heap.size, 2, none⟩ = some (.int .i64 0) := fun o => (blk_cell (blk_alloc R2.out o) 2).trans rfl; have z2 : ∀ o, (w2.alloc o).frozen? ⟨w.heap.size, 2, none⟩ = false := fun o => blk_frozen (blk_alloc R2.out o) 2; have r3 : ∀ o, (w2.alloc o).cell? ⟨w.heap.size, 3, none⟩ = some (.int .i64 0) := fun o => (blk_cell (blk_alloc R2.out o) 3).trans rfl; have z3 : ∀ o, (w2.alloc o).frozen? ⟨w.heap.size, 3, none⟩ = false := fun o => blk_frozen (blk_alloc R2.out o) 3; have r4 : ∀ o, (w2.alloc o).cell? ⟨w.heap.size, 4, none⟩ = some (.slice none 0 0) := fun o => (blk_cell (blk_alloc R2.out o) 4).trans rfl; have z4 : ∀ o, (w2.alloc o).frozen? ⟨w.heap.size, 4, none⟩ = false := fun o => blk_frozen (blk_alloc R2.out o) 4)
    exact bodyPost_ret (results_cell_row rfl _ _ _ 25 #[.string (⟨#[117, 115, 101]⟩ : ByteArray), .string t1.f1, .int .i64 0, .int .i64 t1.f3, .slice none 0 0] (0, 0) _ rfl (blk_put (blk_put (blk_put (blk_put (blk_put (blk_alloc R2.out _) 0 _ rfl) 1 _ rfl) 2 _ rfl) 3 _ rfl) 4 _ rfl) Tryd.underlying25 rfl (by kernel_rfl)) rfl ⟨⟨_, rfl, Kd.N_nil _ _ _ _ _⟩, ((((((H2.out.alloc _).far (Nat.ne_of_lt GW.out) (Nat.le_refl _) WW.out _).far (Nat.ne_of_lt GW.out) (Nat.le_refl _) WW.out _).far (Nat.ne_of_lt GW.out) (Nat.le_refl _) WW.out _).far (Nat.ne_of_lt GW.out) (Nat.le_refl _) WW.out _).far (Nat.ne_of_lt GW.out) (Nat.le_refl _) WW.out _)⟩
end Go.Proofs.YtknbfhhmjbnemaaDoor.P
end
section
namespace Go.Proofs.YtknbfhhmjbnemaaDoor.P
open Go.RowKit Go.Proofs.YtknbfhhmjbnemaaDoorW.PrintWords Go.Proofs.YtknbfhhmjbnemaaDoorW.PrintLast Go.Proofs.YtknbfhhmjbnemaaDoorW.PrintMore
set_option linter.unusedVariables false
set_option linter.unusedSimpArgs false

theorem pbd_assoc {α β γ : Type} (x : PR α) (f : α → List S60 → PR β) (g : β → List S60 → PR γ) : pbd (pbd x f) g = pbd x (fun a T => pbd (f a T) g) := by
  unfold pbd
  rcases x with _ | x | ⟨a, T⟩ <;> rfl
theorem pbd_ok {α β : Type} (a : α) (T : List S60) (f : α → List S60 → PR β) : pbd (some (.ok (a, T))) f = f a T := rfl
set_option maxHeartbeats 16000000 in
set_option maxRecDepth 100000 in
theorem pexpr_tgt (k : Nat) (ih : PexprOk k) (ihs : ∀ k', k' ≤ k → PexprOk k') (g : Nat) (t : S60) (T : List S60) (en nest : Int) (r : Except PErr (S25 × List S60)) (w0 w : World) (hS : PsS w0 w w g (t :: T) en) (hn0 : ¬ (nest < 0 ∨ nest > 100)) (hn : ¬ nest > 12) (h0 : t.f0 = 0) (h1 : ptarget t.f1 = true) (h : pexprT k t T en nest = some r) :
    Calls Tryd.prog 37 #[.pointer (some ⟨g, 0, none⟩), .int .i64 nest] w (PRes w0 w g en (nodeR w) r) := by
  have hu25 := Tryd.underlying25
  have hu60 := Tryd.underlying60
  have GW := Aside0.mk hS.lt
  have WW := Aside0.mk hS.bel.size
  have IH := Aside0.mk ih
  have IHS := Aside0.mk ihs
  unfold pexprT at h
  have HH := Aside0.mk h
  have RS0 := Aside0.mk (hS.alloc (.cells #[.string (⟨#[]⟩ : ByteArray), .string (⟨#[]⟩ : ByteArray), .int .i64 0, .int .i64 0, .slice none 0 0] 25 (0, 0)))
  have HR4 := Aside0.mk (blk_new w (.cells #[.string (⟨#[]⟩ : ByteArray), .string (⟨#[]⟩ : ByteArray), .int .i64 0, .int .i64 0, .slice none 0 0] 25 (0, 0)))
  clear hS ih ihs h
  have dn : decide (nest > 12) = false := decide_eq_false hn
  have dn' : decide (12 < nest) = false := decide_eq_false hn
  obtain ⟨ad, c, hbk, hc, hC, y0, y1, y2, y3⟩ := RS0.out.head
  have x0 := (blk_cell hbk 0).trans rfl
  have hl : 0 < (t :: T).length := by simp
  clear hbk hC
  generalize (t :: T).length = n at *
  have d1 : (0 : Int) < (n : Int) := by omega
  have d2 : ((n : Int) == 0) = false := by simp; omega
  have e0 : (t.f0 == 0) = true := by simpa using h0
  have e0' : (t.f0 != 0) = false := by simpa using h0
  clear h0
  have HT := Aside0.mk ((ptarget_eq t.f1).trans (by rw [h1]))
  clear h1
  go_enter Tryd.func37, Tryd.ntmps37
  go_upto_region 7 with (go_at_call 69; (with_reducible refine (parse_target.calls _ true _ HT.out).mono ?_); rintro e w1 ⟨rfl, ⟨nd, rfl⟩⟩; have RS1 := Aside0.mk (RS0.out.drewN nd); have HR1 := Aside0.mk (blk_drewN HR4.out nd))
  clear x0 y0 y1 y2 y3 RS0 HR4 hc hl d1 d2
  generalize World.drewN (World.alloc w _) nd = w1 at *
  have RS2 := Aside0.mk RS1.out.drew
  have HR2 := Aside0.mk (blk_drew HR1.out)
  clear RS1 HR1
  obtain ⟨ad1, c1, hbk, hc1, hC, y0, y1, y2, y3⟩ := RS2.out.head
  have x0 := (blk_cell hbk 0).trans rfl
  have hl : 0 < (t :: T).length := by simp
  clear hbk hC y0 y2 y3
  generalize hn1 : (t :: T).length = n1 at *
  have d1 : (0 : Int) < (n1 : Int) := by omega
  refine start_ (n := 12) (S := fun w' => w'.cell? ⟨g, 0, none⟩ = some (.slice (some ad1) n1 c1) ∧ w'.cell? ⟨ad1.block, ad1.off + 1, none⟩ = some (.string t.f1)) (ds := [11]) #[false, false, false, false, false, false, false, false, false, false, false, false] (by kernel_rfl) rfl rfl ?hS (fun hHeld => ?_)
  case hS => exact ⟨x0, y1⟩
  generalize World.drew w1 = w2 at *
  refine pure_ (i := 0) (N := some 42) (v := ?_) (a' := ?_) #[true, false, false, false, false, false, false, false, false, false, false, false] rfl rfl (by kernel_rfl) (fun _ _ _ h => h) (Or.inl ⟨by rfl, ?_⟩) ?_ ?_
  rotate_left
  · intro w'
    go_simp
    with_reducible rfl
  rotate_left
  · simp only [Act.put, List.setIfInBounds_toArray, List.set_cons_zero, List.set_cons_succ, i64_w, i32_w]
    rfl
  refine pure_ (i := 1) (N := some 43) (v := ?_) (a' := ?_) #[true, true, false, false, false, false, false, false, false, false, false, false] rfl rfl (by kernel_rfl) (fun _ _ _ h => h) (Or.inl ⟨by rfl, ?_⟩) ?_ ?_
  rotate_left
  · intro w'
    go_simp
    with_reducible rfl
  rotate_left
  · simp only [Act.put, List.setIfInBounds_toArray, List.set_cons_zero, List.set_cons_succ, i64_w, i32_w]
    rfl
  refine pure_ (i := 2) (N := some 44) (v := ?_) (a' := ?_) #[true, true, true, false, false, false, false, false, false, false, false, false] rfl rfl (by kernel_rfl) (fun _ _ _ h => h) (Or.inl ⟨by rfl, ?_⟩) ?_ ?_
  rotate_left
  · intro w'
    go_simp
    with_reducible rfl
  rotate_left
  · simp only [Act.put, List.setIfInBounds_toArray, List.set_cons_zero, List.set_cons_succ, i64_w, i32_w]
    rfl
  refine take_ (i := 3) (N := some 45) (v := ?_) (a' := ?_) #[true, true, true, true, false, false, false, false, false, false, false, false] rfl rfl (by kernel_rfl) (fun _ _ _ h => h) (Or.inl ⟨by rfl, ?_⟩) hHeld ?_ ?_
  rotate_left
  · rintro w' ⟨s0, s1⟩
    go_simp
    with_reducible rfl
  rotate_left
  · simp only [Act.put, List.setIfInBounds_toArray, List.set_cons_zero, List.set_cons_succ, i64_w, i32_w]
    rfl
  refine pure_ (i := 4) (N := some 46) (v := ?_) (a' := ?_) #[true, true, true, true, true, false, false, false, false, false, false, false] rfl rfl (by kernel_rfl) (fun _ _ _ h => h) (Or.inl ⟨by rfl, ?_⟩) ?_ ?_
  rotate_left
  · intro w'
    go_simp
    with_reducible rfl
  rotate_left
  · simp only [Act.put, List.setIfInBounds_toArray, List.set_cons_zero, List.set_cons_succ, i64_w, i32_w]
    rfl
  refine pure_ (i := 5) (N := some 47) (v := ?_) (a' := ?_) #[true, true, true, true, true, true, false, false, false, false, false, false] rfl rfl (by kernel_rfl) (fun _ _ _ h => h) (Or.inl ⟨by rfl, ?_⟩) ?_ ?_
  rotate_left
  · intro w'
    go_simp
    with_reducible rfl
  rotate_left
  · simp only [Act.put, List.setIfInBounds_toArray, List.set_cons_zero, List.set_cons_succ, i64_w, i32_w]
    rfl
  refine take_ (i := 6) (N := some 48) (v := ?_) (a' := ?_) #[true, true, true, true, true, true, true, false, false, false, false, false] rfl rfl (by kernel_rfl) (fun _ _ _ h => h) (Or.inl ⟨by rfl, ?_⟩) hHeld ?_ ?_
  rotate_left
  · rintro w' ⟨s0, s1⟩
    go_simp
    with_reducible rfl
  rotate_left
  · simp only [Act.put, List.setIfInBounds_toArray, List.set_cons_zero, List.set_cons_succ, i64_w, i32_w]
    rfl
  refine pure_ (i := 7) (N := some 49) (v := ?_) (a' := ?_) #[true, true, true, true, true, true, true, true, false, false, false, false] rfl rfl (by kernel_rfl) (fun _ _ _ h => h) (Or.inl ⟨by rfl, ?_⟩) ?_ ?_
  rotate_left
  · intro w'
    go_simp
    with_reducible rfl
  rotate_left
  · simp only [Act.put, List.setIfInBounds_toArray, List.set_cons_zero, List.set_cons_succ, i64_w, i32_w]
    rfl
  refine join_ (σ := Nat) 1 #[true, true, true, true, true, true, true, true, true, true, true, false] (fun bn => [(50, .int .i64 (pplace (t :: T) en)), (51, .agg #[.string t.f1, .string ⟨#[]⟩, .int .i64 0, .int .i64 (pplace (t :: T) en), .slice none 0 0]), (6, .pointer (some ⟨bn, 0, none⟩))]) (fun bn w' => bn = w2.heap.size ∧ w'.heap[bn]? = some (.cells #[.string (⟨#[]⟩ : ByteArray), .string (⟨#[]⟩ : ByteArray), .int .i64 0, .int .i64 0, .slice none 0 0] 25 (0, 0)) ∧ Below w2.heap.size w2 w') ?cont ?go
  case go =>
    intro hcont
    have HC := Aside0.mk hcont
    clear hcont
    refine two_ (i := 8) (j := 10) (Ni := some 50) (Nj := some 6) #[true, true, true, true, true, true, true, true, true, false, false, false] #[true, true, true, true, true, true, true, true, false, false, true, false] rfl rfl rfl rfl (by kernel_rfl) (by decide) (by decide) ?_ ?_
    · intro K hK
      refine goes_ Tryd.func30 (by kernel_rfl) rfl #[.pointer (some ⟨g, 0, none⟩)] (by rfl) rfl rfl (by first | rfl | (simp [Act.eval]; done) | (go_simp; done)) ?_
      refine (pplace_calls g (t :: T) en w0 w2 RS2.out.start).mono ?_
      rintro e w' ⟨rfl, rfl⟩
      refine ⟨_, rfl, ?_⟩
      try clear hHeld
      refine hK.out _ _ ⟨x0, y1⟩ (fun hHeld => ?_)
      clear hK K
      refine norm_ (a' := ?_) ?_ ?_
      rotate_left
      · simp only [Act.put, List.setIfInBounds_toArray, List.set_cons_zero, List.set_cons_succ, i64_w, i32_w]
        rfl
      refine pure_ (i := 9) (N := some 51) (v := ?_) (a' := ?_) #[true, true, true, true, true, true, true, true, true, true, false, false] rfl rfl (by kernel_rfl) (fun _ _ _ h => h) (Or.inl ⟨by rfl, ?_⟩) ?_ ?_
      rotate_left
      · intro w'
        go_simp
        with_reducible rfl
      rotate_left
      · simp only [Act.put, List.setIfInBounds_toArray, List.set_cons_zero, List.set_cons_succ, i64_w, i32_w]
        rfl
      refine one_ (i := 10) (N := some 6) #[true, true, true, true, true, true, true, true, true, true, true, false] rfl rfl (by kernel_rfl) (by decide) (fun K hK => ?_)
      refine box_step (by rfl) (N := 6) rfl (cs := #[.string (⟨#[]⟩ : ByteArray), .string (⟨#[]⟩ : ByteArray), .int .i64 0, .int .i64 0, .slice none 0 0]) (t := 25) ?hr ?_
      case hr => first | (go_simp; done) | (go_simp; rfl)
      intro bn hbn w3 hbox hb
      have HB3 := Aside0.mk hb
      have NB := Aside0.mk hbox
      have HG := Aside0.mk hbn
      have x0' := pw_cell_below hb x0
      have y1' := pw_cell_below hb y1
      clear hb hbox hbn
      try clear hHeld
      refine hK.out _ _ ⟨x0', y1'⟩ (fun hHeld => ?_)
      clear hK K
      refine norm_ (a' := ?_) ?_ ?_
      rotate_left
      · simp only [Act.put, List.setIfInBounds_toArray, List.set_cons_zero, List.set_cons_succ, i64_w, i32_w]
        rfl
      exact HC.out bn w3 ⟨HG.out, NB.out, HB3.out⟩
    · intro K hK
      refine box_step (by rfl) (N := 6) rfl (cs := #[.string (⟨#[]⟩ : ByteArray), .string (⟨#[]⟩ : ByteArray), .int .i64 0, .int .i64 0, .slice none 0 0]) (t := 25) ?hr ?_
      case hr => first | (go_simp; done) | (go_simp; rfl)
      intro bn hbn w3 hbox hb
      have HB3 := Aside0.mk hb
      have NB := Aside0.mk hbox
      have HG := Aside0.mk hbn
      have x0' := pw_cell_below hb x0
      have y1' := pw_cell_below hb y1
      clear hb hbox hbn
      try clear hHeld
      refine hK.out _ _ ⟨x0', y1'⟩ (fun hHeld => ?_)
      clear hK K
      refine norm_ (a' := ?_) ?_ ?_
      rotate_left
      · simp only [Act.put, List.setIfInBounds_toArray, List.set_cons_zero, List.set_cons_succ, i64_w, i32_w]
        rfl
      refine one_ (i := 8) (N := some 50) #[true, true, true, true, true, true, true, true, true, false, true, false] rfl rfl (by kernel_rfl) (by decide) (fun K hK => ?_)
      refine goes_ Tryd.func30 (by kernel_rfl) rfl #[.pointer (some ⟨g, 0, none⟩)] (by rfl) rfl rfl (by first | rfl | (simp [Act.eval]; done) | (go_simp; done)) ?_
      refine (pplace_calls g (t :: T) en w0 w3 (RS2.out.below HB3.out).start).mono ?_
      rintro e w' ⟨rfl, rfl⟩
      refine ⟨_, rfl, ?_⟩
      try clear hHeld
      refine hK.out _ _ ⟨x0', y1'⟩ (fun hHeld => ?_)
      clear hK K
      refine norm_ (a' := ?_) ?_ ?_
      rotate_left
      · simp only [Act.put, List.setIfInBounds_toArray, List.set_cons_zero, List.set_cons_succ, i64_w, i32_w]
        rfl
      refine pure_ (i := 9) (N := some 51) (v := ?_) (a' := ?_) #[true, true, true, true, true, true, true, true, true, true, true, false] rfl rfl (by kernel_rfl) (fun _ _ _ h => h) (Or.inl ⟨by rfl, ?_⟩) ?_ ?_
      rotate_left
      · intro w'
        go_simp
        with_reducible rfl
      rotate_left
      · simp only [Act.put, List.setIfInBounds_toArray, List.set_cons_zero, List.set_cons_succ, i64_w, i32_w]
        rfl
      exact HC.out bn w' ⟨HG.out, NB.out, HB3.out⟩
  case cont =>
    rintro bn w3 ⟨hbn, hbox, hb⟩
    have HB3 := Aside0.mk hb
    have NB := Aside0.mk hbox
    have HG := Aside0.mk hbn
    clear hb hbox hbn x0 y1 hHeld
    refine norm_ (a' := ?_) ?_ ?_
    rotate_left
    · simp only [putAll, Act.put, List.setIfInBounds_toArray, List.set_cons_zero, List.set_cons_succ]
      rfl
    have c_0 := (blk_cell NB.out 0).trans rfl
    have f_0 := blk_frozen NB.out 0
    have c_1 := (blk_cell NB.out 1).trans rfl
    have f_1 := blk_frozen NB.out 1
    have c_2 := (blk_cell NB.out 2).trans rfl
    have f_2 := blk_frozen NB.out 2
    have c_3 := (blk_cell NB.out 3).trans rfl
    have f_3 := blk_frozen NB.out 3
    have c_4 := (blk_cell NB.out 4).trans rfl
    have f_4 := blk_frozen NB.out 4
    refine last_ (i := 11) (N := none) #[true, true, true, true, true, true, true, true, true, true, true, true] rfl rfl (by kernel_rfl) (by decide) (fun K hK => ?_)
    refine skip_ (w1 := ?_) (by rfl) rfl ?_ ?_
    rotate_left
    · go_simp
      rfl
    refine hK.out _ _ ?_
    clear hK K
    refine done_ (by kernel_rfl) ?_
    go_upto_region 8 with (fail)
    generalize hW : World.setCell (World.setCell (World.setCell (World.setCell (World.setCell w3 _ _) _ _) _ _) _ _) _ _ = W3
    have ES0 := Aside0.mk (show ExP w0 w W3 g (t :: T) en w.heap.size bn t.f1 ⟨#[]⟩ 0 (pplace (t :: T) en) (.slice none 0 0) [] from by
      have hlt := blk_lt HR2.out
      have hge : w2.heap.size ≤ bn := Nat.le_of_eq HG.out.symm
      have hb := ((((HB3.out.setCell (p := ⟨bn, 0, none⟩) hge (.string t.f1)).setCell (p := ⟨bn, 1, none⟩) hge (.string ⟨#[]⟩)).setCell (p := ⟨bn, 2, none⟩) hge (.int .i64 0)).setCell (p := ⟨bn, 3, none⟩) hge (.int .i64 (pplace (t :: T) en))).setCell (p := ⟨bn, 4, none⟩) hge (.slice none 0 0)
      rw [hW] at hb
      refine ⟨RS2.out.below hb, blk_below HR2.out hb, ?_, Kd.N_nil _ _ _ _ _, Nat.le_refl _, by omega, by omega, GW.out, WW.out⟩
      rw [← hW]
      exact blk_put (blk_put (blk_put (blk_put (blk_put NB.out 0 _ rfl) 1 _ rfl) 2 _ rfl) 3 _ rfl) 4 _ rfl)
    clear hW HB3 NB HG RS2 HR2 c_0 c_1 c_2 c_3 c_4 f_0 f_1 f_2 f_3 f_4 hc1 hl d1 hn1
    obtain ⟨ad2, c2, hbk, hc2, hC, y0, y1, y2, y3⟩ := ES0.out.rs.head
    have x0 := (blk_cell hbk 0).trans rfl
    have z0 := blk_frozen hbk 0
    have HX := Aside0.mk (ES0.out.rs.start.cut hbk hc2 hC)
    clear hbk hC y0 y1 y2 y3
    have hl1 : 1 ≤ (t :: T).length := by simp
    have HLT := Aside0.mk (show (t :: T).length - 1 = T.length by simp)
    generalize hn2 : (t :: T).length = n2 at hc2 x0 hl1 HLT
    have d1 : (1 : Int) ≤ (n2 : Int) := by omega
    go_upto_region 9 with (fail)
    generalize hW : World.setCell W3 _ _ = W4
    have ESi := Aside0.mk (ES0.out.call (show PsS w0 W3 W4 g T en from by rw [← hW]; have := HX.out; rw [← HLT.out] at this; exact this))
    clear hW HX x0 z0 hc2 hl1 d1 hn2 ES0
    generalize (if c2 = 1 then some ad2 else some (⟨ad2.block, ad2.off + 4, none⟩ : Addr)) = AA
    have hn1 : 0 ≤ nest := by omega
    have hn2 : nest ≤ 12 := by omega
    have HWR := Aside0.mk (show wrap64 (nest + 1) = nest + 1 from (by unfold wrap64; omega))
    have hh := HH.out
    clear HH
    rcases pbd_inv hh with ⟨x, hx, rfl⟩ | ⟨u, T1, hx, h1⟩
    · have HX := Aside0.mk hx
      clear hx hh
      go_wp2_with (go_at_call 36; (with_reducible refine (pmust_bad HX.out g w0 _ ESi.out.rs.start).mono ?_); rintro e w2 ⟨rfl, h2⟩; exact ⟨rfl, ESi.out.rs.bad ⟨rfl, h2⟩⟩)
    have HX := Aside0.mk hx
    have HH := Aside0.mk h1
    clear hx h1 hh
    go_upto_region 10 with (go_at_call 36; (with_reducible refine (pmust_ok HX.out g w0 _ ESi.out.rs.start).mono ?_); rintro e w_1 ⟨rfl, h2⟩; have ES1 := Aside0.mk (ESi.out.call h2); clear h2)
    clear HX ESi
    refine start_ (n := 10) (S := fun w' => w'.cell? ⟨bn, 4, none⟩ = some (.slice none 0 0)) (ds := [9]) #[false, false, false, false, false, false, false, false, false, false] (by kernel_rfl) rfl rfl ?hS (fun hHeld => ?_)
    case hS => exact (blk_cell (blk_drew ES1.out.nb) 4).trans rfl
    have ESd_2 := Aside0.mk ES1.out.drew
    clear ES1
    generalize World.drew w_1 = wd_2 at *
    have x4 := (blk_cell ESd_2.out.nb 4).trans rfl
    refine pure_ (i := 0) (N := some 62) (v := ?_) (a' := ?_) #[true, false, false, false, false, false, false, false, false, false] rfl rfl (by kernel_rfl) (fun _ _ _ h => h) (Or.inl ⟨by rfl, ?_⟩) ?_ ?_
    rotate_left
    · intro w'
      go_simp
      with_reducible rfl
    rotate_left
    · simp only [Act.put, List.setIfInBounds_toArray, List.set_cons_zero, List.set_cons_succ, i64_w, i32_w]
      rfl
    refine pure_ (i := 2) (N := some 64) (v := ?_) (a' := ?_) #[true, false, true, false, false, false, false, false, false, false] rfl rfl (by kernel_rfl) (fun _ _ _ h => h) (Or.inl ⟨by rfl, ?_⟩) ?_ ?_
    rotate_left
    · intro w'
      go_simp
      with_reducible rfl
    rotate_left
    · simp only [Act.put, List.setIfInBounds_toArray, List.set_cons_zero, List.set_cons_succ, i64_w, i32_w]
      rfl
    refine pure_ (i := 3) (N := some 65) (v := ?_) (a' := ?_) #[true, false, true, true, false, false, false, false, false, false] rfl rfl (by kernel_rfl) (fun _ _ _ h => h) (Or.inl ⟨by rfl, ?_⟩) ?_ ?_
    rotate_left
    · intro w'
      go_simp
      with_reducible rfl
    rotate_left
    · simp only [Act.put, List.setIfInBounds_toArray, List.set_cons_zero, List.set_cons_succ, i64_w, i32_w]
      rfl
    refine pure_ (i := 4) (N := some 66) (v := ?_) (a' := ?_) #[true, false, true, true, true, false, false, false, false, false] rfl rfl (by kernel_rfl) (fun _ _ _ h => h) (Or.inl ⟨by rfl, ?_⟩) ?_ ?_
    rotate_left
    · intro w'
      go_simp
      with_reducible rfl
    rotate_left
    · simp only [Act.put, List.setIfInBounds_toArray, List.set_cons_zero, List.set_cons_succ, i64_w, i32_w]
      rfl
    refine take_ (i := 1) (N := some 63) (v := ?_) (a' := ?_) #[true, true, true, true, true, false, false, false, false, false] rfl rfl (by kernel_rfl) (fun _ _ _ h => h) (Or.inl ⟨by rfl, ?_⟩) hHeld ?_ ?_
    rotate_left
    · rintro w' s0
      go_simp
      with_reducible rfl
    rotate_left
    · simp only [Act.put, List.setIfInBounds_toArray, List.set_cons_zero, List.set_cons_succ, i64_w, i32_w]
      rfl
    have hh := HH.out
    clear HH
    rcases pbd_inv hh with ⟨x, hx, rfl⟩ | ⟨a2, T2, hx, h1⟩
    · have HX := Aside0.mk hx
      clear hx hh
      refine one_ (i := 5) (N := some 67) #[true, true, true, true, true, true, false, false, false, false] rfl rfl (by kernel_rfl) (by decide) (fun K hK => ?_)
      refine goesP_ Tryd.func37 (by kernel_rfl) rfl #[.pointer (some ⟨g, 0, none⟩), .int .i64 (wrap64 (nest + 1))] (by rfl) rfl rfl (by first | rfl | (simp [Act.eval]; done) | (go_simp; done)) (R := PRes (α := S25) w0 wd_2 g en (nodeR wd_2) (.error x)) (by rw [HWR.out]; exact (IH.out).use g _ en _ _ w0 wd_2 ESd_2.out.rs.start HX.out) ?_
      rintro e w2 ⟨rfl, h2⟩
      exact .inl ⟨_, rfl, ⟨rfl, ESd_2.out.rs.bad ⟨rfl, h2⟩⟩⟩
    have HX := Aside0.mk hx
    have HH := Aside0.mk h1
    clear hx h1 hh
    refine one_ (i := 5) (N := some 67) #[true, true, true, true, true, true, false, false, false, false] rfl rfl (by kernel_rfl) (by decide) (fun K hK => ?_)
    refine goesP_ Tryd.func37 (by kernel_rfl) rfl #[.pointer (some ⟨g, 0, none⟩), .int .i64 (wrap64 (nest + 1))] (by rfl) rfl rfl (by first | rfl | (simp [Act.eval]; done) | (go_simp; done)) (R := PRes (α := S25) w0 wd_2 g en (nodeR wd_2) (.ok (a2, T2))) (by rw [HWR.out]; exact (IH.out).use g _ en _ _ w0 wd_2 ESd_2.out.rs.start HX.out) ?_
    rintro e w2_2 ⟨⟨v, rfl, hN⟩, h2⟩
    obtain ⟨A_2, c_2, rfl⟩ := Kd.N_slice hN
    have ESc_2 := Aside0.mk (ESd_2.out.call h2)
    have SZ := Aside0.mk h2.kb.1
    have HV := Aside0.mk hN
    clear hN h2
    refine .inr ⟨_, rfl, ?_⟩
    try clear hHeld
    refine hK.out _ _ ((blk_cell ESc_2.out.nb 4).trans rfl) (fun hHeld => ?_)
    clear hK K
    refine norm_ (a' := ?_) ?_ ?_
    rotate_left
    · show Act.put _ (some 67) _ = _
      simp only [Act.put, List.setIfInBounds_toArray, List.set_cons_zero, List.set_cons_succ, i64_w, i32_w]
      rfl
    refine one_ (i := 6) (N := some 68) #[true, true, true, true, true, true, true, false, false, false] rfl rfl (by kernel_rfl) (by decide) (fun K hK => ?_)
    refine Kd.N_lit_step k25 (w0 := w2_2) w2_2.heap.size 25 (by rfl) (N' := 68) rfl (xs := [a2]) (inner := [.string a2.f0, .string a2.f1, .int .i64 a2.f2, .int .i64 a2.f3, .slice A_2 a2.f4.length c_2]) (ok := (fun k => wd_2.heap.size ≤ k)) (okp := (fun k => wd_2.heap.size ≤ k)) ?hr ((Reps.none _ _).snoc (FKp_node HV.out) rfl) (fun _ hk => hk) ?hf (Below.refl _ _) (Nat.le_refl _) (by show 1 ≤ 9223372036854775807; decide) ?_
    case hr => first | (go_simp; done) | (go_simp; rfl)
    case hf => exact SZ.out
    intro v7 w7_2 hN7 hb7 hg7 hat7
    obtain ⟨A7, c7, rfl⟩ := Kd.N_slice hN7
    have ESp_2 := Aside0.mk (ESc_2.out.below hb7)
    have HN7 := Aside0.mk hN7
    clear hN7 hb7 hg7 hat7
    try clear hHeld
    refine hK.out _ _ ((blk_cell ESp_2.out.nb 4).trans rfl) (fun hHeld => ?_)
    clear hK K
    refine norm_ (a' := ?_) ?_ ?_
    rotate_left
    · show Act.put _ (some 68) _ = _
      simp only [Act.put, List.setIfInBounds_toArray, List.set_cons_zero, List.set_cons_succ, i64_w, i32_w]
      rfl
    refine one_ (i := 7) (N := some 69) #[true, true, true, true, true, true, true, true, false, false] rfl rfl (by kernel_rfl) (by decide) (fun K hK => ?_)
    refine Kd.N_append_rows_step k25 (w0 := w7_2) w.heap.size (by rfl) (.tmp 63) (.tmp 68) 23 25 (.agg #[.string (⟨#[]⟩ : ByteArray), .string (⟨#[]⟩ : ByteArray), .int .i64 0, .int .i64 0, .slice none 0 0]) 72 rfl Tryd.underlying23 info25 rfl (by decide) (by decide) (.slice none 0 0) ([] : List S25) [a2] A7 1 c7 (fun k => w.heap.size ≤ k ∧ k ≠ w.heap.size ∧ k ≠ bn) (fun k => wd_2.heap.size ≤ k) rfl rfl ESp_2.out.row (Kd.N_F HN7.out) ?hokp ?hfresh (Below.refl _ _) ?hbase (by first | omega | (simp; done) | (simp; omega)) ?_
    case hokp => intro k hk; have h1 := ESd_2.out.lt.1; have h2 := ESd_2.out.lt.2.1; have h3 := ESd_2.out.rs.kb.1; exact ⟨⟨by omega, by omega, by omega⟩, fun e => by have := (ESd_2.out.lt.2.2 k e.symm).1; omega⟩
    case hfresh => intro k hk; have h1 := ESp_2.out.lt.1; have h2 := ESp_2.out.lt.2.1; have h3 := ESp_2.out.rs.kb.1; exact ⟨by omega, by omega, by omega⟩
    case hbase => exact ESp_2.out.rs.kb.1
    intro v8 w8_2 hN8 hb8 hg8 hat8
    obtain ⟨A8_2, c8_2, hv8⟩ := Kd.N_slice hN8
    rw [show (([] : List S25) ++ [a2]).length = 1 by simp] at hv8
    subst hv8
    have ESa := Aside0.mk (ESp_2.out.append hN8 hg8)
    obtain ⟨_, _, hnb8⟩ := ESp_2.out.grown hN8 hg8
    have hn4b := (blk_cell hnb8 4).trans rfl
    have hf4b := blk_frozen hnb8 4
    clear hN8 hb8 hg8 hat8 hnb8
    try clear hHeld
    refine hK.out _ _ hn4b (fun hHeld => ?_)
    clear hK K
    refine norm_ (a' := ?_) ?_ ?_
    rotate_left
    · show Act.put _ (some 69) _ = _
      simp only [Act.put, List.setIfInBounds_toArray, List.set_cons_zero, List.set_cons_succ, i64_w, i32_w]
      rfl
    refine pure_ (i := 8) (N := some 70) (v := ?_) (a' := ?_) #[true, true, true, true, true, true, true, true, true, false] rfl rfl (by kernel_rfl) (fun _ _ _ h => h) (Or.inl ⟨by rfl, ?_⟩) ?_ ?_
    rotate_left
    · intro w'
      go_simp
      with_reducible rfl
    rotate_left
    · simp only [Act.put, List.setIfInBounds_toArray, List.set_cons_zero, List.set_cons_succ, i64_w, i32_w]
      rfl
    refine last_ (i := 9) (N := none) #[true, true, true, true, true, true, true, true, true, true] rfl rfl (by kernel_rfl) (by decide) (fun K hK => ?_)
    refine skip_ (w1 := ?_) (by rfl) rfl ?_ ?_
    rotate_left
    · go_simp
      rfl
    refine hK.out _ _ ?_
    clear hK K
    refine done_ (by kernel_rfl) ?_
    clear hHeld x4 hn4b hf4b ESd_2 ESc_2 ESp_2 HN7 HV SZ HX
    go_upto_region 11 with (fail)
    generalize hW9 : World.setCell w8_2 _ _ = W9_2
    have ESb2 := Aside0.mk (show ExP w0 w W9_2 g _ en w.heap.size bn t.f1 ⟨#[]⟩ 0 (pplace (t :: T) en) (.slice A8_2 1 c8_2) (([] : List S25) ++ [a2]) from by rw [← hW9]; exact ESa.out)
    clear hW9 ESa
    have x0_ := (blk_cell ESb2.out.nb 0).trans rfl
    go_upto_block 0 with (fail)
    clear x0_
    by_cases hq0 : t.f1.toList = ([108, 105, 110, 101, 97, 114] : List UInt8)
    · skip
      have e0 : (t.f1.toList == ([108, 105, 110, 101, 97, 114] : List UInt8)) = true := by rw [hq0]; rfl
      have hq := HH.out
      clear HH
      rw [if_pos hq0] at hq
      have HH := Aside0.mk hq
      clear hq
      clear hq0
      have hq := HH.out
      clear HH
      simp only [pbd_assoc] at hq
      have HH := Aside0.mk hq
      clear hq
      have hh := HH.out
      clear HH
      rcases pbd_inv hh with ⟨x, hx, rfl⟩ | ⟨u, T3, hx, h1⟩
      · have HX := Aside0.mk hx
        clear hx hh
        go_wp2_with (go_at_call 36; (with_reducible refine (pmust_bad HX.out g w0 _ ESb2.out.rs.start).mono ?_); rintro e w2 ⟨rfl, h2⟩; exact ⟨rfl, ESb2.out.rs.bad ⟨rfl, h2⟩⟩)
      have HX := Aside0.mk hx
      have HH := Aside0.mk h1
      clear hx h1 hh
      go_upto_region 16 with (go_at_call 36; (with_reducible refine (pmust_ok HX.out g w0 _ ESb2.out.rs.start).mono ?_); rintro e w_3 ⟨rfl, h2⟩; have ES3 := Aside0.mk (ESb2.out.call h2); clear h2)
      clear HX ESb2
      refine start_ (n := 8) (S := fun w' => w'.cell? ⟨bn, 4, none⟩ = some (.slice A8_2 1 c8_2)) (ds := [7]) #[false, false, false, false, false, false, false, false] (by kernel_rfl) rfl rfl ?hS (fun hHeld => ?_)
      case hS => exact (blk_cell (blk_drew ES3.out.nb) 4).trans rfl
      have ESd_4 := Aside0.mk ES3.out.drew
      clear ES3
      generalize World.drew w_3 = wd_4 at *
      have x4 := (blk_cell ESd_4.out.nb 4).trans rfl
      refine pure_ (i := 0) (N := some 88) (v := ?_) (a' := ?_) #[true, false, false, false, false, false, false, false] rfl rfl (by kernel_rfl) (fun _ _ _ h => h) (Or.inl ⟨by rfl, ?_⟩) ?_ ?_
      rotate_left
      · intro w'
        go_simp
        with_reducible rfl
      rotate_left
      · simp only [Act.put, List.setIfInBounds_toArray, List.set_cons_zero, List.set_cons_succ, i64_w, i32_w]
        rfl
      refine pure_ (i := 2) (N := some 90) (v := ?_) (a' := ?_) #[true, false, true, false, false, false, false, false] rfl rfl (by kernel_rfl) (fun _ _ _ h => h) (Or.inl ⟨by rfl, ?_⟩) ?_ ?_
      rotate_left
      · intro w'
        go_simp
        with_reducible rfl
      rotate_left
      · simp only [Act.put, List.setIfInBounds_toArray, List.set_cons_zero, List.set_cons_succ, i64_w, i32_w]
        rfl
      refine take_ (i := 1) (N := some 89) (v := ?_) (a' := ?_) #[true, true, true, false, false, false, false, false] rfl rfl (by kernel_rfl) (fun _ _ _ h => h) (Or.inl ⟨by rfl, ?_⟩) hHeld ?_ ?_
      rotate_left
      · rintro w' s0
        go_simp
        with_reducible rfl
      rotate_left
      · simp only [Act.put, List.setIfInBounds_toArray, List.set_cons_zero, List.set_cons_succ, i64_w, i32_w]
        rfl
      have hh := HH.out
      clear HH
      rcases pbd_inv hh with ⟨x, hx, rfl⟩ | ⟨a4, T4, hx, h1⟩
      · have HX := Aside0.mk hx
        clear hx hh
        refine one_ (i := 3) (N := some 91) #[true, true, true, true, false, false, false, false] rfl rfl (by kernel_rfl) (by decide) (fun K hK => ?_)
        refine goesP_ Tryd.func34 (by kernel_rfl) rfl #[.pointer (some ⟨g, 0, none⟩)] (by rfl) rfl rfl (by first | rfl | (simp [Act.eval]; done) | (go_simp; done)) (R := PRes (α := S60) w0 wd_4 g en (fun t => nodeR wd_4 (pnumN t)) (.error x)) (pnumber_node g _ en _ w0 wd_4 ESd_4.out.rs.start HX.out) ?_
        rintro e w2 ⟨rfl, h2⟩
        exact .inl ⟨_, rfl, ⟨rfl, ESd_4.out.rs.bad ⟨rfl, h2⟩⟩⟩
      have HX := Aside0.mk hx
      have HH := Aside0.mk h1
      clear hx h1 hh
      refine one_ (i := 3) (N := some 91) #[true, true, true, true, false, false, false, false] rfl rfl (by kernel_rfl) (by decide) (fun K hK => ?_)
      refine goesP_ Tryd.func34 (by kernel_rfl) rfl #[.pointer (some ⟨g, 0, none⟩)] (by rfl) rfl rfl (by first | rfl | (simp [Act.eval]; done) | (go_simp; done)) (R := PRes (α := S60) w0 wd_4 g en (fun t => nodeR wd_4 (pnumN t)) (.ok (a4, T4))) (pnumber_node g _ en _ w0 wd_4 ESd_4.out.rs.start HX.out) ?_
      rintro e w2_4 ⟨⟨v, rfl, hN⟩, h2⟩
      obtain ⟨A_4, c_4, rfl⟩ := Kd.N_slice hN
      have ESc_4 := Aside0.mk (ESd_4.out.call h2)
      have SZ := Aside0.mk h2.kb.1
      have HV := Aside0.mk hN
      clear hN h2
      refine .inr ⟨_, rfl, ?_⟩
      try clear hHeld
      refine hK.out _ _ ((blk_cell ESc_4.out.nb 4).trans rfl) (fun hHeld => ?_)
      clear hK K
      refine norm_ (a' := ?_) ?_ ?_
      rotate_left
      · show Act.put _ (some 91) _ = _
        simp only [Act.put, List.setIfInBounds_toArray, List.set_cons_zero, List.set_cons_succ, i64_w, i32_w]
        rfl
      refine one_ (i := 4) (N := some 92) #[true, true, true, true, true, false, false, false] rfl rfl (by kernel_rfl) (by decide) (fun K hK => ?_)
      refine Kd.N_lit_step k25 (w0 := w2_4) w2_4.heap.size 25 (by rfl) (N' := 92) rfl (xs := [(pnumN a4)]) (inner := [.string (pnumN a4).f0, .string (pnumN a4).f1, .int .i64 (pnumN a4).f2, .int .i64 (pnumN a4).f3, .slice A_4 (pnumN a4).f4.length c_4]) (ok := (fun k => wd_4.heap.size ≤ k)) (okp := (fun k => wd_4.heap.size ≤ k)) ?hr ((Reps.none _ _).snoc (FKp_node HV.out) rfl) (fun _ hk => hk) ?hf (Below.refl _ _) (Nat.le_refl _) (by show 1 ≤ 9223372036854775807; decide) ?_
      case hr => first | (go_simp; done) | (go_simp; rfl)
      case hf => exact SZ.out
      intro v7 w7_4 hN7 hb7 hg7 hat7
      obtain ⟨A7, c7, rfl⟩ := Kd.N_slice hN7
      have ESp_4 := Aside0.mk (ESc_4.out.below hb7)
      have HN7 := Aside0.mk hN7
      clear hN7 hb7 hg7 hat7
      try clear hHeld
      refine hK.out _ _ ((blk_cell ESp_4.out.nb 4).trans rfl) (fun hHeld => ?_)
      clear hK K
      refine norm_ (a' := ?_) ?_ ?_
      rotate_left
      · show Act.put _ (some 92) _ = _
        simp only [Act.put, List.setIfInBounds_toArray, List.set_cons_zero, List.set_cons_succ, i64_w, i32_w]
        rfl
      refine one_ (i := 5) (N := some 93) #[true, true, true, true, true, true, false, false] rfl rfl (by kernel_rfl) (by decide) (fun K hK => ?_)
      refine Kd.N_append_rows_step k25 (w0 := w7_4) w.heap.size (by rfl) (.tmp 89) (.tmp 92) 23 25 (.agg #[.string (⟨#[]⟩ : ByteArray), .string (⟨#[]⟩ : ByteArray), .int .i64 0, .int .i64 0, .slice none 0 0]) 72 rfl Tryd.underlying23 info25 rfl (by decide) (by decide) (.slice A8_2 1 c8_2) (([] : List S25) ++ [a2]) [(pnumN a4)] A7 1 c7 (fun k => w.heap.size ≤ k ∧ k ≠ w.heap.size ∧ k ≠ bn) (fun k => wd_4.heap.size ≤ k) rfl rfl ESp_4.out.row (Kd.N_F HN7.out) ?hokp ?hfresh (Below.refl _ _) ?hbase (by first | omega | (simp; done) | (simp; omega)) ?_
      case hokp => intro k hk; have h1 := ESd_4.out.lt.1; have h2 := ESd_4.out.lt.2.1; have h3 := ESd_4.out.rs.kb.1; exact ⟨⟨by omega, by omega, by omega⟩, fun e => by have := (ESd_4.out.lt.2.2 k e.symm).1; omega⟩
      case hfresh => intro k hk; have h1 := ESp_4.out.lt.1; have h2 := ESp_4.out.lt.2.1; have h3 := ESp_4.out.rs.kb.1; exact ⟨by omega, by omega, by omega⟩
      case hbase => exact ESp_4.out.rs.kb.1
      intro v8 w8_4 hN8 hb8 hg8 hat8
      obtain ⟨A8_4, c8_4, hv8⟩ := Kd.N_slice hN8
      rw [show ((([] : List S25) ++ [a2]) ++ [(pnumN a4)]).length = 2 by simp] at hv8
      subst hv8
      have ESa := Aside0.mk (ESp_4.out.append hN8 hg8)
      obtain ⟨_, _, hnb8⟩ := ESp_4.out.grown hN8 hg8
      have hn4b := (blk_cell hnb8 4).trans rfl
      have hf4b := blk_frozen hnb8 4
      clear hN8 hb8 hg8 hat8 hnb8
      try clear hHeld
      refine hK.out _ _ hn4b (fun hHeld => ?_)
      clear hK K
      refine norm_ (a' := ?_) ?_ ?_
      rotate_left
      · show Act.put _ (some 93) _ = _
        simp only [Act.put, List.setIfInBounds_toArray, List.set_cons_zero, List.set_cons_succ, i64_w, i32_w]
        rfl
      refine pure_ (i := 6) (N := some 94) (v := ?_) (a' := ?_) #[true, true, true, true, true, true, true, false] rfl rfl (by kernel_rfl) (fun _ _ _ h => h) (Or.inl ⟨by rfl, ?_⟩) ?_ ?_
      rotate_left
      · intro w'
        go_simp
        with_reducible rfl
      rotate_left
      · simp only [Act.put, List.setIfInBounds_toArray, List.set_cons_zero, List.set_cons_succ, i64_w, i32_w]
        rfl
      refine last_ (i := 7) (N := none) #[true, true, true, true, true, true, true, true] rfl rfl (by kernel_rfl) (by decide) (fun K hK => ?_)
      refine skip_ (w1 := ?_) (by rfl) rfl ?_ ?_
      rotate_left
      · go_simp
        rfl
      refine hK.out _ _ ?_
      clear hK K
      refine done_ (by kernel_rfl) ?_
      clear hHeld x4 hn4b hf4b ESd_4 ESc_4 ESp_4 HN7 HV SZ HX
      go_upto_region 17 with (fail)
      generalize hW9 : World.setCell w8_4 _ _ = W9_4
      have ESb4 := Aside0.mk (show ExP w0 w W9_4 g _ en w.heap.size bn t.f1 ⟨#[]⟩ 0 (pplace (t :: T) en) (.slice A8_4 2 c8_4) ((([] : List S25) ++ [a2]) ++ [(pnumN a4)]) from by rw [← hW9]; exact ESa.out)
      clear hW9 ESa
      have hh := HH.out
      clear HH
      rcases pbd_inv hh with ⟨x, hx, rfl⟩ | ⟨u, T5, hx, h1⟩
      · have HX := Aside0.mk hx
        clear hx hh
        go_wp2_with (go_at_call 36; (with_reducible refine (pmust_bad HX.out g w0 _ ESb4.out.rs.start).mono ?_); rintro e w2 ⟨rfl, h2⟩; exact ⟨rfl, ESb4.out.rs.bad ⟨rfl, h2⟩⟩)
      have HX := Aside0.mk hx
      have HH := Aside0.mk h1
      clear hx h1 hh
      go_upto_region 18 with (go_at_call 36; (with_reducible refine (pmust_ok HX.out g w0 _ ESb4.out.rs.start).mono ?_); rintro e w_5 ⟨rfl, h2⟩; have ES5 := Aside0.mk (ESb4.out.call h2); clear h2)
      clear HX ESb4
      refine start_ (n := 8) (S := fun w' => w'.cell? ⟨bn, 4, none⟩ = some (.slice A8_4 2 c8_4)) (ds := [7]) #[false, false, false, false, false, false, false, false] (by kernel_rfl) rfl rfl ?hS (fun hHeld => ?_)
      case hS => exact (blk_cell (blk_drew ES5.out.nb) 4).trans rfl
      have ESd_6 := Aside0.mk ES5.out.drew
      clear ES5
      generalize World.drew w_5 = wd_6 at *
      have x4 := (blk_cell ESd_6.out.nb 4).trans rfl
      refine pure_ (i := 0) (N := some 97) (v := ?_) (a' := ?_) #[true, false, false, false, false, false, false, false] rfl rfl (by kernel_rfl) (fun _ _ _ h => h) (Or.inl ⟨by rfl, ?_⟩) ?_ ?_
      rotate_left
      · intro w'
        go_simp
        with_reducible rfl
      rotate_left
      · simp only [Act.put, List.setIfInBounds_toArray, List.set_cons_zero, List.set_cons_succ, i64_w, i32_w]
        rfl
      refine pure_ (i := 2) (N := some 99) (v := ?_) (a' := ?_) #[true, false, true, false, false, false, false, false] rfl rfl (by kernel_rfl) (fun _ _ _ h => h) (Or.inl ⟨by rfl, ?_⟩) ?_ ?_
      rotate_left
      · intro w'
        go_simp
        with_reducible rfl
      rotate_left
      · simp only [Act.put, List.setIfInBounds_toArray, List.set_cons_zero, List.set_cons_succ, i64_w, i32_w]
        rfl
      refine take_ (i := 1) (N := some 98) (v := ?_) (a' := ?_) #[true, true, true, false, false, false, false, false] rfl rfl (by kernel_rfl) (fun _ _ _ h => h) (Or.inl ⟨by rfl, ?_⟩) hHeld ?_ ?_
      rotate_left
      · rintro w' s0
        go_simp
        with_reducible rfl
      rotate_left
      · simp only [Act.put, List.setIfInBounds_toArray, List.set_cons_zero, List.set_cons_succ, i64_w, i32_w]
        rfl
      have hh := HH.out
      clear HH
      rcases pbd_inv hh with ⟨x, hx, rfl⟩ | ⟨a6, T6, hx, h1⟩
      · have HX := Aside0.mk hx
        clear hx hh
        refine one_ (i := 3) (N := some 100) #[true, true, true, true, false, false, false, false] rfl rfl (by kernel_rfl) (by decide) (fun K hK => ?_)
        refine goesP_ Tryd.func34 (by kernel_rfl) rfl #[.pointer (some ⟨g, 0, none⟩)] (by rfl) rfl rfl (by first | rfl | (simp [Act.eval]; done) | (go_simp; done)) (R := PRes (α := S60) w0 wd_6 g en (fun t => nodeR wd_6 (pnumN t)) (.error x)) (pnumber_node g _ en _ w0 wd_6 ESd_6.out.rs.start HX.out) ?_
        rintro e w2 ⟨rfl, h2⟩
        exact .inl ⟨_, rfl, ⟨rfl, ESd_6.out.rs.bad ⟨rfl, h2⟩⟩⟩
      have HX := Aside0.mk hx
      have HH := Aside0.mk h1
      clear hx h1 hh
      refine one_ (i := 3) (N := some 100) #[true, true, true, true, false, false, false, false] rfl rfl (by kernel_rfl) (by decide) (fun K hK => ?_)
      refine goesP_ Tryd.func34 (by kernel_rfl) rfl #[.pointer (some ⟨g, 0, none⟩)] (by rfl) rfl rfl (by first | rfl | (simp [Act.eval]; done) | (go_simp; done)) (R := PRes (α := S60) w0 wd_6 g en (fun t => nodeR wd_6 (pnumN t)) (.ok (a6, T6))) (pnumber_node g _ en _ w0 wd_6 ESd_6.out.rs.start HX.out) ?_
      rintro e w2_6 ⟨⟨v, rfl, hN⟩, h2⟩
      obtain ⟨A_6, c_6, rfl⟩ := Kd.N_slice hN
      have ESc_6 := Aside0.mk (ESd_6.out.call h2)
      have SZ := Aside0.mk h2.kb.1
      have HV := Aside0.mk hN
      clear hN h2
      refine .inr ⟨_, rfl, ?_⟩
      try clear hHeld
      refine hK.out _ _ ((blk_cell ESc_6.out.nb 4).trans rfl) (fun hHeld => ?_)
      clear hK K
      refine norm_ (a' := ?_) ?_ ?_
      rotate_left
      · show Act.put _ (some 100) _ = _
        simp only [Act.put, List.setIfInBounds_toArray, List.set_cons_zero, List.set_cons_succ, i64_w, i32_w]
        rfl
      refine one_ (i := 4) (N := some 101) #[true, true, true, true, true, false, false, false] rfl rfl (by kernel_rfl) (by decide) (fun K hK => ?_)
      refine Kd.N_lit_step k25 (w0 := w2_6) w2_6.heap.size 25 (by rfl) (N' := 101) rfl (xs := [(pnumN a6)]) (inner := [.string (pnumN a6).f0, .string (pnumN a6).f1, .int .i64 (pnumN a6).f2, .int .i64 (pnumN a6).f3, .slice A_6 (pnumN a6).f4.length c_6]) (ok := (fun k => wd_6.heap.size ≤ k)) (okp := (fun k => wd_6.heap.size ≤ k)) ?hr ((Reps.none _ _).snoc (FKp_node HV.out) rfl) (fun _ hk => hk) ?hf (Below.refl _ _) (Nat.le_refl _) (by show 1 ≤ 9223372036854775807; decide) ?_
      case hr => first | (go_simp; done) | (go_simp; rfl)
      case hf => exact SZ.out
      intro v7 w7_6 hN7 hb7 hg7 hat7
      obtain ⟨A7, c7, rfl⟩ := Kd.N_slice hN7
      have ESp_6 := Aside0.mk (ESc_6.out.below hb7)
      have HN7 := Aside0.mk hN7
      clear hN7 hb7 hg7 hat7
      try clear hHeld
      refine hK.out _ _ ((blk_cell ESp_6.out.nb 4).trans rfl) (fun hHeld => ?_)
      clear hK K
      refine norm_ (a' := ?_) ?_ ?_
      rotate_left
      · show Act.put _ (some 101) _ = _
        simp only [Act.put, List.setIfInBounds_toArray, List.set_cons_zero, List.set_cons_succ, i64_w, i32_w]
        rfl
      refine one_ (i := 5) (N := some 102) #[true, true, true, true, true, true, false, false] rfl rfl (by kernel_rfl) (by decide) (fun K hK => ?_)
      refine Kd.N_append_rows_step k25 (w0 := w7_6) w.heap.size (by rfl) (.tmp 98) (.tmp 101) 23 25 (.agg #[.string (⟨#[]⟩ : ByteArray), .string (⟨#[]⟩ : ByteArray), .int .i64 0, .int .i64 0, .slice none 0 0]) 72 rfl Tryd.underlying23 info25 rfl (by decide) (by decide) (.slice A8_4 2 c8_4) ((([] : List S25) ++ [a2]) ++ [(pnumN a4)]) [(pnumN a6)] A7 1 c7 (fun k => w.heap.size ≤ k ∧ k ≠ w.heap.size ∧ k ≠ bn) (fun k => wd_6.heap.size ≤ k) rfl rfl ESp_6.out.row (Kd.N_F HN7.out) ?hokp ?hfresh (Below.refl _ _) ?hbase (by first | omega | (simp; done) | (simp; omega)) ?_
      case hokp => intro k hk; have h1 := ESd_6.out.lt.1; have h2 := ESd_6.out.lt.2.1; have h3 := ESd_6.out.rs.kb.1; exact ⟨⟨by omega, by omega, by omega⟩, fun e => by have := (ESd_6.out.lt.2.2 k e.symm).1; omega⟩
      case hfresh => intro k hk; have h1 := ESp_6.out.lt.1; have h2 := ESp_6.out.lt.2.1; have h3 := ESp_6.out.rs.kb.1; exact ⟨by omega, by omega, by omega⟩
      case hbase => exact ESp_6.out.rs.kb.1
      intro v8 w8_6 hN8 hb8 hg8 hat8
      obtain ⟨A8_6, c8_6, hv8⟩ := Kd.N_slice hN8
      rw [show (((([] : List S25) ++ [a2]) ++ [(pnumN a4)]) ++ [(pnumN a6)]).length = 3 by simp] at hv8
      subst hv8
      have ESa := Aside0.mk (ESp_6.out.append hN8 hg8)
      obtain ⟨_, _, hnb8⟩ := ESp_6.out.grown hN8 hg8
      have hn4b := (blk_cell hnb8 4).trans rfl
      have hf4b := blk_frozen hnb8 4
      clear hN8 hb8 hg8 hat8 hnb8
      try clear hHeld
      refine hK.out _ _ hn4b (fun hHeld => ?_)
      clear hK K
      refine norm_ (a' := ?_) ?_ ?_
      rotate_left
      · show Act.put _ (some 102) _ = _
        simp only [Act.put, List.setIfInBounds_toArray, List.set_cons_zero, List.set_cons_succ, i64_w, i32_w]
        rfl
      refine pure_ (i := 6) (N := some 103) (v := ?_) (a' := ?_) #[true, true, true, true, true, true, true, false] rfl rfl (by kernel_rfl) (fun _ _ _ h => h) (Or.inl ⟨by rfl, ?_⟩) ?_ ?_
      rotate_left
      · intro w'
        go_simp
        with_reducible rfl
      rotate_left
      · simp only [Act.put, List.setIfInBounds_toArray, List.set_cons_zero, List.set_cons_succ, i64_w, i32_w]
        rfl
      refine last_ (i := 7) (N := none) #[true, true, true, true, true, true, true, true] rfl rfl (by kernel_rfl) (by decide) (fun K hK => ?_)
      refine skip_ (w1 := ?_) (by rfl) rfl ?_ ?_
      rotate_left
      · go_simp
        rfl
      refine hK.out _ _ ?_
      clear hK K
      refine done_ (by kernel_rfl) ?_
      clear hHeld x4 hn4b hf4b ESd_6 ESc_6 ESp_6 HN7 HV SZ HX
      go_upto_region 29 with (fail)
      generalize hW9 : World.setCell w8_6 _ _ = W9_6
      have ESb6 := Aside0.mk (show ExP w0 w W9_6 g _ en w.heap.size bn t.f1 ⟨#[]⟩ 0 (pplace (t :: T) en) (.slice A8_6 3 c8_6) (((([] : List S25) ++ [a2]) ++ [(pnumN a4)]) ++ [(pnumN a6)]) from by rw [← hW9]; exact ESa.out)
      clear hW9 ESa
      have hq := HH.out
      clear HH
      rw [pbd_ok] at hq
      have HH := Aside0.mk hq
      clear hq
      have hh := HH.out
      clear HH
      rcases pbd_inv hh with ⟨x, hx, rfl⟩ | ⟨u, T7, hx, h1⟩
      · have HX := Aside0.mk hx
        clear hx hh
        go_wp2_with (go_at_call 36; (with_reducible refine (pmust_bad HX.out g w0 _ ESb6.out.rs.start).mono ?_); rintro e w2 ⟨rfl, h2⟩; exact ⟨rfl, ESb6.out.rs.bad ⟨rfl, h2⟩⟩)
      have HX := Aside0.mk hx
      have HH := Aside0.mk h1
      clear hx h1 hh
      go_upto_region 30 with (go_at_call 36; (with_reducible refine (pmust_ok HX.out g w0 _ ESb6.out.rs.start).mono ?_); rintro e w_7 ⟨rfl, h2⟩; have ES7 := Aside0.mk (ESb6.out.call h2); clear h2)
      clear HX ESb6
      have hh := HH.out
      clear HH
      simp only [Option.some.injEq] at hh
      subst hh
      have hn0 := (blk_cell ES7.out.nb 0).trans rfl
      have hn1 := (blk_cell ES7.out.nb 1).trans rfl
      have hn2 := (blk_cell ES7.out.nb 2).trans rfl
      have hn3 := (blk_cell ES7.out.nb 3).trans rfl
      have hn4 := (blk_cell ES7.out.nb 4).trans rfl
      have hr0 := (blk_cell ES7.out.r4 0).trans rfl
      have hf0 := blk_frozen ES7.out.r4 0
      have hr1 := (blk_cell ES7.out.r4 1).trans rfl
      have hf1 := blk_frozen ES7.out.r4 1
      have hr2 := (blk_cell ES7.out.r4 2).trans rfl
      have hf2 := blk_frozen ES7.out.r4 2
      have hr3 := (blk_cell ES7.out.r4 3).trans rfl
      have hf3 := blk_frozen ES7.out.r4 3
      have hr4 := (blk_cell ES7.out.r4 4).trans rfl
      have hf4 := blk_frozen ES7.out.r4 4
      go_wp2
      have RSz := ((((((((((ES7.out.rs).far (b := w.heap.size) (j := 0) (Nat.ne_of_lt GW.out) (Nat.le_refl _) WW.out (.string t.f1))).far (b := w.heap.size) (j := 1) (Nat.ne_of_lt GW.out) (Nat.le_refl _) WW.out (.string ⟨#[]⟩))).far (b := w.heap.size) (j := 2) (Nat.ne_of_lt GW.out) (Nat.le_refl _) WW.out (.int .i64 0))).far (b := w.heap.size) (j := 3) (Nat.ne_of_lt GW.out) (Nat.le_refl _) WW.out (.int .i64 (pplace (t :: T) en)))).far (b := w.heap.size) (j := 4) (Nat.ne_of_lt GW.out) (Nat.le_refl _) WW.out (.slice A8_6 3 c8_6))
      have hNz := Kd.N_far (p := ⟨w.heap.size, 4, none⟩) (Kd.N_far (p := ⟨w.heap.size, 3, none⟩) (Kd.N_far (p := ⟨w.heap.size, 2, none⟩) (Kd.N_far (p := ⟨w.heap.size, 1, none⟩) (Kd.N_far (p := ⟨w.heap.size, 0, none⟩) ES7.out.row (fun k hk => hk.2.1) (.string t.f1)) (fun k hk => hk.2.1) (.string ⟨#[]⟩)) (fun k hk => hk.2.1) (.int .i64 0)) (fun k hk => hk.2.1) (.int .i64 (pplace (t :: T) en))) (fun k hk => hk.2.1) (.slice A8_6 3 c8_6)
      refine bodyPost_ret (results_cell_row rfl _ _ w.heap.size 25 #[.string t.f1, .string ⟨#[]⟩, .int .i64 0, .int .i64 (pplace (t :: T) en), .slice A8_6 3 c8_6] (0, 0) _ rfl (blk_put (blk_put (blk_put (blk_put (blk_put ES7.out.r4 0 (.string t.f1) rfl) 1 (.string ⟨#[]⟩) rfl) 2 (.int .i64 0) rfl) 3 (.int .i64 (pplace (t :: T) en)) rfl) 4 (.slice A8_6 3 c8_6) rfl) Tryd.underlying25 rfl (by kernel_rfl)) rfl ?_
      exact ⟨⟨_, rfl, Kd.N_mono hNz (fun k hk => hk.1)⟩, RSz⟩
    have e0 : (t.f1.toList == ([108, 105, 110, 101, 97, 114] : List UInt8)) = false := beq_eq_false_iff_ne.2 hq0
    have hq := HH.out
    clear HH
    rw [if_neg hq0] at hq
    have HH := Aside0.mk hq
    clear hq
    clear hq0
    by_cases hq1 : t.f1.toList = ([115, 110, 97, 112, 115, 104, 111, 116] : List UInt8)
    · skip
      have e1 : (t.f1.toList == ([115, 110, 97, 112, 115, 104, 111, 116] : List UInt8)) = true := by rw [hq1]; rfl
      have hq := HH.out
      clear HH
      rw [if_pos hq1] at hq
      have HH := Aside0.mk hq
      clear hq
      clear hq1
      have hq := HH.out
      clear HH
      simp only [pbd_assoc] at hq
      have HH := Aside0.mk hq
      clear hq
      have hh := HH.out
      clear HH
      rcases pbd_inv hh with ⟨x, hx, rfl⟩ | ⟨u, T8, hx, h1⟩
      · have HX := Aside0.mk hx
        clear hx hh
        go_wp2_with (go_at_call 36; (with_reducible refine (pmust_bad HX.out g w0 _ ESb2.out.rs.start).mono ?_); rintro e w2 ⟨rfl, h2⟩; exact ⟨rfl, ESb2.out.rs.bad ⟨rfl, h2⟩⟩)
      have HX := Aside0.mk hx
      have HH := Aside0.mk h1
      clear hx h1 hh
      go_upto_region 21 with (go_at_call 36; (with_reducible refine (pmust_ok HX.out g w0 _ ESb2.out.rs.start).mono ?_); rintro e w_8 ⟨rfl, h2⟩; have ES8 := Aside0.mk (ESb2.out.call h2); clear h2)
      clear HX ESb2
      refine start_ (n := 10) (S := fun w' => w'.cell? ⟨bn, 4, none⟩ = some (.slice A8_2 1 c8_2)) (ds := [9]) #[false, false, false, false, false, false, false, false, false, false] (by kernel_rfl) rfl rfl ?hS (fun hHeld => ?_)
      case hS => exact (blk_cell (blk_drew ES8.out.nb) 4).trans rfl
      have ESd_9 := Aside0.mk ES8.out.drew
      clear ES8
      generalize World.drew w_8 = wd_9 at *
      have x4 := (blk_cell ESd_9.out.nb 4).trans rfl
      refine pure_ (i := 0) (N := some 108) (v := ?_) (a' := ?_) #[true, false, false, false, false, false, false, false, false, false] rfl rfl (by kernel_rfl) (fun _ _ _ h => h) (Or.inl ⟨by rfl, ?_⟩) ?_ ?_
      rotate_left
      · intro w'
        go_simp
        with_reducible rfl
      rotate_left
      · simp only [Act.put, List.setIfInBounds_toArray, List.set_cons_zero, List.set_cons_succ, i64_w, i32_w]
        rfl
      refine pure_ (i := 2) (N := some 110) (v := ?_) (a' := ?_) #[true, false, true, false, false, false, false, false, false, false] rfl rfl (by kernel_rfl) (fun _ _ _ h => h) (Or.inl ⟨by rfl, ?_⟩) ?_ ?_
      rotate_left
      · intro w'
        go_simp
        with_reducible rfl
      rotate_left
      · simp only [Act.put, List.setIfInBounds_toArray, List.set_cons_zero, List.set_cons_succ, i64_w, i32_w]
        rfl
      refine pure_ (i := 3) (N := some 111) (v := ?_) (a' := ?_) #[true, false, true, true, false, false, false, false, false, false] rfl rfl (by kernel_rfl) (fun _ _ _ h => h) (Or.inl ⟨by rfl, ?_⟩) ?_ ?_
      rotate_left
      · intro w'
        go_simp
        with_reducible rfl
      rotate_left
      · simp only [Act.put, List.setIfInBounds_toArray, List.set_cons_zero, List.set_cons_succ, i64_w, i32_w]
        rfl
      refine pure_ (i := 4) (N := some 112) (v := ?_) (a' := ?_) #[true, false, true, true, true, false, false, false, false, false] rfl rfl (by kernel_rfl) (fun _ _ _ h => h) (Or.inl ⟨by rfl, ?_⟩) ?_ ?_
      rotate_left
      · intro w'
        go_simp
        with_reducible rfl
      rotate_left
      · simp only [Act.put, List.setIfInBounds_toArray, List.set_cons_zero, List.set_cons_succ, i64_w, i32_w]
        rfl
      refine take_ (i := 1) (N := some 109) (v := ?_) (a' := ?_) #[true, true, true, true, true, false, false, false, false, false] rfl rfl (by kernel_rfl) (fun _ _ _ h => h) (Or.inl ⟨by rfl, ?_⟩) hHeld ?_ ?_
      rotate_left
      · rintro w' s0
        go_simp
        with_reducible rfl
      rotate_left
      · simp only [Act.put, List.setIfInBounds_toArray, List.set_cons_zero, List.set_cons_succ, i64_w, i32_w]
        rfl
      have hh := HH.out
      clear HH
      rcases pbd_inv hh with ⟨x, hx, rfl⟩ | ⟨a9, T9, hx, h1⟩
      · have HX := Aside0.mk hx
        clear hx hh
        refine one_ (i := 5) (N := some 113) #[true, true, true, true, true, true, false, false, false, false] rfl rfl (by kernel_rfl) (by decide) (fun K hK => ?_)
        refine goesP_ Tryd.func37 (by kernel_rfl) rfl #[.pointer (some ⟨g, 0, none⟩), .int .i64 (wrap64 (nest + 1))] (by rfl) rfl rfl (by first | rfl | (simp [Act.eval]; done) | (go_simp; done)) (R := PRes (α := S25) w0 wd_9 g en (nodeR wd_9) (.error x)) (by rw [HWR.out]; exact (IH.out).use g _ en _ _ w0 wd_9 ESd_9.out.rs.start HX.out) ?_
        rintro e w2 ⟨rfl, h2⟩
        exact .inl ⟨_, rfl, ⟨rfl, ESd_9.out.rs.bad ⟨rfl, h2⟩⟩⟩
      have HX := Aside0.mk hx
      have HH := Aside0.mk h1
      clear hx h1 hh
      refine one_ (i := 5) (N := some 113) #[true, true, true, true, true, true, false, false, false, false] rfl rfl (by kernel_rfl) (by decide) (fun K hK => ?_)
      refine goesP_ Tryd.func37 (by kernel_rfl) rfl #[.pointer (some ⟨g, 0, none⟩), .int .i64 (wrap64 (nest + 1))] (by rfl) rfl rfl (by first | rfl | (simp [Act.eval]; done) | (go_simp; done)) (R := PRes (α := S25) w0 wd_9 g en (nodeR wd_9) (.ok (a9, T9))) (by rw [HWR.out]; exact (IH.out).use g _ en _ _ w0 wd_9 ESd_9.out.rs.start HX.out) ?_
      rintro e w2_9 ⟨⟨v, rfl, hN⟩, h2⟩
      obtain ⟨A_9, c_9, rfl⟩ := Kd.N_slice hN
      have ESc_9 := Aside0.mk (ESd_9.out.call h2)
      have SZ := Aside0.mk h2.kb.1
      have HV := Aside0.mk hN
      clear hN h2
      refine .inr ⟨_, rfl, ?_⟩
      try clear hHeld
      refine hK.out _ _ ((blk_cell ESc_9.out.nb 4).trans rfl) (fun hHeld => ?_)
      clear hK K
      refine norm_ (a' := ?_) ?_ ?_
      rotate_left
      · show Act.put _ (some 113) _ = _
        simp only [Act.put, List.setIfInBounds_toArray, List.set_cons_zero, List.set_cons_succ, i64_w, i32_w]
        rfl
      refine one_ (i := 6) (N := some 114) #[true, true, true, true, true, true, true, false, false, false] rfl rfl (by kernel_rfl) (by decide) (fun K hK => ?_)
      refine Kd.N_lit_step k25 (w0 := w2_9) w2_9.heap.size 25 (by rfl) (N' := 114) rfl (xs := [a9]) (inner := [.string a9.f0, .string a9.f1, .int .i64 a9.f2, .int .i64 a9.f3, .slice A_9 a9.f4.length c_9]) (ok := (fun k => wd_9.heap.size ≤ k)) (okp := (fun k => wd_9.heap.size ≤ k)) ?hr ((Reps.none _ _).snoc (FKp_node HV.out) rfl) (fun _ hk => hk) ?hf (Below.refl _ _) (Nat.le_refl _) (by show 1 ≤ 9223372036854775807; decide) ?_
      case hr => first | (go_simp; done) | (go_simp; rfl)
      case hf => exact SZ.out
      intro v7 w7_9 hN7 hb7 hg7 hat7
      obtain ⟨A7, c7, rfl⟩ := Kd.N_slice hN7
      have ESp_9 := Aside0.mk (ESc_9.out.below hb7)
      have HN7 := Aside0.mk hN7
      clear hN7 hb7 hg7 hat7
      try clear hHeld
      refine hK.out _ _ ((blk_cell ESp_9.out.nb 4).trans rfl) (fun hHeld => ?_)
      clear hK K
      refine norm_ (a' := ?_) ?_ ?_
      rotate_left
      · show Act.put _ (some 114) _ = _
        simp only [Act.put, List.setIfInBounds_toArray, List.set_cons_zero, List.set_cons_succ, i64_w, i32_w]
        rfl
      refine one_ (i := 7) (N := some 115) #[true, true, true, true, true, true, true, true, false, false] rfl rfl (by kernel_rfl) (by decide) (fun K hK => ?_)
      refine Kd.N_append_rows_step k25 (w0 := w7_9) w.heap.size (by rfl) (.tmp 109) (.tmp 114) 23 25 (.agg #[.string (⟨#[]⟩ : ByteArray), .string (⟨#[]⟩ : ByteArray), .int .i64 0, .int .i64 0, .slice none 0 0]) 72 rfl Tryd.underlying23 info25 rfl (by decide) (by decide) (.slice A8_2 1 c8_2) (([] : List S25) ++ [a2]) [a9] A7 1 c7 (fun k => w.heap.size ≤ k ∧ k ≠ w.heap.size ∧ k ≠ bn) (fun k => wd_9.heap.size ≤ k) rfl rfl ESp_9.out.row (Kd.N_F HN7.out) ?hokp ?hfresh (Below.refl _ _) ?hbase (by first | omega | (simp; done) | (simp; omega)) ?_
      case hokp => intro k hk; have h1 := ESd_9.out.lt.1; have h2 := ESd_9.out.lt.2.1; have h3 := ESd_9.out.rs.kb.1; exact ⟨⟨by omega, by omega, by omega⟩, fun e => by have := (ESd_9.out.lt.2.2 k e.symm).1; omega⟩
      case hfresh => intro k hk; have h1 := ESp_9.out.lt.1; have h2 := ESp_9.out.lt.2.1; have h3 := ESp_9.out.rs.kb.1; exact ⟨by omega, by omega, by omega⟩
      case hbase => exact ESp_9.out.rs.kb.1
      intro v8 w8_9 hN8 hb8 hg8 hat8
      obtain ⟨A8_9, c8_9, hv8⟩ := Kd.N_slice hN8
      rw [show ((([] : List S25) ++ [a2]) ++ [a9]).length = 2 by simp] at hv8
      subst hv8
      have ESa := Aside0.mk (ESp_9.out.append hN8 hg8)
      obtain ⟨_, _, hnb8⟩ := ESp_9.out.grown hN8 hg8
      have hn4b := (blk_cell hnb8 4).trans rfl
      have hf4b := blk_frozen hnb8 4
      clear hN8 hb8 hg8 hat8 hnb8
      try clear hHeld
      refine hK.out _ _ hn4b (fun hHeld => ?_)
      clear hK K
      refine norm_ (a' := ?_) ?_ ?_
      rotate_left
      · show Act.put _ (some 115) _ = _
        simp only [Act.put, List.setIfInBounds_toArray, List.set_cons_zero, List.set_cons_succ, i64_w, i32_w]
        rfl
      refine pure_ (i := 8) (N := some 116) (v := ?_) (a' := ?_) #[true, true, true, true, true, true, true, true, true, false] rfl rfl (by kernel_rfl) (fun _ _ _ h => h) (Or.inl ⟨by rfl, ?_⟩) ?_ ?_
      rotate_left
      · intro w'
        go_simp
        with_reducible rfl
      rotate_left
      · simp only [Act.put, List.setIfInBounds_toArray, List.set_cons_zero, List.set_cons_succ, i64_w, i32_w]
        rfl
      refine last_ (i := 9) (N := none) #[true, true, true, true, true, true, true, true, true, true] rfl rfl (by kernel_rfl) (by decide) (fun K hK => ?_)
      refine skip_ (w1 := ?_) (by rfl) rfl ?_ ?_
      rotate_left
      · go_simp
        rfl
      refine hK.out _ _ ?_
      clear hK K
      refine done_ (by kernel_rfl) ?_
      clear hHeld x4 hn4b hf4b ESd_9 ESc_9 ESp_9 HN7 HV SZ HX
      go_upto_region 22 with (fail)
      generalize hW9 : World.setCell w8_9 _ _ = W9_9
      have ESb9 := Aside0.mk (show ExP w0 w W9_9 g _ en w.heap.size bn t.f1 ⟨#[]⟩ 0 (pplace (t :: T) en) (.slice A8_9 2 c8_9) ((([] : List S25) ++ [a2]) ++ [a9]) from by rw [← hW9]; exact ESa.out)
      clear hW9 ESa
      have hh := HH.out
      clear HH
      rcases pbd_inv hh with ⟨x, hx, rfl⟩ | ⟨u, T10, hx, h1⟩
      · have HX := Aside0.mk hx
        clear hx hh
        go_wp2_with (go_at_call 36; (with_reducible refine (pmust_bad HX.out g w0 _ ESb9.out.rs.start).mono ?_); rintro e w2 ⟨rfl, h2⟩; exact ⟨rfl, ESb9.out.rs.bad ⟨rfl, h2⟩⟩)
      have HX := Aside0.mk hx
      have HH := Aside0.mk h1
      clear hx h1 hh
      go_upto_region 23 with (go_at_call 36; (with_reducible refine (pmust_ok HX.out g w0 _ ESb9.out.rs.start).mono ?_); rintro e w_10 ⟨rfl, h2⟩; have ES10 := Aside0.mk (ESb9.out.call h2); clear h2)
      clear HX ESb9
      refine start_ (n := 8) (S := fun w' => w'.cell? ⟨bn, 4, none⟩ = some (.slice A8_9 2 c8_9)) (ds := [7]) #[false, false, false, false, false, false, false, false] (by kernel_rfl) rfl rfl ?hS (fun hHeld => ?_)
      case hS => exact (blk_cell (blk_drew ES10.out.nb) 4).trans rfl
      have ESd_11 := Aside0.mk ES10.out.drew
      clear ES10
      generalize World.drew w_10 = wd_11 at *
      have x4 := (blk_cell ESd_11.out.nb 4).trans rfl
      refine pure_ (i := 0) (N := some 119) (v := ?_) (a' := ?_) #[true, false, false, false, false, false, false, false] rfl rfl (by kernel_rfl) (fun _ _ _ h => h) (Or.inl ⟨by rfl, ?_⟩) ?_ ?_
      rotate_left
      · intro w'
        go_simp
        with_reducible rfl
      rotate_left
      · simp only [Act.put, List.setIfInBounds_toArray, List.set_cons_zero, List.set_cons_succ, i64_w, i32_w]
        rfl
      refine pure_ (i := 2) (N := some 121) (v := ?_) (a' := ?_) #[true, false, true, false, false, false, false, false] rfl rfl (by kernel_rfl) (fun _ _ _ h => h) (Or.inl ⟨by rfl, ?_⟩) ?_ ?_
      rotate_left
      · intro w'
        go_simp
        with_reducible rfl
      rotate_left
      · simp only [Act.put, List.setIfInBounds_toArray, List.set_cons_zero, List.set_cons_succ, i64_w, i32_w]
        rfl
      refine take_ (i := 1) (N := some 120) (v := ?_) (a' := ?_) #[true, true, true, false, false, false, false, false] rfl rfl (by kernel_rfl) (fun _ _ _ h => h) (Or.inl ⟨by rfl, ?_⟩) hHeld ?_ ?_
      rotate_left
      · rintro w' s0
        go_simp
        with_reducible rfl
      rotate_left
      · simp only [Act.put, List.setIfInBounds_toArray, List.set_cons_zero, List.set_cons_succ, i64_w, i32_w]
        rfl
      have hh := HH.out
      clear HH
      rcases pbd_inv hh with ⟨x, hx, rfl⟩ | ⟨a11, T11, hx, h1⟩
      · have HX := Aside0.mk hx
        clear hx hh
        refine one_ (i := 3) (N := some 122) #[true, true, true, true, false, false, false, false] rfl rfl (by kernel_rfl) (by decide) (fun K hK => ?_)
        refine goesP_ Tryd.func34 (by kernel_rfl) rfl #[.pointer (some ⟨g, 0, none⟩)] (by rfl) rfl rfl (by first | rfl | (simp [Act.eval]; done) | (go_simp; done)) (R := PRes (α := S60) w0 wd_11 g en (fun t => nodeR wd_11 (pnumN t)) (.error x)) (pnumber_node g _ en _ w0 wd_11 ESd_11.out.rs.start HX.out) ?_
        rintro e w2 ⟨rfl, h2⟩
        exact .inl ⟨_, rfl, ⟨rfl, ESd_11.out.rs.bad ⟨rfl, h2⟩⟩⟩
      have HX := Aside0.mk hx
      have HH := Aside0.mk h1
      clear hx h1 hh
      refine one_ (i := 3) (N := some 122) #[true, true, true, true, false, false, false, false] rfl rfl (by kernel_rfl) (by decide) (fun K hK => ?_)
      refine goesP_ Tryd.func34 (by kernel_rfl) rfl #[.pointer (some ⟨g, 0, none⟩)] (by rfl) rfl rfl (by first | rfl | (simp [Act.eval]; done) | (go_simp; done)) (R := PRes (α := S60) w0 wd_11 g en (fun t => nodeR wd_11 (pnumN t)) (.ok (a11, T11))) (pnumber_node g _ en _ w0 wd_11 ESd_11.out.rs.start HX.out) ?_
      rintro e w2_11 ⟨⟨v, rfl, hN⟩, h2⟩
      obtain ⟨A_11, c_11, rfl⟩ := Kd.N_slice hN
      have ESc_11 := Aside0.mk (ESd_11.out.call h2)
      have SZ := Aside0.mk h2.kb.1
      have HV := Aside0.mk hN
      clear hN h2
      refine .inr ⟨_, rfl, ?_⟩
      try clear hHeld
      refine hK.out _ _ ((blk_cell ESc_11.out.nb 4).trans rfl) (fun hHeld => ?_)
      clear hK K
      refine norm_ (a' := ?_) ?_ ?_
      rotate_left
      · show Act.put _ (some 122) _ = _
        simp only [Act.put, List.setIfInBounds_toArray, List.set_cons_zero, List.set_cons_succ, i64_w, i32_w]
        rfl
      refine one_ (i := 4) (N := some 123) #[true, true, true, true, true, false, false, false] rfl rfl (by kernel_rfl) (by decide) (fun K hK => ?_)
      refine Kd.N_lit_step k25 (w0 := w2_11) w2_11.heap.size 25 (by rfl) (N' := 123) rfl (xs := [(pnumN a11)]) (inner := [.string (pnumN a11).f0, .string (pnumN a11).f1, .int .i64 (pnumN a11).f2, .int .i64 (pnumN a11).f3, .slice A_11 (pnumN a11).f4.length c_11]) (ok := (fun k => wd_11.heap.size ≤ k)) (okp := (fun k => wd_11.heap.size ≤ k)) ?hr ((Reps.none _ _).snoc (FKp_node HV.out) rfl) (fun _ hk => hk) ?hf (Below.refl _ _) (Nat.le_refl _) (by show 1 ≤ 9223372036854775807; decide) ?_
      case hr => first | (go_simp; done) | (go_simp; rfl)
      case hf => exact SZ.out
      intro v7 w7_11 hN7 hb7 hg7 hat7
      obtain ⟨A7, c7, rfl⟩ := Kd.N_slice hN7
      have ESp_11 := Aside0.mk (ESc_11.out.below hb7)
      have HN7 := Aside0.mk hN7
      clear hN7 hb7 hg7 hat7
      try clear hHeld
      refine hK.out _ _ ((blk_cell ESp_11.out.nb 4).trans rfl) (fun hHeld => ?_)
      clear hK K
      refine norm_ (a' := ?_) ?_ ?_
      rotate_left
      · show Act.put _ (some 123) _ = _
        simp only [Act.put, List.setIfInBounds_toArray, List.set_cons_zero, List.set_cons_succ, i64_w, i32_w]
        rfl
      refine one_ (i := 5) (N := some 124) #[true, true, true, true, true, true, false, false] rfl rfl (by kernel_rfl) (by decide) (fun K hK => ?_)
      refine Kd.N_append_rows_step k25 (w0 := w7_11) w.heap.size (by rfl) (.tmp 120) (.tmp 123) 23 25 (.agg #[.string (⟨#[]⟩ : ByteArray), .string (⟨#[]⟩ : ByteArray), .int .i64 0, .int .i64 0, .slice none 0 0]) 72 rfl Tryd.underlying23 info25 rfl (by decide) (by decide) (.slice A8_9 2 c8_9) ((([] : List S25) ++ [a2]) ++ [a9]) [(pnumN a11)] A7 1 c7 (fun k => w.heap.size ≤ k ∧ k ≠ w.heap.size ∧ k ≠ bn) (fun k => wd_11.heap.size ≤ k) rfl rfl ESp_11.out.row (Kd.N_F HN7.out) ?hokp ?hfresh (Below.refl _ _) ?hbase (by first | omega | (simp; done) | (simp; omega)) ?_
      case hokp => intro k hk; have h1 := ESd_11.out.lt.1; have h2 := ESd_11.out.lt.2.1; have h3 := ESd_11.out.rs.kb.1; exact ⟨⟨by omega, by omega, by omega⟩, fun e => by have := (ESd_11.out.lt.2.2 k e.symm).1; omega⟩
      case hfresh => intro k hk; have h1 := ESp_11.out.lt.1; have h2 := ESp_11.out.lt.2.1; have h3 := ESp_11.out.rs.kb.1; exact ⟨by omega, by omega, by omega⟩
      case hbase => exact ESp_11.out.rs.kb.1
      intro v8 w8_11 hN8 hb8 hg8 hat8
      obtain ⟨A8_11, c8_11, hv8⟩ := Kd.N_slice hN8
      rw [show (((([] : List S25) ++ [a2]) ++ [a9]) ++ [(pnumN a11)]).length = 3 by simp] at hv8
      subst hv8
      have ESa := Aside0.mk (ESp_11.out.append hN8 hg8)
      obtain ⟨_, _, hnb8⟩ := ESp_11.out.grown hN8 hg8
      have hn4b := (blk_cell hnb8 4).trans rfl
      have hf4b := blk_frozen hnb8 4
      clear hN8 hb8 hg8 hat8 hnb8
      try clear hHeld
      refine hK.out _ _ hn4b (fun hHeld => ?_)
      clear hK K
      refine norm_ (a' := ?_) ?_ ?_
      rotate_left
      · show Act.put _ (some 124) _ = _
        simp only [Act.put, List.setIfInBounds_toArray, List.set_cons_zero, List.set_cons_succ, i64_w, i32_w]
        rfl
      refine pure_ (i := 6) (N := some 125) (v := ?_) (a' := ?_) #[true, true, true, true, true, true, true, false] rfl rfl (by kernel_rfl) (fun _ _ _ h => h) (Or.inl ⟨by rfl, ?_⟩) ?_ ?_
      rotate_left
      · intro w'
        go_simp
        with_reducible rfl
      rotate_left
      · simp only [Act.put, List.setIfInBounds_toArray, List.set_cons_zero, List.set_cons_succ, i64_w, i32_w]
        rfl
      refine last_ (i := 7) (N := none) #[true, true, true, true, true, true, true, true] rfl rfl (by kernel_rfl) (by decide) (fun K hK => ?_)
      refine skip_ (w1 := ?_) (by rfl) rfl ?_ ?_
      rotate_left
      · go_simp
        rfl
      refine hK.out _ _ ?_
      clear hK K
      refine done_ (by kernel_rfl) ?_
      clear hHeld x4 hn4b hf4b ESd_11 ESc_11 ESp_11 HN7 HV SZ HX
      go_upto_region 29 with (fail)
      generalize hW9 : World.setCell w8_11 _ _ = W9_11
      have ESb11 := Aside0.mk (show ExP w0 w W9_11 g _ en w.heap.size bn t.f1 ⟨#[]⟩ 0 (pplace (t :: T) en) (.slice A8_11 3 c8_11) (((([] : List S25) ++ [a2]) ++ [a9]) ++ [(pnumN a11)]) from by rw [← hW9]; exact ESa.out)
      clear hW9 ESa
      have hq := HH.out
      clear HH
      rw [pbd_ok] at hq
      have HH := Aside0.mk hq
      clear hq
      have hh := HH.out
      clear HH
      rcases pbd_inv hh with ⟨x, hx, rfl⟩ | ⟨u, T12, hx, h1⟩
      · have HX := Aside0.mk hx
        clear hx hh
        go_wp2_with (go_at_call 36; (with_reducible refine (pmust_bad HX.out g w0 _ ESb11.out.rs.start).mono ?_); rintro e w2 ⟨rfl, h2⟩; exact ⟨rfl, ESb11.out.rs.bad ⟨rfl, h2⟩⟩)
      have HX := Aside0.mk hx
      have HH := Aside0.mk h1
      clear hx h1 hh
      go_upto_region 30 with (go_at_call 36; (with_reducible refine (pmust_ok HX.out g w0 _ ESb11.out.rs.start).mono ?_); rintro e w_12 ⟨rfl, h2⟩; have ES12 := Aside0.mk (ESb11.out.call h2); clear h2)
      clear HX ESb11
      have hh := HH.out
      clear HH
      simp only [Option.some.injEq] at hh
      subst hh
      have hn0 := (blk_cell ES12.out.nb 0).trans rfl
      have hn1 := (blk_cell ES12.out.nb 1).trans rfl
      have hn2 := (blk_cell ES12.out.nb 2).trans rfl
      have hn3 := (blk_cell ES12.out.nb 3).trans rfl
      have hn4 := (blk_cell ES12.out.nb 4).trans rfl
      have hr0 := (blk_cell ES12.out.r4 0).trans rfl
      have hf0 := blk_frozen ES12.out.r4 0
      have hr1 := (blk_cell ES12.out.r4 1).trans rfl
      have hf1 := blk_frozen ES12.out.r4 1
      have hr2 := (blk_cell ES12.out.r4 2).trans rfl
      have hf2 := blk_frozen ES12.out.r4 2
      have hr3 := (blk_cell ES12.out.r4 3).trans rfl
      have hf3 := blk_frozen ES12.out.r4 3
      have hr4 := (blk_cell ES12.out.r4 4).trans rfl
      have hf4 := blk_frozen ES12.out.r4 4
      go_wp2
      have RSz := ((((((((((ES12.out.rs).far (b := w.heap.size) (j := 0) (Nat.ne_of_lt GW.out) (Nat.le_refl _) WW.out (.string t.f1))).far (b := w.heap.size) (j := 1) (Nat.ne_of_lt GW.out) (Nat.le_refl _) WW.out (.string ⟨#[]⟩))).far (b := w.heap.size) (j := 2) (Nat.ne_of_lt GW.out) (Nat.le_refl _) WW.out (.int .i64 0))).far (b := w.heap.size) (j := 3) (Nat.ne_of_lt GW.out) (Nat.le_refl _) WW.out (.int .i64 (pplace (t :: T) en)))).far (b := w.heap.size) (j := 4) (Nat.ne_of_lt GW.out) (Nat.le_refl _) WW.out (.slice A8_11 3 c8_11))
      have hNz := Kd.N_far (p := ⟨w.heap.size, 4, none⟩) (Kd.N_far (p := ⟨w.heap.size, 3, none⟩) (Kd.N_far (p := ⟨w.heap.size, 2, none⟩) (Kd.N_far (p := ⟨w.heap.size, 1, none⟩) (Kd.N_far (p := ⟨w.heap.size, 0, none⟩) ES12.out.row (fun k hk => hk.2.1) (.string t.f1)) (fun k hk => hk.2.1) (.string ⟨#[]⟩)) (fun k hk => hk.2.1) (.int .i64 0)) (fun k hk => hk.2.1) (.int .i64 (pplace (t :: T) en))) (fun k hk => hk.2.1) (.slice A8_11 3 c8_11)
      refine bodyPost_ret (results_cell_row rfl _ _ w.heap.size 25 #[.string t.f1, .string ⟨#[]⟩, .int .i64 0, .int .i64 (pplace (t :: T) en), .slice A8_11 3 c8_11] (0, 0) _ rfl (blk_put (blk_put (blk_put (blk_put (blk_put ES12.out.r4 0 (.string t.f1) rfl) 1 (.string ⟨#[]⟩) rfl) 2 (.int .i64 0) rfl) 3 (.int .i64 (pplace (t :: T) en)) rfl) 4 (.slice A8_11 3 c8_11) rfl) Tryd.underlying25 rfl (by kernel_rfl)) rfl ?_
      exact ⟨⟨_, rfl, Kd.N_mono hNz (fun k hk => hk.1)⟩, RSz⟩
    have e1 : (t.f1.toList == ([115, 110, 97, 112, 115, 104, 111, 116] : List UInt8)) = false := beq_eq_false_iff_ne.2 hq1
    have hq := HH.out
    clear HH
    rw [if_neg hq1] at hq
    have HH := Aside0.mk hq
    clear hq
    clear hq1
    by_cases hq2 : t.f1.toList = ([99, 114, 121, 112, 116] : List UInt8) ∨ t.f1.toList = ([105, 110, 116, 101, 103, 114, 105, 116, 121] : List UInt8) ∨ t.f1.toList = ([118, 101, 114, 105, 116, 121] : List UInt8)
    · skip
      have hq := HH.out
      clear HH
      rw [if_pos hq2] at hq
      have HH := Aside0.mk hq
      clear hq
      have hq := HH.out
      clear HH
      simp only [pbd_assoc] at hq
      have HH := Aside0.mk hq
      clear hq
      by_cases hq3 : t.f1.toList = ([99, 114, 121, 112, 116] : List UInt8)
      · skip
        have e2 : (t.f1.toList == ([99, 114, 121, 112, 116] : List UInt8)) = true := by rw [hq3]; rfl
        clear hq2 hq3
        have hh := HH.out
        clear HH
        rcases pbd_inv hh with ⟨x, hx, rfl⟩ | ⟨u, T13, hx, h1⟩
        · have HX := Aside0.mk hx
          clear hx hh
          go_wp2_with (go_at_call 36; (with_reducible refine (pmust_bad HX.out g w0 _ ESb2.out.rs.start).mono ?_); rintro e w2 ⟨rfl, h2⟩; exact ⟨rfl, ESb2.out.rs.bad ⟨rfl, h2⟩⟩)
        have HX := Aside0.mk hx
        have HH := Aside0.mk h1
        clear hx h1 hh
        go_upto_region 28 with (go_at_call 36; (with_reducible refine (pmust_ok HX.out g w0 _ ESb2.out.rs.start).mono ?_); rintro e w_13 ⟨rfl, h2⟩; have ES13 := Aside0.mk (ESb2.out.call h2); clear h2)
        clear HX ESb2
        refine start_ (n := 8) (S := fun w' => w'.cell? ⟨bn, 4, none⟩ = some (.slice A8_2 1 c8_2)) (ds := [7]) #[false, false, false, false, false, false, false, false] (by kernel_rfl) rfl rfl ?hS (fun hHeld => ?_)
        case hS => exact (blk_cell (blk_drew ES13.out.nb) 4).trans rfl
        have ESd_14 := Aside0.mk ES13.out.drew
        clear ES13
        generalize World.drew w_13 = wd_14 at *
        have x4 := (blk_cell ESd_14.out.nb 4).trans rfl
        refine pure_ (i := 0) (N := some 132) (v := ?_) (a' := ?_) #[true, false, false, false, false, false, false, false] rfl rfl (by kernel_rfl) (fun _ _ _ h => h) (Or.inl ⟨by rfl, ?_⟩) ?_ ?_
        rotate_left
        · intro w'
          go_simp
          with_reducible rfl
        rotate_left
        · simp only [Act.put, List.setIfInBounds_toArray, List.set_cons_zero, List.set_cons_succ, i64_w, i32_w]
          rfl
        refine pure_ (i := 2) (N := some 134) (v := ?_) (a' := ?_) #[true, false, true, false, false, false, false, false] rfl rfl (by kernel_rfl) (fun _ _ _ h => h) (Or.inl ⟨by rfl, ?_⟩) ?_ ?_
        rotate_left
        · intro w'
          go_simp
          with_reducible rfl
        rotate_left
        · simp only [Act.put, List.setIfInBounds_toArray, List.set_cons_zero, List.set_cons_succ, i64_w, i32_w]
          rfl
        refine take_ (i := 1) (N := some 133) (v := ?_) (a' := ?_) #[true, true, true, false, false, false, false, false] rfl rfl (by kernel_rfl) (fun _ _ _ h => h) (Or.inl ⟨by rfl, ?_⟩) hHeld ?_ ?_
        rotate_left
        · rintro w' s0
          go_simp
          with_reducible rfl
        rotate_left
        · simp only [Act.put, List.setIfInBounds_toArray, List.set_cons_zero, List.set_cons_succ, i64_w, i32_w]
          rfl
        have hh := HH.out
        clear HH
        rcases pbd_inv hh with ⟨x, hx, rfl⟩ | ⟨a14, T14, hx, h1⟩
        · have HX := Aside0.mk hx
          clear hx hh
          refine one_ (i := 3) (N := some 135) #[true, true, true, true, false, false, false, false] rfl rfl (by kernel_rfl) (by decide) (fun K hK => ?_)
          refine goesP_ Tryd.func33 (by kernel_rfl) rfl #[.pointer (some ⟨g, 0, none⟩)] (by rfl) rfl rfl (by first | rfl | (simp [Act.eval]; done) | (go_simp; done)) (R := PRes (α := S60) w0 wd_14 g en (fun t => nodeR wd_14 (pnameN t)) (.error x)) (pname_node g _ en _ w0 wd_14 ESd_14.out.rs.start HX.out) ?_
          rintro e w2 ⟨rfl, h2⟩
          exact .inl ⟨_, rfl, ⟨rfl, ESd_14.out.rs.bad ⟨rfl, h2⟩⟩⟩
        have HX := Aside0.mk hx
        have HH := Aside0.mk h1
        clear hx h1 hh
        refine one_ (i := 3) (N := some 135) #[true, true, true, true, false, false, false, false] rfl rfl (by kernel_rfl) (by decide) (fun K hK => ?_)
        refine goesP_ Tryd.func33 (by kernel_rfl) rfl #[.pointer (some ⟨g, 0, none⟩)] (by rfl) rfl rfl (by first | rfl | (simp [Act.eval]; done) | (go_simp; done)) (R := PRes (α := S60) w0 wd_14 g en (fun t => nodeR wd_14 (pnameN t)) (.ok (a14, T14))) (pname_node g _ en _ w0 wd_14 ESd_14.out.rs.start HX.out) ?_
        rintro e w2_14 ⟨⟨v, rfl, hN⟩, h2⟩
        obtain ⟨A_14, c_14, rfl⟩ := Kd.N_slice hN
        have ESc_14 := Aside0.mk (ESd_14.out.call h2)
        have SZ := Aside0.mk h2.kb.1
        have HV := Aside0.mk hN
        clear hN h2
        refine .inr ⟨_, rfl, ?_⟩
        try clear hHeld
        refine hK.out _ _ ((blk_cell ESc_14.out.nb 4).trans rfl) (fun hHeld => ?_)
        clear hK K
        refine norm_ (a' := ?_) ?_ ?_
        rotate_left
        · show Act.put _ (some 135) _ = _
          simp only [Act.put, List.setIfInBounds_toArray, List.set_cons_zero, List.set_cons_succ, i64_w, i32_w]
          rfl
        refine one_ (i := 4) (N := some 136) #[true, true, true, true, true, false, false, false] rfl rfl (by kernel_rfl) (by decide) (fun K hK => ?_)
        refine Kd.N_lit_step k25 (w0 := w2_14) w2_14.heap.size 25 (by rfl) (N' := 136) rfl (xs := [(pnameN a14)]) (inner := [.string (pnameN a14).f0, .string (pnameN a14).f1, .int .i64 (pnameN a14).f2, .int .i64 (pnameN a14).f3, .slice A_14 (pnameN a14).f4.length c_14]) (ok := (fun k => wd_14.heap.size ≤ k)) (okp := (fun k => wd_14.heap.size ≤ k)) ?hr ((Reps.none _ _).snoc (FKp_node HV.out) rfl) (fun _ hk => hk) ?hf (Below.refl _ _) (Nat.le_refl _) (by show 1 ≤ 9223372036854775807; decide) ?_
        case hr => first | (go_simp; done) | (go_simp; rfl)
        case hf => exact SZ.out
        intro v7 w7_14 hN7 hb7 hg7 hat7
        obtain ⟨A7, c7, rfl⟩ := Kd.N_slice hN7
        have ESp_14 := Aside0.mk (ESc_14.out.below hb7)
        have HN7 := Aside0.mk hN7
        clear hN7 hb7 hg7 hat7
        try clear hHeld
        refine hK.out _ _ ((blk_cell ESp_14.out.nb 4).trans rfl) (fun hHeld => ?_)
        clear hK K
        refine norm_ (a' := ?_) ?_ ?_
        rotate_left
        · show Act.put _ (some 136) _ = _
          simp only [Act.put, List.setIfInBounds_toArray, List.set_cons_zero, List.set_cons_succ, i64_w, i32_w]
          rfl
        refine one_ (i := 5) (N := some 137) #[true, true, true, true, true, true, false, false] rfl rfl (by kernel_rfl) (by decide) (fun K hK => ?_)
        refine Kd.N_append_rows_step k25 (w0 := w7_14) w.heap.size (by rfl) (.tmp 133) (.tmp 136) 23 25 (.agg #[.string (⟨#[]⟩ : ByteArray), .string (⟨#[]⟩ : ByteArray), .int .i64 0, .int .i64 0, .slice none 0 0]) 72 rfl Tryd.underlying23 info25 rfl (by decide) (by decide) (.slice A8_2 1 c8_2) (([] : List S25) ++ [a2]) [(pnameN a14)] A7 1 c7 (fun k => w.heap.size ≤ k ∧ k ≠ w.heap.size ∧ k ≠ bn) (fun k => wd_14.heap.size ≤ k) rfl rfl ESp_14.out.row (Kd.N_F HN7.out) ?hokp ?hfresh (Below.refl _ _) ?hbase (by first | omega | (simp; done) | (simp; omega)) ?_
        case hokp => intro k hk; have h1 := ESd_14.out.lt.1; have h2 := ESd_14.out.lt.2.1; have h3 := ESd_14.out.rs.kb.1; exact ⟨⟨by omega, by omega, by omega⟩, fun e => by have := (ESd_14.out.lt.2.2 k e.symm).1; omega⟩
        case hfresh => intro k hk; have h1 := ESp_14.out.lt.1; have h2 := ESp_14.out.lt.2.1; have h3 := ESp_14.out.rs.kb.1; exact ⟨by omega, by omega, by omega⟩
        case hbase => exact ESp_14.out.rs.kb.1
        intro v8 w8_14 hN8 hb8 hg8 hat8
        obtain ⟨A8_14, c8_14, hv8⟩ := Kd.N_slice hN8
        rw [show ((([] : List S25) ++ [a2]) ++ [(pnameN a14)]).length = 2 by simp] at hv8
        subst hv8
        have ESa := Aside0.mk (ESp_14.out.append hN8 hg8)
        obtain ⟨_, _, hnb8⟩ := ESp_14.out.grown hN8 hg8
        have hn4b := (blk_cell hnb8 4).trans rfl
        have hf4b := blk_frozen hnb8 4
        clear hN8 hb8 hg8 hat8 hnb8
        try clear hHeld
        refine hK.out _ _ hn4b (fun hHeld => ?_)
        clear hK K
        refine norm_ (a' := ?_) ?_ ?_
        rotate_left
        · show Act.put _ (some 137) _ = _
          simp only [Act.put, List.setIfInBounds_toArray, List.set_cons_zero, List.set_cons_succ, i64_w, i32_w]
          rfl
        refine pure_ (i := 6) (N := some 138) (v := ?_) (a' := ?_) #[true, true, true, true, true, true, true, false] rfl rfl (by kernel_rfl) (fun _ _ _ h => h) (Or.inl ⟨by rfl, ?_⟩) ?_ ?_
        rotate_left
        · intro w'
          go_simp
          with_reducible rfl
        rotate_left
        · simp only [Act.put, List.setIfInBounds_toArray, List.set_cons_zero, List.set_cons_succ, i64_w, i32_w]
          rfl
        refine last_ (i := 7) (N := none) #[true, true, true, true, true, true, true, true] rfl rfl (by kernel_rfl) (by decide) (fun K hK => ?_)
        refine skip_ (w1 := ?_) (by rfl) rfl ?_ ?_
        rotate_left
        · go_simp
          rfl
        refine hK.out _ _ ?_
        clear hK K
        refine done_ (by kernel_rfl) ?_
        clear hHeld x4 hn4b hf4b ESd_14 ESc_14 ESp_14 HN7 HV SZ HX
        go_upto_region 29 with (fail)
        generalize hW9 : World.setCell w8_14 _ _ = W9_14
        have ESb14 := Aside0.mk (show ExP w0 w W9_14 g _ en w.heap.size bn t.f1 ⟨#[]⟩ 0 (pplace (t :: T) en) (.slice A8_14 2 c8_14) ((([] : List S25) ++ [a2]) ++ [(pnameN a14)]) from by rw [← hW9]; exact ESa.out)
        clear hW9 ESa
        have hq := HH.out
        clear HH
        rw [pbd_ok] at hq
        have HH := Aside0.mk hq
        clear hq
        have hh := HH.out
        clear HH
        rcases pbd_inv hh with ⟨x, hx, rfl⟩ | ⟨u, T15, hx, h1⟩
        · have HX := Aside0.mk hx
          clear hx hh
          go_wp2_with (go_at_call 36; (with_reducible refine (pmust_bad HX.out g w0 _ ESb14.out.rs.start).mono ?_); rintro e w2 ⟨rfl, h2⟩; exact ⟨rfl, ESb14.out.rs.bad ⟨rfl, h2⟩⟩)
        have HX := Aside0.mk hx
        have HH := Aside0.mk h1
        clear hx h1 hh
        go_upto_region 30 with (go_at_call 36; (with_reducible refine (pmust_ok HX.out g w0 _ ESb14.out.rs.start).mono ?_); rintro e w_15 ⟨rfl, h2⟩; have ES15 := Aside0.mk (ESb14.out.call h2); clear h2)
        clear HX ESb14
        have hh := HH.out
        clear HH
        simp only [Option.some.injEq] at hh
        subst hh
        have hn0 := (blk_cell ES15.out.nb 0).trans rfl
        have hn1 := (blk_cell ES15.out.nb 1).trans rfl
        have hn2 := (blk_cell ES15.out.nb 2).trans rfl
        have hn3 := (blk_cell ES15.out.nb 3).trans rfl
        have hn4 := (blk_cell ES15.out.nb 4).trans rfl
        have hr0 := (blk_cell ES15.out.r4 0).trans rfl
        have hf0 := blk_frozen ES15.out.r4 0
        have hr1 := (blk_cell ES15.out.r4 1).trans rfl
        have hf1 := blk_frozen ES15.out.r4 1
        have hr2 := (blk_cell ES15.out.r4 2).trans rfl
        have hf2 := blk_frozen ES15.out.r4 2
        have hr3 := (blk_cell ES15.out.r4 3).trans rfl
        have hf3 := blk_frozen ES15.out.r4 3
        have hr4 := (blk_cell ES15.out.r4 4).trans rfl
        have hf4 := blk_frozen ES15.out.r4 4
        go_wp2
        have RSz := ((((((((((ES15.out.rs).far (b := w.heap.size) (j := 0) (Nat.ne_of_lt GW.out) (Nat.le_refl _) WW.out (.string t.f1))).far (b := w.heap.size) (j := 1) (Nat.ne_of_lt GW.out) (Nat.le_refl _) WW.out (.string ⟨#[]⟩))).far (b := w.heap.size) (j := 2) (Nat.ne_of_lt GW.out) (Nat.le_refl _) WW.out (.int .i64 0))).far (b := w.heap.size) (j := 3) (Nat.ne_of_lt GW.out) (Nat.le_refl _) WW.out (.int .i64 (pplace (t :: T) en)))).far (b := w.heap.size) (j := 4) (Nat.ne_of_lt GW.out) (Nat.le_refl _) WW.out (.slice A8_14 2 c8_14))
        have hNz := Kd.N_far (p := ⟨w.heap.size, 4, none⟩) (Kd.N_far (p := ⟨w.heap.size, 3, none⟩) (Kd.N_far (p := ⟨w.heap.size, 2, none⟩) (Kd.N_far (p := ⟨w.heap.size, 1, none⟩) (Kd.N_far (p := ⟨w.heap.size, 0, none⟩) ES15.out.row (fun k hk => hk.2.1) (.string t.f1)) (fun k hk => hk.2.1) (.string ⟨#[]⟩)) (fun k hk => hk.2.1) (.int .i64 0)) (fun k hk => hk.2.1) (.int .i64 (pplace (t :: T) en))) (fun k hk => hk.2.1) (.slice A8_14 2 c8_14)
        refine bodyPost_ret (results_cell_row rfl _ _ w.heap.size 25 #[.string t.f1, .string ⟨#[]⟩, .int .i64 0, .int .i64 (pplace (t :: T) en), .slice A8_14 2 c8_14] (0, 0) _ rfl (blk_put (blk_put (blk_put (blk_put (blk_put ES15.out.r4 0 (.string t.f1) rfl) 1 (.string ⟨#[]⟩) rfl) 2 (.int .i64 0) rfl) 3 (.int .i64 (pplace (t :: T) en)) rfl) 4 (.slice A8_14 2 c8_14) rfl) Tryd.underlying25 rfl (by kernel_rfl)) rfl ?_
        exact ⟨⟨_, rfl, Kd.N_mono hNz (fun k hk => hk.1)⟩, RSz⟩
      have e2 : (t.f1.toList == ([99, 114, 121, 112, 116] : List UInt8)) = false := beq_eq_false_iff_ne.2 hq3
      by_cases hq4 : t.f1.toList = ([105, 110, 116, 101, 103, 114, 105, 116, 121] : List UInt8)
      · skip
        have e3 : (t.f1.toList == ([105, 110, 116, 101, 103, 114, 105, 116, 121] : List UInt8)) = true := by rw [hq4]; rfl
        clear hq2 hq3 hq4
        have hh := HH.out
        clear HH
        rcases pbd_inv hh with ⟨x, hx, rfl⟩ | ⟨u, T16, hx, h1⟩
        · have HX := Aside0.mk hx
          clear hx hh
          go_wp2_with (go_at_call 36; (with_reducible refine (pmust_bad HX.out g w0 _ ESb2.out.rs.start).mono ?_); rintro e w2 ⟨rfl, h2⟩; exact ⟨rfl, ESb2.out.rs.bad ⟨rfl, h2⟩⟩)
        have HX := Aside0.mk hx
        have HH := Aside0.mk h1
        clear hx h1 hh
        go_upto_region 28 with (go_at_call 36; (with_reducible refine (pmust_ok HX.out g w0 _ ESb2.out.rs.start).mono ?_); rintro e w_16 ⟨rfl, h2⟩; have ES16 := Aside0.mk (ESb2.out.call h2); clear h2)
        clear HX ESb2
        refine start_ (n := 8) (S := fun w' => w'.cell? ⟨bn, 4, none⟩ = some (.slice A8_2 1 c8_2)) (ds := [7]) #[false, false, false, false, false, false, false, false] (by kernel_rfl) rfl rfl ?hS (fun hHeld => ?_)
        case hS => exact (blk_cell (blk_drew ES16.out.nb) 4).trans rfl
        have ESd_17 := Aside0.mk ES16.out.drew
        clear ES16
        generalize World.drew w_16 = wd_17 at *
        have x4 := (blk_cell ESd_17.out.nb 4).trans rfl
        refine pure_ (i := 0) (N := some 132) (v := ?_) (a' := ?_) #[true, false, false, false, false, false, false, false] rfl rfl (by kernel_rfl) (fun _ _ _ h => h) (Or.inl ⟨by rfl, ?_⟩) ?_ ?_
        rotate_left
        · intro w'
          go_simp
          with_reducible rfl
        rotate_left
        · simp only [Act.put, List.setIfInBounds_toArray, List.set_cons_zero, List.set_cons_succ, i64_w, i32_w]
          rfl
        refine pure_ (i := 2) (N := some 134) (v := ?_) (a' := ?_) #[true, false, true, false, false, false, false, false] rfl rfl (by kernel_rfl) (fun _ _ _ h => h) (Or.inl ⟨by rfl, ?_⟩) ?_ ?_
        rotate_left
        · intro w'
          go_simp
          with_reducible rfl
        rotate_left
        · simp only [Act.put, List.setIfInBounds_toArray, List.set_cons_zero, List.set_cons_succ, i64_w, i32_w]
          rfl
        refine take_ (i := 1) (N := some 133) (v := ?_) (a' := ?_) #[true, true, true, false, false, false, false, false] rfl rfl (by kernel_rfl) (fun _ _ _ h => h) (Or.inl ⟨by rfl, ?_⟩) hHeld ?_ ?_
        rotate_left
        · rintro w' s0
          go_simp
          with_reducible rfl
        rotate_left
        · simp only [Act.put, List.setIfInBounds_toArray, List.set_cons_zero, List.set_cons_succ, i64_w, i32_w]
          rfl
        have hh := HH.out
        clear HH
        rcases pbd_inv hh with ⟨x, hx, rfl⟩ | ⟨a17, T17, hx, h1⟩
        · have HX := Aside0.mk hx
          clear hx hh
          refine one_ (i := 3) (N := some 135) #[true, true, true, true, false, false, false, false] rfl rfl (by kernel_rfl) (by decide) (fun K hK => ?_)
          refine goesP_ Tryd.func33 (by kernel_rfl) rfl #[.pointer (some ⟨g, 0, none⟩)] (by rfl) rfl rfl (by first | rfl | (simp [Act.eval]; done) | (go_simp; done)) (R := PRes (α := S60) w0 wd_17 g en (fun t => nodeR wd_17 (pnameN t)) (.error x)) (pname_node g _ en _ w0 wd_17 ESd_17.out.rs.start HX.out) ?_
          rintro e w2 ⟨rfl, h2⟩
          exact .inl ⟨_, rfl, ⟨rfl, ESd_17.out.rs.bad ⟨rfl, h2⟩⟩⟩
        have HX := Aside0.mk hx
        have HH := Aside0.mk h1
        clear hx h1 hh
        refine one_ (i := 3) (N := some 135) #[true, true, true, true, false, false, false, false] rfl rfl (by kernel_rfl) (by decide) (fun K hK => ?_)
        refine goesP_ Tryd.func33 (by kernel_rfl) rfl #[.pointer (some ⟨g, 0, none⟩)] (by rfl) rfl rfl (by first | rfl | (simp [Act.eval]; done) | (go_simp; done)) (R := PRes (α := S60) w0 wd_17 g en (fun t => nodeR wd_17 (pnameN t)) (.ok (a17, T17))) (pname_node g _ en _ w0 wd_17 ESd_17.out.rs.start HX.out) ?_
        rintro e w2_17 ⟨⟨v, rfl, hN⟩, h2⟩
        obtain ⟨A_17, c_17, rfl⟩ := Kd.N_slice hN
        have ESc_17 := Aside0.mk (ESd_17.out.call h2)
        have SZ := Aside0.mk h2.kb.1
        have HV := Aside0.mk hN
        clear hN h2
        refine .inr ⟨_, rfl, ?_⟩
        try clear hHeld
        refine hK.out _ _ ((blk_cell ESc_17.out.nb 4).trans rfl) (fun hHeld => ?_)
        clear hK K
        refine norm_ (a' := ?_) ?_ ?_
        rotate_left
        · show Act.put _ (some 135) _ = _
          simp only [Act.put, List.setIfInBounds_toArray, List.set_cons_zero, List.set_cons_succ, i64_w, i32_w]
          rfl
        refine one_ (i := 4) (N := some 136) #[true, true, true, true, true, false, false, false] rfl rfl (by kernel_rfl) (by decide) (fun K hK => ?_)
        refine Kd.N_lit_step k25 (w0 := w2_17) w2_17.heap.size 25 (by rfl) (N' := 136) rfl (xs := [(pnameN a17)]) (inner := [.string (pnameN a17).f0, .string (pnameN a17).f1, .int .i64 (pnameN a17).f2, .int .i64 (pnameN a17).f3, .slice A_17 (pnameN a17).f4.length c_17]) (ok := (fun k => wd_17.heap.size ≤ k)) (okp := (fun k => wd_17.heap.size ≤ k)) ?hr ((Reps.none _ _).snoc (FKp_node HV.out) rfl) (fun _ hk => hk) ?hf (Below.refl _ _) (Nat.le_refl _) (by show 1 ≤ 9223372036854775807; decide) ?_
        case hr => first | (go_simp; done) | (go_simp; rfl)
        case hf => exact SZ.out
        intro v7 w7_17 hN7 hb7 hg7 hat7
        obtain ⟨A7, c7, rfl⟩ := Kd.N_slice hN7
        have ESp_17 := Aside0.mk (ESc_17.out.below hb7)
        have HN7 := Aside0.mk hN7
        clear hN7 hb7 hg7 hat7
        try clear hHeld
        refine hK.out _ _ ((blk_cell ESp_17.out.nb 4).trans rfl) (fun hHeld => ?_)
        clear hK K
        refine norm_ (a' := ?_) ?_ ?_
        rotate_left
        · show Act.put _ (some 136) _ = _
          simp only [Act.put, List.setIfInBounds_toArray, List.set_cons_zero, List.set_cons_succ, i64_w, i32_w]
          rfl
        refine one_ (i := 5) (N := some 137) #[true, true, true, true, true, true, false, false] rfl rfl (by kernel_rfl) (by decide) (fun K hK => ?_)
        refine Kd.N_append_rows_step k25 (w0 := w7_17) w.heap.size (by rfl) (.tmp 133) (.tmp 136) 23 25 (.agg #[.string (⟨#[]⟩ : ByteArray), .string (⟨#[]⟩ : ByteArray), .int .i64 0, .int .i64 0, .slice none 0 0]) 72 rfl Tryd.underlying23 info25 rfl (by decide) (by decide) (.slice A8_2 1 c8_2) (([] : List S25) ++ [a2]) [(pnameN a17)] A7 1 c7 (fun k => w.heap.size ≤ k ∧ k ≠ w.heap.size ∧ k ≠ bn) (fun k => wd_17.heap.size ≤ k) rfl rfl ESp_17.out.row (Kd.N_F HN7.out) ?hokp ?hfresh (Below.refl _ _) ?hbase (by first | omega | (simp; done) | (simp; omega)) ?_
        case hokp => intro k hk; have h1 := ESd_17.out.lt.1; have h2 := ESd_17.out.lt.2.1; have h3 := ESd_17.out.rs.kb.1; exact ⟨⟨by omega, by omega, by omega⟩, fun e => by have := (ESd_17.out.lt.2.2 k e.symm).1; omega⟩
        case hfresh => intro k hk; have h1 := ESp_17.out.lt.1; have h2 := ESp_17.out.lt.2.1; have h3 := ESp_17.out.rs.kb.1; exact ⟨by omega, by omega, by omega⟩
        case hbase => exact ESp_17.out.rs.kb.1
        intro v8 w8_17 hN8 hb8 hg8 hat8
        obtain ⟨A8_17, c8_17, hv8⟩ := Kd.N_slice hN8
        rw [show ((([] : List S25) ++ [a2]) ++ [(pnameN a17)]).length = 2 by simp] at hv8
        subst hv8
        have ESa := Aside0.mk (ESp_17.out.append hN8 hg8)
        obtain ⟨_, _, hnb8⟩ := ESp_17.out.grown hN8 hg8
        have hn4b := (blk_cell hnb8 4).trans rfl
        have hf4b := blk_frozen hnb8 4
        clear hN8 hb8 hg8 hat8 hnb8
        try clear hHeld
        refine hK.out _ _ hn4b (fun hHeld => ?_)
        clear hK K
        refine norm_ (a' := ?_) ?_ ?_
        rotate_left
        · show Act.put _ (some 137) _ = _
          simp only [Act.put, List.setIfInBounds_toArray, List.set_cons_zero, List.set_cons_succ, i64_w, i32_w]
          rfl
        refine pure_ (i := 6) (N := some 138) (v := ?_) (a' := ?_) #[true, true, true, true, true, true, true, false] rfl rfl (by kernel_rfl) (fun _ _ _ h => h) (Or.inl ⟨by rfl, ?_⟩) ?_ ?_
        rotate_left
        · intro w'
          go_simp
          with_reducible rfl
        rotate_left
        · simp only [Act.put, List.setIfInBounds_toArray, List.set_cons_zero, List.set_cons_succ, i64_w, i32_w]
          rfl
        refine last_ (i := 7) (N := none) #[true, true, true, true, true, true, true, true] rfl rfl (by kernel_rfl) (by decide) (fun K hK => ?_)
        refine skip_ (w1 := ?_) (by rfl) rfl ?_ ?_
        rotate_left
        · go_simp
          rfl
        refine hK.out _ _ ?_
        clear hK K
        refine done_ (by kernel_rfl) ?_
        clear hHeld x4 hn4b hf4b ESd_17 ESc_17 ESp_17 HN7 HV SZ HX
        go_upto_region 29 with (fail)
        generalize hW9 : World.setCell w8_17 _ _ = W9_17
        have ESb17 := Aside0.mk (show ExP w0 w W9_17 g _ en w.heap.size bn t.f1 ⟨#[]⟩ 0 (pplace (t :: T) en) (.slice A8_17 2 c8_17) ((([] : List S25) ++ [a2]) ++ [(pnameN a17)]) from by rw [← hW9]; exact ESa.out)
        clear hW9 ESa
        have hq := HH.out
        clear HH
        rw [pbd_ok] at hq
        have HH := Aside0.mk hq
        clear hq
        have hh := HH.out
        clear HH
        rcases pbd_inv hh with ⟨x, hx, rfl⟩ | ⟨u, T18, hx, h1⟩
        · have HX := Aside0.mk hx
          clear hx hh
          go_wp2_with (go_at_call 36; (with_reducible refine (pmust_bad HX.out g w0 _ ESb17.out.rs.start).mono ?_); rintro e w2 ⟨rfl, h2⟩; exact ⟨rfl, ESb17.out.rs.bad ⟨rfl, h2⟩⟩)
        have HX := Aside0.mk hx
        have HH := Aside0.mk h1
        clear hx h1 hh
        go_upto_region 30 with (go_at_call 36; (with_reducible refine (pmust_ok HX.out g w0 _ ESb17.out.rs.start).mono ?_); rintro e w_18 ⟨rfl, h2⟩; have ES18 := Aside0.mk (ESb17.out.call h2); clear h2)
        clear HX ESb17
        have hh := HH.out
        clear HH
        simp only [Option.some.injEq] at hh
        subst hh
        have hn0 := (blk_cell ES18.out.nb 0).trans rfl
        have hn1 := (blk_cell ES18.out.nb 1).trans rfl
        have hn2 := (blk_cell ES18.out.nb 2).trans rfl
        have hn3 := (blk_cell ES18.out.nb 3).trans rfl
        have hn4 := (blk_cell ES18.out.nb 4).trans rfl
        have hr0 := (blk_cell ES18.out.r4 0).trans rfl
        have hf0 := blk_frozen ES18.out.r4 0
        have hr1 := (blk_cell ES18.out.r4 1).trans rfl
        have hf1 := blk_frozen ES18.out.r4 1
        have hr2 := (blk_cell ES18.out.r4 2).trans rfl
        have hf2 := blk_frozen ES18.out.r4 2
        have hr3 := (blk_cell ES18.out.r4 3).trans rfl
        have hf3 := blk_frozen ES18.out.r4 3
        have hr4 := (blk_cell ES18.out.r4 4).trans rfl
        have hf4 := blk_frozen ES18.out.r4 4
        go_wp2
        have RSz := ((((((((((ES18.out.rs).far (b := w.heap.size) (j := 0) (Nat.ne_of_lt GW.out) (Nat.le_refl _) WW.out (.string t.f1))).far (b := w.heap.size) (j := 1) (Nat.ne_of_lt GW.out) (Nat.le_refl _) WW.out (.string ⟨#[]⟩))).far (b := w.heap.size) (j := 2) (Nat.ne_of_lt GW.out) (Nat.le_refl _) WW.out (.int .i64 0))).far (b := w.heap.size) (j := 3) (Nat.ne_of_lt GW.out) (Nat.le_refl _) WW.out (.int .i64 (pplace (t :: T) en)))).far (b := w.heap.size) (j := 4) (Nat.ne_of_lt GW.out) (Nat.le_refl _) WW.out (.slice A8_17 2 c8_17))
        have hNz := Kd.N_far (p := ⟨w.heap.size, 4, none⟩) (Kd.N_far (p := ⟨w.heap.size, 3, none⟩) (Kd.N_far (p := ⟨w.heap.size, 2, none⟩) (Kd.N_far (p := ⟨w.heap.size, 1, none⟩) (Kd.N_far (p := ⟨w.heap.size, 0, none⟩) ES18.out.row (fun k hk => hk.2.1) (.string t.f1)) (fun k hk => hk.2.1) (.string ⟨#[]⟩)) (fun k hk => hk.2.1) (.int .i64 0)) (fun k hk => hk.2.1) (.int .i64 (pplace (t :: T) en))) (fun k hk => hk.2.1) (.slice A8_17 2 c8_17)
        refine bodyPost_ret (results_cell_row rfl _ _ w.heap.size 25 #[.string t.f1, .string ⟨#[]⟩, .int .i64 0, .int .i64 (pplace (t :: T) en), .slice A8_17 2 c8_17] (0, 0) _ rfl (blk_put (blk_put (blk_put (blk_put (blk_put ES18.out.r4 0 (.string t.f1) rfl) 1 (.string ⟨#[]⟩) rfl) 2 (.int .i64 0) rfl) 3 (.int .i64 (pplace (t :: T) en)) rfl) 4 (.slice A8_17 2 c8_17) rfl) Tryd.underlying25 rfl (by kernel_rfl)) rfl ?_
        exact ⟨⟨_, rfl, Kd.N_mono hNz (fun k hk => hk.1)⟩, RSz⟩
      have e3 : (t.f1.toList == ([105, 110, 116, 101, 103, 114, 105, 116, 121] : List UInt8)) = false := beq_eq_false_iff_ne.2 hq4
      have hq5 : t.f1.toList = ([118, 101, 114, 105, 116, 121] : List UInt8) := by simpa [hq3, hq4] using hq2
      have e4 : (t.f1.toList == ([118, 101, 114, 105, 116, 121] : List UInt8)) = true := by rw [hq5]; rfl
      clear hq2 hq3 hq4 hq5
      have hh := HH.out
      clear HH
      rcases pbd_inv hh with ⟨x, hx, rfl⟩ | ⟨u, T19, hx, h1⟩
      · have HX := Aside0.mk hx
        clear hx hh
        go_wp2_with (go_at_call 36; (with_reducible refine (pmust_bad HX.out g w0 _ ESb2.out.rs.start).mono ?_); rintro e w2 ⟨rfl, h2⟩; exact ⟨rfl, ESb2.out.rs.bad ⟨rfl, h2⟩⟩)
      have HX := Aside0.mk hx
      have HH := Aside0.mk h1
      clear hx h1 hh
      go_upto_region 28 with (go_at_call 36; (with_reducible refine (pmust_ok HX.out g w0 _ ESb2.out.rs.start).mono ?_); rintro e w_19 ⟨rfl, h2⟩; have ES19 := Aside0.mk (ESb2.out.call h2); clear h2)
      clear HX ESb2
      refine start_ (n := 8) (S := fun w' => w'.cell? ⟨bn, 4, none⟩ = some (.slice A8_2 1 c8_2)) (ds := [7]) #[false, false, false, false, false, false, false, false] (by kernel_rfl) rfl rfl ?hS (fun hHeld => ?_)
      case hS => exact (blk_cell (blk_drew ES19.out.nb) 4).trans rfl
      have ESd_20 := Aside0.mk ES19.out.drew
      clear ES19
      generalize World.drew w_19 = wd_20 at *
      have x4 := (blk_cell ESd_20.out.nb 4).trans rfl
      refine pure_ (i := 0) (N := some 132) (v := ?_) (a' := ?_) #[true, false, false, false, false, false, false, false] rfl rfl (by kernel_rfl) (fun _ _ _ h => h) (Or.inl ⟨by rfl, ?_⟩) ?_ ?_
      rotate_left
      · intro w'
        go_simp
        with_reducible rfl
      rotate_left
      · simp only [Act.put, List.setIfInBounds_toArray, List.set_cons_zero, List.set_cons_succ, i64_w, i32_w]
        rfl
      refine pure_ (i := 2) (N := some 134) (v := ?_) (a' := ?_) #[true, false, true, false, false, false, false, false] rfl rfl (by kernel_rfl) (fun _ _ _ h => h) (Or.inl ⟨by rfl, ?_⟩) ?_ ?_
      rotate_left
      · intro w'
        go_simp
        with_reducible rfl
      rotate_left
      · simp only [Act.put, List.setIfInBounds_toArray, List.set_cons_zero, List.set_cons_succ, i64_w, i32_w]
        rfl
      refine take_ (i := 1) (N := some 133) (v := ?_) (a' := ?_) #[true, true, true, false, false, false, false, false] rfl rfl (by kernel_rfl) (fun _ _ _ h => h) (Or.inl ⟨by rfl, ?_⟩) hHeld ?_ ?_
      rotate_left
      · rintro w' s0
        go_simp
        with_reducible rfl
      rotate_left
      · simp only [Act.put, List.setIfInBounds_toArray, List.set_cons_zero, List.set_cons_succ, i64_w, i32_w]
        rfl
      have hh := HH.out
      clear HH
      rcases pbd_inv hh with ⟨x, hx, rfl⟩ | ⟨a20, T20, hx, h1⟩
      · have HX := Aside0.mk hx
        clear hx hh
        refine one_ (i := 3) (N := some 135) #[true, true, true, true, false, false, false, false] rfl rfl (by kernel_rfl) (by decide) (fun K hK => ?_)
        refine goesP_ Tryd.func33 (by kernel_rfl) rfl #[.pointer (some ⟨g, 0, none⟩)] (by rfl) rfl rfl (by first | rfl | (simp [Act.eval]; done) | (go_simp; done)) (R := PRes (α := S60) w0 wd_20 g en (fun t => nodeR wd_20 (pnameN t)) (.error x)) (pname_node g _ en _ w0 wd_20 ESd_20.out.rs.start HX.out) ?_
        rintro e w2 ⟨rfl, h2⟩
        exact .inl ⟨_, rfl, ⟨rfl, ESd_20.out.rs.bad ⟨rfl, h2⟩⟩⟩
      have HX := Aside0.mk hx
      have HH := Aside0.mk h1
      clear hx h1 hh
      refine one_ (i := 3) (N := some 135) #[true, true, true, true, false, false, false, false] rfl rfl (by kernel_rfl) (by decide) (fun K hK => ?_)
      refine goesP_ Tryd.func33 (by kernel_rfl) rfl #[.pointer (some ⟨g, 0, none⟩)] (by rfl) rfl rfl (by first | rfl | (simp [Act.eval]; done) | (go_simp; done)) (R := PRes (α := S60) w0 wd_20 g en (fun t => nodeR wd_20 (pnameN t)) (.ok (a20, T20))) (pname_node g _ en _ w0 wd_20 ESd_20.out.rs.start HX.out) ?_
      rintro e w2_20 ⟨⟨v, rfl, hN⟩, h2⟩
      obtain ⟨A_20, c_20, rfl⟩ := Kd.N_slice hN
      have ESc_20 := Aside0.mk (ESd_20.out.call h2)
      have SZ := Aside0.mk h2.kb.1
      have HV := Aside0.mk hN
      clear hN h2
      refine .inr ⟨_, rfl, ?_⟩
      try clear hHeld
      refine hK.out _ _ ((blk_cell ESc_20.out.nb 4).trans rfl) (fun hHeld => ?_)
      clear hK K
      refine norm_ (a' := ?_) ?_ ?_
      rotate_left
      · show Act.put _ (some 135) _ = _
        simp only [Act.put, List.setIfInBounds_toArray, List.set_cons_zero, List.set_cons_succ, i64_w, i32_w]
        rfl
      refine one_ (i := 4) (N := some 136) #[true, true, true, true, true, false, false, false] rfl rfl (by kernel_rfl) (by decide) (fun K hK => ?_)
      refine Kd.N_lit_step k25 (w0 := w2_20) w2_20.heap.size 25 (by rfl) (N' := 136) rfl (xs := [(pnameN a20)]) (inner := [.string (pnameN a20).f0, .string (pnameN a20).f1, .int .i64 (pnameN a20).f2, .int .i64 (pnameN a20).f3, .slice A_20 (pnameN a20).f4.length c_20]) (ok := (fun k => wd_20.heap.size ≤ k)) (okp := (fun k => wd_20.heap.size ≤ k)) ?hr ((Reps.none _ _).snoc (FKp_node HV.out) rfl) (fun _ hk => hk) ?hf (Below.refl _ _) (Nat.le_refl _) (by show 1 ≤ 9223372036854775807; decide) ?_
      case hr => first | (go_simp; done) | (go_simp; rfl)
      case hf => exact SZ.out
      intro v7 w7_20 hN7 hb7 hg7 hat7
      obtain ⟨A7, c7, rfl⟩ := Kd.N_slice hN7
      have ESp_20 := Aside0.mk (ESc_20.out.below hb7)
      have HN7 := Aside0.mk hN7
      clear hN7 hb7 hg7 hat7
      try clear hHeld
      refine hK.out _ _ ((blk_cell ESp_20.out.nb 4).trans rfl) (fun hHeld => ?_)
      clear hK K
      refine norm_ (a' := ?_) ?_ ?_
      rotate_left
      · show Act.put _ (some 136) _ = _
        simp only [Act.put, List.setIfInBounds_toArray, List.set_cons_zero, List.set_cons_succ, i64_w, i32_w]
        rfl
      refine one_ (i := 5) (N := some 137) #[true, true, true, true, true, true, false, false] rfl rfl (by kernel_rfl) (by decide) (fun K hK => ?_)
      refine Kd.N_append_rows_step k25 (w0 := w7_20) w.heap.size (by rfl) (.tmp 133) (.tmp 136) 23 25 (.agg #[.string (⟨#[]⟩ : ByteArray), .string (⟨#[]⟩ : ByteArray), .int .i64 0, .int .i64 0, .slice none 0 0]) 72 rfl Tryd.underlying23 info25 rfl (by decide) (by decide) (.slice A8_2 1 c8_2) (([] : List S25) ++ [a2]) [(pnameN a20)] A7 1 c7 (fun k => w.heap.size ≤ k ∧ k ≠ w.heap.size ∧ k ≠ bn) (fun k => wd_20.heap.size ≤ k) rfl rfl ESp_20.out.row (Kd.N_F HN7.out) ?hokp ?hfresh (Below.refl _ _) ?hbase (by first | omega | (simp; done) | (simp; omega)) ?_
      case hokp => intro k hk; have h1 := ESd_20.out.lt.1; have h2 := ESd_20.out.lt.2.1; have h3 := ESd_20.out.rs.kb.1; exact ⟨⟨by omega, by omega, by omega⟩, fun e => by have := (ESd_20.out.lt.2.2 k e.symm).1; omega⟩
      case hfresh => intro k hk; have h1 := ESp_20.out.lt.1; have h2 := ESp_20.out.lt.2.1; have h3 := ESp_20.out.rs.kb.1; exact ⟨by omega, by omega, by omega⟩
      case hbase => exact ESp_20.out.rs.kb.1
      intro v8 w8_20 hN8 hb8 hg8 hat8
      obtain ⟨A8_20, c8_20, hv8⟩ := Kd.N_slice hN8
      rw [show ((([] : List S25) ++ [a2]) ++ [(pnameN a20)]).length = 2 by simp] at hv8
      subst hv8
      have ESa := Aside0.mk (ESp_20.out.append hN8 hg8)
      obtain ⟨_, _, hnb8⟩ := ESp_20.out.grown hN8 hg8
      have hn4b := (blk_cell hnb8 4).trans rfl
      have hf4b := blk_frozen hnb8 4
      clear hN8 hb8 hg8 hat8 hnb8
      try clear hHeld
      refine hK.out _ _ hn4b (fun hHeld => ?_)
      clear hK K
      refine norm_ (a' := ?_) ?_ ?_
      rotate_left
      · show Act.put _ (some 137) _ = _
        simp only [Act.put, List.setIfInBounds_toArray, List.set_cons_zero, List.set_cons_succ, i64_w, i32_w]
        rfl
      refine pure_ (i := 6) (N := some 138) (v := ?_) (a' := ?_) #[true, true, true, true, true, true, true, false] rfl rfl (by kernel_rfl) (fun _ _ _ h => h) (Or.inl ⟨by rfl, ?_⟩) ?_ ?_
      rotate_left
      · intro w'
        go_simp
        with_reducible rfl
      rotate_left
      · simp only [Act.put, List.setIfInBounds_toArray, List.set_cons_zero, List.set_cons_succ, i64_w, i32_w]
        rfl
      refine last_ (i := 7) (N := none) #[true, true, true, true, true, true, true, true] rfl rfl (by kernel_rfl) (by decide) (fun K hK => ?_)
      refine skip_ (w1 := ?_) (by rfl) rfl ?_ ?_
      rotate_left
      · go_simp
        rfl
      refine hK.out _ _ ?_
      clear hK K
      refine done_ (by kernel_rfl) ?_
      clear hHeld x4 hn4b hf4b ESd_20 ESc_20 ESp_20 HN7 HV SZ HX
      go_upto_region 29 with (fail)
      generalize hW9 : World.setCell w8_20 _ _ = W9_20
      have ESb20 := Aside0.mk (show ExP w0 w W9_20 g _ en w.heap.size bn t.f1 ⟨#[]⟩ 0 (pplace (t :: T) en) (.slice A8_20 2 c8_20) ((([] : List S25) ++ [a2]) ++ [(pnameN a20)]) from by rw [← hW9]; exact ESa.out)
      clear hW9 ESa
      have hq := HH.out
      clear HH
      rw [pbd_ok] at hq
      have HH := Aside0.mk hq
      clear hq
      have hh := HH.out
      clear HH
      rcases pbd_inv hh with ⟨x, hx, rfl⟩ | ⟨u, T21, hx, h1⟩
      · have HX := Aside0.mk hx
        clear hx hh
        go_wp2_with (go_at_call 36; (with_reducible refine (pmust_bad HX.out g w0 _ ESb20.out.rs.start).mono ?_); rintro e w2 ⟨rfl, h2⟩; exact ⟨rfl, ESb20.out.rs.bad ⟨rfl, h2⟩⟩)
      have HX := Aside0.mk hx
      have HH := Aside0.mk h1
      clear hx h1 hh
      go_upto_region 30 with (go_at_call 36; (with_reducible refine (pmust_ok HX.out g w0 _ ESb20.out.rs.start).mono ?_); rintro e w_21 ⟨rfl, h2⟩; have ES21 := Aside0.mk (ESb20.out.call h2); clear h2)
      clear HX ESb20
      have hh := HH.out
      clear HH
      simp only [Option.some.injEq] at hh
      subst hh
      have hn0 := (blk_cell ES21.out.nb 0).trans rfl
      have hn1 := (blk_cell ES21.out.nb 1).trans rfl
      have hn2 := (blk_cell ES21.out.nb 2).trans rfl
      have hn3 := (blk_cell ES21.out.nb 3).trans rfl
      have hn4 := (blk_cell ES21.out.nb 4).trans rfl
      have hr0 := (blk_cell ES21.out.r4 0).trans rfl
      have hf0 := blk_frozen ES21.out.r4 0
      have hr1 := (blk_cell ES21.out.r4 1).trans rfl
      have hf1 := blk_frozen ES21.out.r4 1
      have hr2 := (blk_cell ES21.out.r4 2).trans rfl
      have hf2 := blk_frozen ES21.out.r4 2
      have hr3 := (blk_cell ES21.out.r4 3).trans rfl
      have hf3 := blk_frozen ES21.out.r4 3
      have hr4 := (blk_cell ES21.out.r4 4).trans rfl
      have hf4 := blk_frozen ES21.out.r4 4
      go_wp2
      have RSz := ((((((((((ES21.out.rs).far (b := w.heap.size) (j := 0) (Nat.ne_of_lt GW.out) (Nat.le_refl _) WW.out (.string t.f1))).far (b := w.heap.size) (j := 1) (Nat.ne_of_lt GW.out) (Nat.le_refl _) WW.out (.string ⟨#[]⟩))).far (b := w.heap.size) (j := 2) (Nat.ne_of_lt GW.out) (Nat.le_refl _) WW.out (.int .i64 0))).far (b := w.heap.size) (j := 3) (Nat.ne_of_lt GW.out) (Nat.le_refl _) WW.out (.int .i64 (pplace (t :: T) en)))).far (b := w.heap.size) (j := 4) (Nat.ne_of_lt GW.out) (Nat.le_refl _) WW.out (.slice A8_20 2 c8_20))
      have hNz := Kd.N_far (p := ⟨w.heap.size, 4, none⟩) (Kd.N_far (p := ⟨w.heap.size, 3, none⟩) (Kd.N_far (p := ⟨w.heap.size, 2, none⟩) (Kd.N_far (p := ⟨w.heap.size, 1, none⟩) (Kd.N_far (p := ⟨w.heap.size, 0, none⟩) ES21.out.row (fun k hk => hk.2.1) (.string t.f1)) (fun k hk => hk.2.1) (.string ⟨#[]⟩)) (fun k hk => hk.2.1) (.int .i64 0)) (fun k hk => hk.2.1) (.int .i64 (pplace (t :: T) en))) (fun k hk => hk.2.1) (.slice A8_20 2 c8_20)
      refine bodyPost_ret (results_cell_row rfl _ _ w.heap.size 25 #[.string t.f1, .string ⟨#[]⟩, .int .i64 0, .int .i64 (pplace (t :: T) en), .slice A8_20 2 c8_20] (0, 0) _ rfl (blk_put (blk_put (blk_put (blk_put (blk_put ES21.out.r4 0 (.string t.f1) rfl) 1 (.string ⟨#[]⟩) rfl) 2 (.int .i64 0) rfl) 3 (.int .i64 (pplace (t :: T) en)) rfl) 4 (.slice A8_20 2 c8_20) rfl) Tryd.underlying25 rfl (by kernel_rfl)) rfl ?_
      exact ⟨⟨_, rfl, Kd.N_mono hNz (fun k hk => hk.1)⟩, RSz⟩
    obtain ⟨hq3, hq4, hq5⟩ : ¬ t.f1.toList = ([99, 114, 121, 112, 116] : List UInt8) ∧ ¬ t.f1.toList = ([105, 110, 116, 101, 103, 114, 105, 116, 121] : List UInt8) ∧ ¬ t.f1.toList = ([118, 101, 114, 105, 116, 121] : List UInt8) := ⟨fun h => hq2 (.inl h), fun h => hq2 (.inr (.inl h)), fun h => hq2 (.inr (.inr h))⟩
    have hq := HH.out
    clear HH
    rw [if_neg hq2] at hq
    have HH := Aside0.mk hq
    clear hq
    have e2 : (t.f1.toList == ([99, 114, 121, 112, 116] : List UInt8)) = false := beq_eq_false_iff_ne.2 hq3
    have e3 : (t.f1.toList == ([105, 110, 116, 101, 103, 114, 105, 116, 121] : List UInt8)) = false := beq_eq_false_iff_ne.2 hq4
    have e4 : (t.f1.toList == ([118, 101, 114, 105, 116, 121] : List UInt8)) = false := beq_eq_false_iff_ne.2 hq5
    clear hq2 hq3 hq4 hq5
    go_upto_block 1 with (fail)
    go_wp2_with (fail)
    go_loopg [] k (fun kx wr => ∃ (kk : Nat) (TT : List S60) (acc : List S25) (Lv : Value), kk ≤ kx ∧ kk ≤ k ∧ Aside0 (ExP w0 w wr g TT en w.heap.size bn t.f1 ⟨#[]⟩ 0 (pplace (t :: T) en) Lv acc) ∧ Aside0 (pbd (pexprs kk TT en nest acc) (fun L T3 => pbd (some (pmust T3 en RP)) fun _ T4 => some (.ok ((⟨t.f1, ⟨#[]⟩, 0, t.f3, L⟩ : S25), T4))) = some r))
    case atStart => exact ⟨k, _, _, _, Nat.le_refl _, Nat.le_refl _, ESb2, HH⟩
    case round =>
      clear HH ESb2
      obtain ⟨kk, TT, acc, Lv, hk1, hk2, EL, HH⟩ := hrel
      cases kk with
      | zero => exact absurd HH.out (by rw [pexprs]; simp [pbd])
      | succ kk =>
        have hl := HH.out
        clear HH
        rw [pexprs] at hl
        obtain ⟨AL, cL, rfl⟩ := Kd.N_slice EL.out.row
        by_cases hb : acc.length ≤ 1000000
        case neg => rw [if_neg hb] at hl; cases hl
        rw [if_pos hb] at hl
        cases hp : pis TT CM with
        | false =>
          rw [hp, if_neg (by decide)] at hl
          have HH := Aside0.mk hl
          have HP := Aside0.mk hp
          clear hl hp
          go_upto_region 29 with (go_at_call 38; (with_reducible refine (phas_calls g _ en _ w0 _ EL.out.rs.start).mono ?_); rintro e w_l ⟨rfl, h2⟩; rw [HP.out] at h2 ⊢; have ESl := Aside0.mk (EL.out.call h2); clear h2)
          have hq := HH.out
          clear HH
          rw [pbd_ok] at hq
          have HH := Aside0.mk hq
          clear hq
          have hh := HH.out
          clear HH
          rcases pbd_inv hh with ⟨x, hx, rfl⟩ | ⟨u, T22, hx, h1⟩
          · have HX := Aside0.mk hx
            clear hx hh
            go_wp2_with (go_at_call 36; (with_reducible refine (pmust_bad HX.out g w0 _ ESl.out.rs.start).mono ?_); rintro e w2 ⟨rfl, h2⟩; exact ⟨rfl, ESl.out.rs.bad ⟨rfl, h2⟩⟩)
          have HX := Aside0.mk hx
          have HH := Aside0.mk h1
          clear hx h1 hh
          go_upto_region 30 with (go_at_call 36; (with_reducible refine (pmust_ok HX.out g w0 _ ESl.out.rs.start).mono ?_); rintro e w_22 ⟨rfl, h2⟩; have ES22 := Aside0.mk (ESl.out.call h2); clear h2)
          clear HX ESl
          have hh := HH.out
          clear HH
          simp only [Option.some.injEq] at hh
          subst hh
          have hn0 := (blk_cell ES22.out.nb 0).trans rfl
          have hn1 := (blk_cell ES22.out.nb 1).trans rfl
          have hn2 := (blk_cell ES22.out.nb 2).trans rfl
          have hn3 := (blk_cell ES22.out.nb 3).trans rfl
          have hn4 := (blk_cell ES22.out.nb 4).trans rfl
          have hr0 := (blk_cell ES22.out.r4 0).trans rfl
          have hf0 := blk_frozen ES22.out.r4 0
          have hr1 := (blk_cell ES22.out.r4 1).trans rfl
          have hf1 := blk_frozen ES22.out.r4 1
          have hr2 := (blk_cell ES22.out.r4 2).trans rfl
          have hf2 := blk_frozen ES22.out.r4 2
          have hr3 := (blk_cell ES22.out.r4 3).trans rfl
          have hf3 := blk_frozen ES22.out.r4 3
          have hr4 := (blk_cell ES22.out.r4 4).trans rfl
          have hf4 := blk_frozen ES22.out.r4 4
          go_wp2
          have RSz := ((((((((((ES22.out.rs).far (b := w.heap.size) (j := 0) (Nat.ne_of_lt GW.out) (Nat.le_refl _) WW.out (.string t.f1))).far (b := w.heap.size) (j := 1) (Nat.ne_of_lt GW.out) (Nat.le_refl _) WW.out (.string ⟨#[]⟩))).far (b := w.heap.size) (j := 2) (Nat.ne_of_lt GW.out) (Nat.le_refl _) WW.out (.int .i64 0))).far (b := w.heap.size) (j := 3) (Nat.ne_of_lt GW.out) (Nat.le_refl _) WW.out (.int .i64 (pplace (t :: T) en)))).far (b := w.heap.size) (j := 4) (Nat.ne_of_lt GW.out) (Nat.le_refl _) WW.out (.slice AL acc.length cL))
          have hNz := Kd.N_far (p := ⟨w.heap.size, 4, none⟩) (Kd.N_far (p := ⟨w.heap.size, 3, none⟩) (Kd.N_far (p := ⟨w.heap.size, 2, none⟩) (Kd.N_far (p := ⟨w.heap.size, 1, none⟩) (Kd.N_far (p := ⟨w.heap.size, 0, none⟩) ES22.out.row (fun k hk => hk.2.1) (.string t.f1)) (fun k hk => hk.2.1) (.string ⟨#[]⟩)) (fun k hk => hk.2.1) (.int .i64 0)) (fun k hk => hk.2.1) (.int .i64 (pplace (t :: T) en))) (fun k hk => hk.2.1) (.slice AL acc.length cL)
          refine bodyPost_ret (results_cell_row rfl _ _ w.heap.size 25 #[.string t.f1, .string ⟨#[]⟩, .int .i64 0, .int .i64 (pplace (t :: T) en), .slice AL acc.length cL] (0, 0) _ rfl (blk_put (blk_put (blk_put (blk_put (blk_put ES22.out.r4 0 (.string t.f1) rfl) 1 (.string ⟨#[]⟩) rfl) 2 (.int .i64 0) rfl) 3 (.int .i64 (pplace (t :: T) en)) rfl) 4 (.slice AL acc.length cL) rfl) Tryd.underlying25 rfl (by kernel_rfl)) rfl ?_
          exact ⟨⟨_, rfl, Kd.N_mono hNz (fun k hk => hk.1)⟩, RSz⟩
        | true =>
          rw [hp, if_pos rfl] at hl
          have HH := Aside0.mk hl
          have HP := Aside0.mk hp
          clear hl hp
          have hq := HH.out
          clear HH
          simp only [pbd_assoc] at hq
          have HH := Aside0.mk hq
          clear hq
          go_upto_region 13 with (go_at_call 38; (with_reducible refine (phas_calls g _ en _ w0 _ EL.out.rs.start).mono ?_); rintro e w_l ⟨rfl, h2⟩; rw [HP.out] at h2 ⊢; have ESl := Aside0.mk (EL.out.call h2); clear h2)
          refine start_ (n := 10) (S := fun w' => w'.cell? ⟨bn, 4, none⟩ = some (.slice AL acc.length cL)) (ds := [9]) #[false, false, false, false, false, false, false, false, false, false] (by kernel_rfl) rfl rfl ?hS (fun hHeld => ?_)
          case hS => exact (blk_cell (blk_drew ESl.out.nb) 4).trans rfl
          have ESd_23 := Aside0.mk ESl.out.drew
          clear ESl
          generalize World.drew w_l = wd_23 at *
          have x4 := (blk_cell ESd_23.out.nb 4).trans rfl
          refine pure_ (i := 0) (N := some 75) (v := ?_) (a' := ?_) #[true, false, false, false, false, false, false, false, false, false] rfl rfl (by kernel_rfl) (fun _ _ _ h => h) (Or.inl ⟨by rfl, ?_⟩) ?_ ?_
          rotate_left
          · intro w'
            go_simp
            with_reducible rfl
          rotate_left
          · simp only [Act.put, List.setIfInBounds_toArray, List.set_cons_zero, List.set_cons_succ, i64_w, i32_w]
            rfl
          refine pure_ (i := 2) (N := some 77) (v := ?_) (a' := ?_) #[true, false, true, false, false, false, false, false, false, false] rfl rfl (by kernel_rfl) (fun _ _ _ h => h) (Or.inl ⟨by rfl, ?_⟩) ?_ ?_
          rotate_left
          · intro w'
            go_simp
            with_reducible rfl
          rotate_left
          · simp only [Act.put, List.setIfInBounds_toArray, List.set_cons_zero, List.set_cons_succ, i64_w, i32_w]
            rfl
          refine pure_ (i := 3) (N := some 78) (v := ?_) (a' := ?_) #[true, false, true, true, false, false, false, false, false, false] rfl rfl (by kernel_rfl) (fun _ _ _ h => h) (Or.inl ⟨by rfl, ?_⟩) ?_ ?_
          rotate_left
          · intro w'
            go_simp
            with_reducible rfl
          rotate_left
          · simp only [Act.put, List.setIfInBounds_toArray, List.set_cons_zero, List.set_cons_succ, i64_w, i32_w]
            rfl
          refine pure_ (i := 4) (N := some 79) (v := ?_) (a' := ?_) #[true, false, true, true, true, false, false, false, false, false] rfl rfl (by kernel_rfl) (fun _ _ _ h => h) (Or.inl ⟨by rfl, ?_⟩) ?_ ?_
          rotate_left
          · intro w'
            go_simp
            with_reducible rfl
          rotate_left
          · simp only [Act.put, List.setIfInBounds_toArray, List.set_cons_zero, List.set_cons_succ, i64_w, i32_w]
            rfl
          refine take_ (i := 1) (N := some 76) (v := ?_) (a' := ?_) #[true, true, true, true, true, false, false, false, false, false] rfl rfl (by kernel_rfl) (fun _ _ _ h => h) (Or.inl ⟨by rfl, ?_⟩) hHeld ?_ ?_
          rotate_left
          · rintro w' s0
            go_simp
            with_reducible rfl
          rotate_left
          · simp only [Act.put, List.setIfInBounds_toArray, List.set_cons_zero, List.set_cons_succ, i64_w, i32_w]
            rfl
          have hh := HH.out
          clear HH
          rcases pbd_inv hh with ⟨x, hx, rfl⟩ | ⟨a23, T23, hx, h1⟩
          · have HX := Aside0.mk hx
            clear hx hh
            refine one_ (i := 5) (N := some 80) #[true, true, true, true, true, true, false, false, false, false] rfl rfl (by kernel_rfl) (by decide) (fun K hK => ?_)
            refine goesP_ Tryd.func37 (by kernel_rfl) rfl #[.pointer (some ⟨g, 0, none⟩), .int .i64 (wrap64 (nest + 1))] (by rfl) rfl rfl (by first | rfl | (simp [Act.eval]; done) | (go_simp; done)) (R := PRes (α := S25) w0 wd_23 g en (nodeR wd_23) (.error x)) (by rw [HWR.out]; exact (IHS.out kk (Nat.le_of_succ_le hk2)).use g _ en _ _ w0 wd_23 ESd_23.out.rs.start HX.out) ?_
            rintro e w2 ⟨rfl, h2⟩
            exact .inl ⟨_, rfl, ⟨rfl, ESd_23.out.rs.bad ⟨rfl, h2⟩⟩⟩
          have HX := Aside0.mk hx
          have HH := Aside0.mk h1
          clear hx h1 hh
          refine one_ (i := 5) (N := some 80) #[true, true, true, true, true, true, false, false, false, false] rfl rfl (by kernel_rfl) (by decide) (fun K hK => ?_)
          refine goesP_ Tryd.func37 (by kernel_rfl) rfl #[.pointer (some ⟨g, 0, none⟩), .int .i64 (wrap64 (nest + 1))] (by rfl) rfl rfl (by first | rfl | (simp [Act.eval]; done) | (go_simp; done)) (R := PRes (α := S25) w0 wd_23 g en (nodeR wd_23) (.ok (a23, T23))) (by rw [HWR.out]; exact (IHS.out kk (Nat.le_of_succ_le hk2)).use g _ en _ _ w0 wd_23 ESd_23.out.rs.start HX.out) ?_
          rintro e w2_23 ⟨⟨v, rfl, hN⟩, h2⟩
          obtain ⟨A_23, c_23, rfl⟩ := Kd.N_slice hN
          have ESc_23 := Aside0.mk (ESd_23.out.call h2)
          have SZ := Aside0.mk h2.kb.1
          have HV := Aside0.mk hN
          clear hN h2
          refine .inr ⟨_, rfl, ?_⟩
          try clear hHeld
          refine hK.out _ _ ((blk_cell ESc_23.out.nb 4).trans rfl) (fun hHeld => ?_)
          clear hK K
          refine norm_ (a' := ?_) ?_ ?_
          rotate_left
          · show Act.put _ (some 80) _ = _
            simp only [Act.put, List.setIfInBounds_toArray, List.set_cons_zero, List.set_cons_succ, i64_w, i32_w]
            rfl
          refine one_ (i := 6) (N := some 81) #[true, true, true, true, true, true, true, false, false, false] rfl rfl (by kernel_rfl) (by decide) (fun K hK => ?_)
          refine Kd.N_lit_step k25 (w0 := w2_23) w2_23.heap.size 25 (by rfl) (N' := 81) rfl (xs := [a23]) (inner := [.string a23.f0, .string a23.f1, .int .i64 a23.f2, .int .i64 a23.f3, .slice A_23 a23.f4.length c_23]) (ok := (fun k => wd_23.heap.size ≤ k)) (okp := (fun k => wd_23.heap.size ≤ k)) ?hr ((Reps.none _ _).snoc (FKp_node HV.out) rfl) (fun _ hk => hk) ?hf (Below.refl _ _) (Nat.le_refl _) (by show 1 ≤ 9223372036854775807; decide) ?_
          case hr => first | (go_simp; done) | (go_simp; rfl)
          case hf => exact SZ.out
          intro v7 w7_23 hN7 hb7 hg7 hat7
          obtain ⟨A7, c7, rfl⟩ := Kd.N_slice hN7
          have ESp_23 := Aside0.mk (ESc_23.out.below hb7)
          have HN7 := Aside0.mk hN7
          clear hN7 hb7 hg7 hat7
          try clear hHeld
          refine hK.out _ _ ((blk_cell ESp_23.out.nb 4).trans rfl) (fun hHeld => ?_)
          clear hK K
          refine norm_ (a' := ?_) ?_ ?_
          rotate_left
          · show Act.put _ (some 81) _ = _
            simp only [Act.put, List.setIfInBounds_toArray, List.set_cons_zero, List.set_cons_succ, i64_w, i32_w]
            rfl
          refine one_ (i := 7) (N := some 82) #[true, true, true, true, true, true, true, true, false, false] rfl rfl (by kernel_rfl) (by decide) (fun K hK => ?_)
          refine Kd.N_append_rows_step k25 (w0 := w7_23) w.heap.size (by rfl) (.tmp 76) (.tmp 81) 23 25 (.agg #[.string (⟨#[]⟩ : ByteArray), .string (⟨#[]⟩ : ByteArray), .int .i64 0, .int .i64 0, .slice none 0 0]) 72 rfl Tryd.underlying23 info25 rfl (by decide) (by decide) (.slice AL acc.length cL) acc [a23] A7 1 c7 (fun k => w.heap.size ≤ k ∧ k ≠ w.heap.size ∧ k ≠ bn) (fun k => wd_23.heap.size ≤ k) rfl rfl ESp_23.out.row (Kd.N_F HN7.out) ?hokp ?hfresh (Below.refl _ _) ?hbase (by first | omega | (simp; done) | (simp; omega)) ?_
          case hokp => intro k hk; have h1 := ESd_23.out.lt.1; have h2 := ESd_23.out.lt.2.1; have h3 := ESd_23.out.rs.kb.1; exact ⟨⟨by omega, by omega, by omega⟩, fun e => by have := (ESd_23.out.lt.2.2 k e.symm).1; omega⟩
          case hfresh => intro k hk; have h1 := ESp_23.out.lt.1; have h2 := ESp_23.out.lt.2.1; have h3 := ESp_23.out.rs.kb.1; exact ⟨by omega, by omega, by omega⟩
          case hbase => exact ESp_23.out.rs.kb.1
          intro v8 w8_23 hN8 hb8 hg8 hat8
          obtain ⟨A8_23, c8_23, hv8⟩ := Kd.N_slice hN8
          rw [show (acc ++ [a23]).length = (acc.length + 1) by simp] at hv8
          subst hv8
          have ESa := Aside0.mk (ESp_23.out.append hN8 hg8)
          obtain ⟨_, _, hnb8⟩ := ESp_23.out.grown hN8 hg8
          have hn4b := (blk_cell hnb8 4).trans rfl
          have hf4b := blk_frozen hnb8 4
          clear hN8 hb8 hg8 hat8 hnb8
          try clear hHeld
          refine hK.out _ _ hn4b (fun hHeld => ?_)
          clear hK K
          refine norm_ (a' := ?_) ?_ ?_
          rotate_left
          · show Act.put _ (some 82) _ = _
            simp only [Act.put, List.setIfInBounds_toArray, List.set_cons_zero, List.set_cons_succ, i64_w, i32_w]
            rfl
          refine pure_ (i := 8) (N := some 83) (v := ?_) (a' := ?_) #[true, true, true, true, true, true, true, true, true, false] rfl rfl (by kernel_rfl) (fun _ _ _ h => h) (Or.inl ⟨by rfl, ?_⟩) ?_ ?_
          rotate_left
          · intro w'
            go_simp
            with_reducible rfl
          rotate_left
          · simp only [Act.put, List.setIfInBounds_toArray, List.set_cons_zero, List.set_cons_succ, i64_w, i32_w]
            rfl
          refine last_ (i := 9) (N := none) #[true, true, true, true, true, true, true, true, true, true] rfl rfl (by kernel_rfl) (by decide) (fun K hK => ?_)
          refine skip_ (w1 := ?_) (by rfl) rfl ?_ ?_
          rotate_left
          · go_simp
            rfl
          refine hK.out _ _ ?_
          clear hK K
          refine done_ (by kernel_rfl) ?_
          clear hHeld x4 hn4b hf4b ESd_23 ESc_23 ESp_23 HN7 HV SZ HX
          generalize hW9 : World.setCell w8_23 _ _ = W9_23
          have ESb23 := Aside0.mk (show ExP w0 w W9_23 g _ en w.heap.size bn t.f1 ⟨#[]⟩ 0 (pplace (t :: T) en) (.slice A8_23 (acc.length + 1) c8_23) (acc ++ [a23]) from by rw [← hW9]; exact ESa.out)
          clear hW9 ESa
          go_wp2
          go_roundg kk
          case rel => exact ⟨kk, _, _, _, Nat.le_refl _, Nat.le_of_succ_le hk2, ESb23, HH⟩
          case measure => omega
end Go.Proofs.YtknbfhhmjbnemaaDoor.P
end
section
namespace Go.Proofs.YtknbfhhmjbnemaaDoor.P
open Go.RowKit Go.Proofs.YtknbfhhmjbnemaaDoorW.PrintWords Go.Proofs.YtknbfhhmjbnemaaDoorW.PrintLast Go.Proofs.YtknbfhhmjbnemaaDoorW.PrintMore
set_option linter.unusedVariables false
set_option linter.unusedSimpArgs false

theorem pexpr_step (k : Nat) (ih : ∀ k', k' ≤ k → PexprOk k') : PexprOk (k + 1) := by
  intro g T en nest r w0 w hS h
  rw [pexpr] at h
  by_cases hn0 : nest < 0 ∨ nest > 100
  · rw [if_pos hn0] at h
    cases h
  rw [if_neg hn0] at h
  by_cases hn : nest > 12
  · rw [if_pos hn] at h
    exact pexpr_deep g T en nest r w0 w hS hn0 hn (Option.some.inj h).symm
  rw [if_neg hn] at h
  by_cases ht : ptgt T = true
  · rw [if_pos ht] at h
    obtain ⟨t, T, rfl, h0, h1⟩ := ptgt_true ht
    exact pexpr_tgt k (ih k (Nat.le_refl k)) ih g t T en nest r w0 w hS hn0 hn h0 h1 h
  · rw [if_neg ht] at h
    rcases ptgt_false ht with rfl | ⟨t, T, rfl, h0 | ⟨h0, h1⟩⟩
    · exact pexpr_use0 g en nest r w0 w hS hn0 hn h
    · exact pexpr_use1 g t T en nest r w0 w hS hn0 hn h0 h
    · exact pexpr_use2 g t T en nest r w0 w hS hn0 hn h0 h1 h
theorem pexpr_upto : ∀ k k', k' ≤ k → PexprOk k'
  | 0, k', hk => by
    obtain rfl : k' = 0 := by omega
    intro g T en nest r w0 w hS h
    simp [pexpr] at h
  | k + 1, k', hk => by
    rcases Nat.lt_or_ge k' (k + 1) with h | h
    · exact pexpr_upto k k' (by omega)
    · obtain rfl : k' = k + 1 := by omega
      exact pexpr_step k (pexpr_upto k)
theorem pexpr_all (k : Nat) : PexprOk k := pexpr_upto k k (Nat.le_refl k)

/-- A statement's word. -/
def pstw (t : S60) : Bool := ((t.f1.toList == ([100, 101, 118, 105, 99, 101] : List UInt8)) || (t.f1.toList == ([106, 111, 117, 114, 110, 97, 108] : List UInt8)) || (t.f1.toList == ([107, 101, 121] : List UInt8)) || (t.f1.toList == ([114, 111, 111, 116] : List UInt8)) || (t.f1.toList == ([118, 111, 108, 117, 109, 101] : List UInt8)) || (t.f1.toList == ([101, 120, 112, 111, 114, 116] : List UInt8))) && (t.f0 == 0)
set_option maxHeartbeats 4000000 in
set_option maxRecDepth 100000 in
theorem st1_calls (t : S60) (w : World) : Calls Tryd.prog 32 #[tokV t] w fun e w' => e = .returned (.bool (pstw t)) ∧ Below w.heap.size w w' := by
  unfold tokV pstw
  have hu60 := Tryd.underlying60
  cases h1 : (t.f1.toList == ([100, 101, 118, 105, 99, 101] : List UInt8)) with
  | true =>
    go_enter Tryd.func32, Tryd.ntmps32
    go_wp2
    go_ret
    exact ⟨by simp, below_alloc (Below.refl _ _) _⟩
  | false =>
    cases h2 : (t.f1.toList == ([106, 111, 117, 114, 110, 97, 108] : List UInt8)) with
    | true =>
      go_enter Tryd.func32, Tryd.ntmps32
      go_wp2
      go_ret
      exact ⟨by simp, below_alloc (Below.refl _ _) _⟩
    | false =>
      cases h3 : (t.f1.toList == ([107, 101, 121] : List UInt8)) with
      | true =>
        go_enter Tryd.func32, Tryd.ntmps32
        go_wp2
        go_ret
        exact ⟨by simp, below_alloc (Below.refl _ _) _⟩
      | false =>
        cases h4 : (t.f1.toList == ([114, 111, 111, 116] : List UInt8)) with
        | true =>
          go_enter Tryd.func32, Tryd.ntmps32
          go_wp2
          go_ret
          exact ⟨by simp, below_alloc (Below.refl _ _) _⟩
        | false =>
          cases h5 : (t.f1.toList == ([118, 111, 108, 117, 109, 101] : List UInt8)) with
          | true =>
            go_enter Tryd.func32, Tryd.ntmps32
            go_wp2
            go_ret
            exact ⟨by simp, below_alloc (Below.refl _ _) _⟩
          | false =>
            cases h6 : (t.f1.toList == ([101, 120, 112, 111, 114, 116] : List UInt8)) with
            | true =>
              go_enter Tryd.func32, Tryd.ntmps32
              go_wp2
              go_ret
              exact ⟨by simp, below_alloc (Below.refl _ _) _⟩
            | false =>
              go_enter Tryd.func32, Tryd.ntmps32
              go_wp2
              go_ret
              exact ⟨by simp, below_alloc (Below.refl _ _) _⟩
abbrev EQ : ByteArray := ⟨#[61]⟩
abbrev SC : ByteArray := ⟨#[59]⟩
abbrev RO : ByteArray := ⟨#[114, 101, 97, 100, 111, 110, 108, 121]⟩
def phexN (t : S60) : S25 := ⟨⟨#[104, 101, 120]⟩, t.f1, 0, t.f3, []⟩
/-- A statement, behind its word and its name. -/
def pstail (k : Nat) (t nm : S60) (pl : Int) (T2 : List S60) (en : Int) : PR S25 :=
  pbd (if t.f1.toList = ([100, 101, 118, 105, 99, 101] : List UInt8) ∨ t.f1.toList = ([106, 111, 117, 114, 110, 97, 108] : List UInt8) then
      pbd (pof T2 en 1) fun a T3 => some (.ok ((a.f2, ([] : List S25)), T3))
    else if t.f1.toList = ([107, 101, 121] : List UInt8) ∨ t.f1.toList = ([114, 111, 111, 116] : List UInt8) then
      pbd (pof T2 en 2) fun a T3 => some (.ok ((0, [phexN a]), T3))
    else if t.f1.toList = ([118, 111, 108, 117, 109, 101] : List UInt8) then
      pbd (some (pmust T2 en EQ)) fun _ T3 => pbd (pexpr k T3 en 1) fun a T4 => some (.ok ((0, [a]), T4))
    else if t.f1.toList = ([101, 120, 112, 111, 114, 116] : List UInt8) then
      (if pis T2 RO = true then some (.ok ((1, []), T2.tail)) else some (.ok ((0, []), T2)))
    else some (.ok ((0, []), T2))) fun nl T3 =>
  pbd (some (pmust T3 en SC)) fun _ T4 => some (.ok (⟨t.f1, nm.f1, nl.1, pl, nl.2⟩, T4))
def pstmt (k : Nat) (T : List S60) (en : Int) : PR S25 :=
  pbd (ptake (fun t => some (pstw t)) T en) fun t T1 =>
  pbd (pof T1 en 0) fun nm T2 => pstail k t nm (pplace T en) T2 en
theorem pstmt_mono (k : Nat) (T : List S60) (en : Int) : LeO (pstmt k T en) (pstmt (k + 1) T en) := by
  unfold pstmt pstail
  repeat' first
    | (with_reducible exact (pexpr_mono k).1 _ _ _)
    | (with_reducible exact LeO.refl _)
    | (with_reducible refine LeO.ite ?_ ?_)
    | (with_reducible refine LeO.pbd ?_ (fun _ _ => ?_))
end Go.Proofs.YtknbfhhmjbnemaaDoor.P
end
section
namespace Go.Proofs.YtknbfhhmjbnemaaDoor.P
open Go.RowKit Go.Proofs.YtknbfhhmjbnemaaDoorW.PrintWords Go.Proofs.YtknbfhhmjbnemaaDoorW.PrintLast Go.Proofs.YtknbfhhmjbnemaaDoorW.PrintMore
set_option linter.unusedVariables false
set_option linter.unusedSimpArgs false

theorem ExP.made {w0 w W W1 : World} {g b4 bn : Nat} {T : List S60} {en nn pl : Int} {op ss : ByteArray} {Lv : Value} {L : List S25} (h : ExP w0 w W g T en b4 bn op ss nn pl Lv L) (hg : W.grownBy W1 none) : ExP w0 w W1 g T en b4 bn op ss nn pl Lv L :=
  h.call (h.rs.start.grown hg (by simp) (fun k hk => by cases hk))
theorem field25_1 (a b : ByteArray) (c d : Int) (e : Value) (w : World) : (Instr.field 25 (.agg #[.string a, .string b, .int .i64 c, .int .i64 d, e]) 1).run Tryd.prog w = .ok (.string b) w := by
  have h1 := Tryd.underlying25
  unfold Instr.field
  simp [go_sem, h1, part, asAgg]
theorem field25_2 (a b : ByteArray) (c d : Int) (e : Value) (w : World) : (Instr.field 25 (.agg #[.string a, .string b, .int .i64 c, .int .i64 d, e]) 2).run Tryd.prog w = .ok (.int .i64 c) w := by
  have h1 := Tryd.underlying25
  unfold Instr.field
  simp [go_sem, h1, part, asAgg]
set_option maxHeartbeats 16000000 in
set_option maxRecDepth 100000 in
theorem pstmt_calls (k : Nat) (g : Nat) (T : List S60) (en : Int) (r : Except PErr (S25 × List S60)) (w0 w : World) (hS : PsS w0 w w g T en) (h : pstmt k T en = some r) :
    Calls Tryd.prog 19 #[.pointer (some ⟨g, 0, none⟩)] w (PRes w0 w g en (nodeR w) r) := by
  have hu25 := Tryd.underlying25
  have hu60 := Tryd.underlying60
  have hF1 := field25_1
  have hF2 := field25_2
  have GW := Aside0.mk hS.lt
  have WW := Aside0.mk hS.bel.size
  have IH := Aside0.mk (pexpr_all k)
  unfold pstmt at h
  have HH := Aside0.mk h
  have RS0 := Aside0.mk (hS.alloc (.cells #[.string (⟨#[]⟩ : ByteArray), .string (⟨#[]⟩ : ByteArray), .int .i64 0, .int .i64 0, .slice none 0 0] 25 (0, 0)))
  have HR4 := Aside0.mk (blk_new w (.cells #[.string (⟨#[]⟩ : ByteArray), .string (⟨#[]⟩ : ByteArray), .int .i64 0, .int .i64 0, .slice none 0 0] 25 (0, 0)))
  have EG := Aside0.mk (show Enters Tryd.prog 32 from enters_of Tryd.func32 (by kernel_rfl) rfl)
  clear hS h
  go_enter Tryd.func19, Tryd.ntmps19
  go_upto_region 2 with (go_at_call 30; (with_reducible refine (pplace_calls g _ en w0 _ RS0.out.start).mono ?_); rintro e w' ⟨rfl, rfl⟩)
  generalize World.alloc w _ = w1 at *
  have hh := HH.out
  clear HH
  rcases pbd_inv hh with ⟨x, hx, rfl⟩ | ⟨t, T1, hx, h1⟩
  · have HX := Aside0.mk hx
    clear hx hh
    go_wp2_with (go_at_call 31; (with_reducible refine (ptake_calls g 32 #[] (fun t => some (pstw t)) _ en _ w0 _ EG.out RS0.out.start (fun t b w1 hb hB => by cases hb; simpa using st1_calls t w1) HX.out).mono ?_); rintro e w2 ⟨rfl, h2⟩; exact ⟨rfl, RS0.out.bad ⟨rfl, h2⟩⟩)
  have HX := Aside0.mk hx
  have HH := Aside0.mk h1
  clear hx h1 hh
  go_upto_region 4 with (go_at_call 31; (with_reducible refine (ptake_calls g 32 #[] (fun t => some (pstw t)) _ en _ w0 _ EG.out RS0.out.start (fun t b w1 hb hB => by cases hb; simpa using st1_calls t w1) HX.out).mono ?_); rintro e w2 ⟨rfl, h2⟩; unfold tokV; have RS2 := Aside0.mk (RS0.out.call h2); have HR2 := Aside0.mk (h2.kb.blk HR4.out (Nat.ne_of_gt GW.out) (by simp)); have hne : w.heap.size ≠ w2.heap.size := Nat.ne_of_lt (blk_lt HR2.out); have hne' := hne.symm; clear h2)
  generalize hW : World.alloc (World.alloc w2 _) _ = W3
  clear RS0 HR4 HX
  have HBN := Aside0.mk (Nat.ne_of_lt (Nat.lt_succ_of_lt (blk_lt HR2.out)))
  have ES0 := Aside0.mk (show ExP w0 w W3 g T1 en w.heap.size (w2.heap.size + 1) t.f1 ⟨#[]⟩ 0 (pplace T en) (.slice none 0 0) [] from by
    have h1 := blk_lt HR2.out
    rw [← hW]
    refine ⟨(RS2.out.alloc _).alloc _, blk_alloc (blk_alloc HR2.out _) _, ?_, Kd.N_nil _ _ _ _ _, Nat.le_refl _, by omega, by omega, GW.out, WW.out⟩
    have h2 := blk_new (World.alloc w2 (.cells #[.int .i64 t.f0, .string t.f1, .int .i64 t.f2, .int .i64 t.f3] 60 (0, 0))) (.cells #[.string t.f1, .string ⟨#[]⟩, .int .i64 0, .int .i64 (pplace T en), .slice none 0 0] 25 (0, 0))
    rw [World.size_alloc] at h2
    exact h2)
  generalize hbn : w2.heap.size + 1 = bn at *
  clear hW RS2 HR2 hne hne' HBN
  have hh := HH.out
  clear HH
  rcases pbd_inv hh with ⟨x, hx, rfl⟩ | ⟨nm, T2, hx, h1⟩
  · have HX := Aside0.mk hx
    clear hx hh
    go_wp2_with (go_at_call 33; (with_reducible refine (pname_calls g _ en _ w0 _ ES0.out.rs.start HX.out).mono ?_); rintro e w4 ⟨rfl, h2⟩; exact ⟨rfl, ES0.out.rs.bad ⟨rfl, h2⟩⟩)
  have HX := Aside0.mk hx
  have HH := Aside0.mk h1
  clear hx h1 hh
  go_upto_region 5 with (go_at_call 33; (with_reducible refine (pname_calls g _ en _ w0 _ ES0.out.rs.start HX.out).mono ?_); rintro e w4 ⟨rfl, h2⟩; unfold leafV pnameN; have ES1 := Aside0.mk (ES0.out.call h2); have hn1 := (blk_cell ES1.out.nb 1).trans rfl; have hf1 := blk_frozen ES1.out.nb 1; clear h2)
  generalize hW : World.setCell w4 _ _ = W5
  have ES2 := Aside0.mk (show ExP w0 w W5 g T2 en w.heap.size bn t.f1 nm.f1 0 (pplace T en) (.slice none 0 0) [] from by rw [← hW]; exact ES1.out.set_ 1 _ rfl)
  clear hW ES0 ES1 hn1 hf1 HX
  have x0_ := (blk_cell ES2.out.nb 0).trans rfl
  go_upto_block 0 with (fail)
  clear x0_
  have hq := HH.out
  clear HH
  unfold pstail at hq
  have HH := Aside0.mk hq
  clear hq
  by_cases hq0 : t.f1.toList = ([100, 101, 118, 105, 99, 101] : List UInt8) ∨ t.f1.toList = ([106, 111, 117, 114, 110, 97, 108] : List UInt8)
  · skip
    have hq := HH.out
    clear HH
    rw [if_pos hq0] at hq
    have HH := Aside0.mk hq
    clear hq
    by_cases hq1 : t.f1.toList = ([100, 101, 118, 105, 99, 101] : List UInt8)
    · skip
      have e0 : (t.f1.toList == ([100, 101, 118, 105, 99, 101] : List UInt8)) = true := by rw [hq1]; rfl
      clear hq0 hq1
      have hq := HH.out
      clear HH
      simp only [pbd_assoc] at hq
      have HH := Aside0.mk hq
      clear hq
      have hh := HH.out
      clear HH
      rcases pbd_inv hh with ⟨x, hx, rfl⟩ | ⟨a, T3, hx, h1⟩
      · have HX := Aside0.mk hx
        clear hx hh
        go_wp2_with (go_at_call 34; (with_reducible refine (pnumber_calls g _ en _ w0 _ ES2.out.rs.start HX.out).mono ?_); rintro e w6 ⟨rfl, h2⟩; exact ⟨rfl, ES2.out.rs.bad ⟨rfl, h2⟩⟩)
      have HX := Aside0.mk hx
      have HH := Aside0.mk h1
      clear hx h1 hh
      go_upto_region 19 with (go_at_call 34; (with_reducible refine (pnumber_calls g _ en _ w0 _ ES2.out.rs.start HX.out).mono ?_); rintro e w6 ⟨rfl, h2⟩; unfold leafV pnumN; have ES3 := Aside0.mk (ES2.out.call h2); have hn2 := (blk_cell ES3.out.nb 2).trans rfl; have hf2 := blk_frozen ES3.out.nb 2; clear h2)
      generalize hW : World.setCell w6 _ _ = W7
      have ES4 := Aside0.mk (show ExP w0 w W7 g T3 en w.heap.size bn t.f1 nm.f1 a.f2 (pplace T en) (.slice none 0 0) [] from by rw [← hW]; exact ES3.out.set_ 2 _ rfl)
      clear hW ES2 ES3 hn2 hf2 HX
      have hq := HH.out
      clear HH
      rw [pbd_ok] at hq
      have HH := Aside0.mk hq
      clear hq
      have hh := HH.out
      clear HH
      rcases pbd_inv hh with ⟨x, hx, rfl⟩ | ⟨u, T_ESf, hx, h1⟩
      · have HX := Aside0.mk hx
        clear hx hh
        go_wp2_with (go_at_call 36; (with_reducible refine (pmust_bad HX.out g w0 _ ES4.out.rs.start).mono ?_); rintro e w2 ⟨rfl, h2⟩; exact ⟨rfl, ES4.out.rs.bad ⟨rfl, h2⟩⟩)
      have HX := Aside0.mk hx
      have HH := Aside0.mk h1
      clear hx h1 hh
      go_upto_region 20 with (go_at_call 36; (with_reducible refine (pmust_ok HX.out g w0 _ ES4.out.rs.start).mono ?_); rintro e wf ⟨rfl, h2⟩; have ESf := Aside0.mk (ES4.out.call h2); clear h2)
      clear HX ES4
      have hh := HH.out
      clear HH
      simp only [Option.some.injEq] at hh
      subst hh
      have hn0 := (blk_cell ESf.out.nb 0).trans rfl
      have hn1 := (blk_cell ESf.out.nb 1).trans rfl
      have hn2 := (blk_cell ESf.out.nb 2).trans rfl
      have hn3 := (blk_cell ESf.out.nb 3).trans rfl
      have hn4 := (blk_cell ESf.out.nb 4).trans rfl
      have hr0 := (blk_cell ESf.out.r4 0).trans rfl
      have hf0 := blk_frozen ESf.out.r4 0
      have hr1 := (blk_cell ESf.out.r4 1).trans rfl
      have hf1 := blk_frozen ESf.out.r4 1
      have hr2 := (blk_cell ESf.out.r4 2).trans rfl
      have hf2 := blk_frozen ESf.out.r4 2
      have hr3 := (blk_cell ESf.out.r4 3).trans rfl
      have hf3 := blk_frozen ESf.out.r4 3
      have hr4 := (blk_cell ESf.out.r4 4).trans rfl
      have hf4 := blk_frozen ESf.out.r4 4
      go_wp2
      have RSz := ((((((((((ESf.out.rs).far (b := w.heap.size) (j := 0) (Nat.ne_of_lt GW.out) (Nat.le_refl _) WW.out (.string t.f1))).far (b := w.heap.size) (j := 1) (Nat.ne_of_lt GW.out) (Nat.le_refl _) WW.out (.string nm.f1))).far (b := w.heap.size) (j := 2) (Nat.ne_of_lt GW.out) (Nat.le_refl _) WW.out (.int .i64 a.f2))).far (b := w.heap.size) (j := 3) (Nat.ne_of_lt GW.out) (Nat.le_refl _) WW.out (.int .i64 (pplace T en)))).far (b := w.heap.size) (j := 4) (Nat.ne_of_lt GW.out) (Nat.le_refl _) WW.out (.slice none 0 0))
      have hNz := Kd.N_far (p := ⟨w.heap.size, 4, none⟩) (Kd.N_far (p := ⟨w.heap.size, 3, none⟩) (Kd.N_far (p := ⟨w.heap.size, 2, none⟩) (Kd.N_far (p := ⟨w.heap.size, 1, none⟩) (Kd.N_far (p := ⟨w.heap.size, 0, none⟩) ESf.out.row (fun k hk => hk.2.1) (.string t.f1)) (fun k hk => hk.2.1) (.string nm.f1)) (fun k hk => hk.2.1) (.int .i64 a.f2)) (fun k hk => hk.2.1) (.int .i64 (pplace T en))) (fun k hk => hk.2.1) (.slice none 0 0)
      refine bodyPost_ret (results_cell_row rfl _ _ w.heap.size 25 #[.string t.f1, .string nm.f1, .int .i64 a.f2, .int .i64 (pplace T en), .slice none 0 0] (0, 0) _ rfl (blk_put (blk_put (blk_put (blk_put (blk_put ESf.out.r4 0 (.string t.f1) rfl) 1 (.string nm.f1) rfl) 2 (.int .i64 a.f2) rfl) 3 (.int .i64 (pplace T en)) rfl) 4 (.slice none 0 0) rfl) Tryd.underlying25 rfl (by kernel_rfl)) rfl ?_
      exact ⟨⟨_, rfl, Kd.N_mono hNz (fun k hk => hk.1)⟩, RSz⟩
    have hq2 : t.f1.toList = ([106, 111, 117, 114, 110, 97, 108] : List UInt8) := by simpa [hq1] using hq0
    have e0 : (t.f1.toList == ([100, 101, 118, 105, 99, 101] : List UInt8)) = false := beq_eq_false_iff_ne.2 hq1
    have e1 : (t.f1.toList == ([106, 111, 117, 114, 110, 97, 108] : List UInt8)) = true := by rw [hq2]; rfl
    clear hq0 hq1 hq2
    have hq := HH.out
    clear HH
    simp only [pbd_assoc] at hq
    have HH := Aside0.mk hq
    clear hq
    have hh := HH.out
    clear HH
    rcases pbd_inv hh with ⟨x, hx, rfl⟩ | ⟨a, T3, hx, h1⟩
    · have HX := Aside0.mk hx
      clear hx hh
      go_wp2_with (go_at_call 34; (with_reducible refine (pnumber_calls g _ en _ w0 _ ES2.out.rs.start HX.out).mono ?_); rintro e w6 ⟨rfl, h2⟩; exact ⟨rfl, ES2.out.rs.bad ⟨rfl, h2⟩⟩)
    have HX := Aside0.mk hx
    have HH := Aside0.mk h1
    clear hx h1 hh
    go_upto_region 19 with (go_at_call 34; (with_reducible refine (pnumber_calls g _ en _ w0 _ ES2.out.rs.start HX.out).mono ?_); rintro e w6 ⟨rfl, h2⟩; unfold leafV pnumN; have ES3 := Aside0.mk (ES2.out.call h2); have hn2 := (blk_cell ES3.out.nb 2).trans rfl; have hf2 := blk_frozen ES3.out.nb 2; clear h2)
    generalize hW : World.setCell w6 _ _ = W7
    have ES4 := Aside0.mk (show ExP w0 w W7 g T3 en w.heap.size bn t.f1 nm.f1 a.f2 (pplace T en) (.slice none 0 0) [] from by rw [← hW]; exact ES3.out.set_ 2 _ rfl)
    clear hW ES2 ES3 hn2 hf2 HX
    have hq := HH.out
    clear HH
    rw [pbd_ok] at hq
    have HH := Aside0.mk hq
    clear hq
    have hh := HH.out
    clear HH
    rcases pbd_inv hh with ⟨x, hx, rfl⟩ | ⟨u, T_ESf, hx, h1⟩
    · have HX := Aside0.mk hx
      clear hx hh
      go_wp2_with (go_at_call 36; (with_reducible refine (pmust_bad HX.out g w0 _ ES4.out.rs.start).mono ?_); rintro e w2 ⟨rfl, h2⟩; exact ⟨rfl, ES4.out.rs.bad ⟨rfl, h2⟩⟩)
    have HX := Aside0.mk hx
    have HH := Aside0.mk h1
    clear hx h1 hh
    go_upto_region 20 with (go_at_call 36; (with_reducible refine (pmust_ok HX.out g w0 _ ES4.out.rs.start).mono ?_); rintro e wf ⟨rfl, h2⟩; have ESf := Aside0.mk (ES4.out.call h2); clear h2)
    clear HX ES4
    have hh := HH.out
    clear HH
    simp only [Option.some.injEq] at hh
    subst hh
    have hn0 := (blk_cell ESf.out.nb 0).trans rfl
    have hn1 := (blk_cell ESf.out.nb 1).trans rfl
    have hn2 := (blk_cell ESf.out.nb 2).trans rfl
    have hn3 := (blk_cell ESf.out.nb 3).trans rfl
    have hn4 := (blk_cell ESf.out.nb 4).trans rfl
    have hr0 := (blk_cell ESf.out.r4 0).trans rfl
    have hf0 := blk_frozen ESf.out.r4 0
    have hr1 := (blk_cell ESf.out.r4 1).trans rfl
    have hf1 := blk_frozen ESf.out.r4 1
    have hr2 := (blk_cell ESf.out.r4 2).trans rfl
    have hf2 := blk_frozen ESf.out.r4 2
    have hr3 := (blk_cell ESf.out.r4 3).trans rfl
    have hf3 := blk_frozen ESf.out.r4 3
    have hr4 := (blk_cell ESf.out.r4 4).trans rfl
    have hf4 := blk_frozen ESf.out.r4 4
    go_wp2
    have RSz := ((((((((((ESf.out.rs).far (b := w.heap.size) (j := 0) (Nat.ne_of_lt GW.out) (Nat.le_refl _) WW.out (.string t.f1))).far (b := w.heap.size) (j := 1) (Nat.ne_of_lt GW.out) (Nat.le_refl _) WW.out (.string nm.f1))).far (b := w.heap.size) (j := 2) (Nat.ne_of_lt GW.out) (Nat.le_refl _) WW.out (.int .i64 a.f2))).far (b := w.heap.size) (j := 3) (Nat.ne_of_lt GW.out) (Nat.le_refl _) WW.out (.int .i64 (pplace T en)))).far (b := w.heap.size) (j := 4) (Nat.ne_of_lt GW.out) (Nat.le_refl _) WW.out (.slice none 0 0))
    have hNz := Kd.N_far (p := ⟨w.heap.size, 4, none⟩) (Kd.N_far (p := ⟨w.heap.size, 3, none⟩) (Kd.N_far (p := ⟨w.heap.size, 2, none⟩) (Kd.N_far (p := ⟨w.heap.size, 1, none⟩) (Kd.N_far (p := ⟨w.heap.size, 0, none⟩) ESf.out.row (fun k hk => hk.2.1) (.string t.f1)) (fun k hk => hk.2.1) (.string nm.f1)) (fun k hk => hk.2.1) (.int .i64 a.f2)) (fun k hk => hk.2.1) (.int .i64 (pplace T en))) (fun k hk => hk.2.1) (.slice none 0 0)
    refine bodyPost_ret (results_cell_row rfl _ _ w.heap.size 25 #[.string t.f1, .string nm.f1, .int .i64 a.f2, .int .i64 (pplace T en), .slice none 0 0] (0, 0) _ rfl (blk_put (blk_put (blk_put (blk_put (blk_put ESf.out.r4 0 (.string t.f1) rfl) 1 (.string nm.f1) rfl) 2 (.int .i64 a.f2) rfl) 3 (.int .i64 (pplace T en)) rfl) 4 (.slice none 0 0) rfl) Tryd.underlying25 rfl (by kernel_rfl)) rfl ?_
    exact ⟨⟨_, rfl, Kd.N_mono hNz (fun k hk => hk.1)⟩, RSz⟩
  have hq := HH.out
  clear HH
  rw [if_neg hq0] at hq
  have HH := Aside0.mk hq
  clear hq
  obtain ⟨ha, hb⟩ : ¬ t.f1.toList = ([100, 101, 118, 105, 99, 101] : List UInt8) ∧ ¬ t.f1.toList = ([106, 111, 117, 114, 110, 97, 108] : List UInt8) := ⟨fun h => hq0 (.inl h), fun h => hq0 (.inr h)⟩
  have e0 : (t.f1.toList == ([100, 101, 118, 105, 99, 101] : List UInt8)) = false := beq_eq_false_iff_ne.2 ha
  have e1 : (t.f1.toList == ([106, 111, 117, 114, 110, 97, 108] : List UInt8)) = false := beq_eq_false_iff_ne.2 hb
  clear hq0 ha hb
  by_cases hq0 : t.f1.toList = ([107, 101, 121] : List UInt8) ∨ t.f1.toList = ([114, 111, 111, 116] : List UInt8)
  · skip
    have hq := HH.out
    clear HH
    rw [if_pos hq0] at hq
    have HH := Aside0.mk hq
    clear hq
    by_cases hq1 : t.f1.toList = ([107, 101, 121] : List UInt8)
    · skip
      have e2 : (t.f1.toList == ([107, 101, 121] : List UInt8)) = true := by rw [hq1]; rfl
      clear hq0 hq1
      have hq := HH.out
      clear HH
      simp only [pbd_assoc] at hq
      have HH := Aside0.mk hq
      clear hq
      have hh := HH.out
      clear HH
      rcases pbd_inv hh with ⟨x, hx, rfl⟩ | ⟨a, T3, hx, h1⟩
      · have HX := Aside0.mk hx
        clear hx hh
        go_wp2_with (go_at_call 35; (with_reducible refine (pof_calls g _ en 2 _ w0 _ ES2.out.rs.start HX.out).mono ?_); rintro e w6 ⟨rfl, h2⟩; exact ⟨rfl, ES2.out.rs.bad ⟨rfl, h2⟩⟩)
      have HX := Aside0.mk hx
      have HH := Aside0.mk h1
      clear hx h1 hh
      go_upto_region 12 with (go_at_call 35; (with_reducible refine (pof_calls g _ en 2 _ w0 _ ES2.out.rs.start HX.out).mono ?_); rintro e w6 ⟨rfl, h2⟩; unfold tokV; have ES3 := Aside0.mk (ES2.out.call h2); clear h2)
      generalize hW : World.alloc w6 _ = W7
      have ES4 := Aside0.mk (show ExP w0 w W7 g T3 en w.heap.size bn t.f1 nm.f1 0 (pplace T en) (.slice none 0 0) [] from by rw [← hW]; exact ES3.out.below (below_alloc (Below.refl _ _) _))
      have HB := Aside0.mk (show W7.heap[w6.heap.size]? = some (.cells #[.int .i64 a.f0, .string a.f1, .int .i64 a.f2, .int .i64 a.f3] 60 (0, 0)) from by rw [← hW]; exact blk_new _ _)
      clear hW ES2 ES3 HX
      generalize w6.heap.size = bt at *
      have t1 := (blk_cell HB.out 1).trans rfl
      have t3 := (blk_cell HB.out 3).trans rfl
      have FKx := Aside0.mk (show Kd.FK k25 W7 (fun k => w.heap.size ≤ k ∧ k ≠ w.heap.size ∧ k ≠ bn) (phexN a) [.string (⟨#[104, 101, 120]⟩ : ByteArray), .string a.f1, .int .i64 0, .int .i64 a.f3, .slice none 0 0] from FKp_node (x := phexN a) (A := none) (c := 0) (Kd.N_nil _ _ _ w.heap.size _))
      go_upto_region 19 with (((with_reducible refine gate_dst (N := 38) rfl ?_); refine Kd.N_lit k25 (w0 := W7) w.heap.size 25 rfl (N' := 38) rfl (xs := [phexN a]) (inner := [.string (⟨#[104, 101, 120]⟩ : ByteArray), .string a.f1, .int .i64 0, .int .i64 a.f3, .slice none 0 0]) (ok := (fun k => w.heap.size ≤ k ∧ k ≠ w.heap.size ∧ k ≠ bn)) (okp := (fun k => w.heap.size ≤ k ∧ k ≠ w.heap.size ∧ k ≠ bn)) ?hr ((Reps.none _ _).snoc FKx.out rfl) (fun _ hk => hk) ?hf (Below.refl _ _) ?hz (by show 1 ≤ 9223372036854775807; decide) ?_; (case hr => first | (go_simp; done) | (go_simp; rfl)); (case hf => have h1 := ES4.out.lt; have h2 := ES4.out.rs.kb.1; exact ⟨h2, by omega, by omega⟩); (case hz => exact ES4.out.rs.kb.1); intro v7 w7 hN7 hb7 hg7 hat7; obtain ⟨A7, c7, rfl⟩ := Kd.N_slice hN7; have ESo := Aside0.mk (ES4.out.made hg7); have HN7 := Aside0.mk hN7; have hn4 := (blk_cell ESo.out.nb 4).trans rfl; have hf4 := blk_frozen ESo.out.nb 4; clear hN7 hb7 hg7 hat7))
      clear t1 t3 HB FKx
      generalize hW : World.setCell w7 _ _ = W9
      have ESl := Aside0.mk (show ExP w0 w W9 g _ en w.heap.size bn t.f1 nm.f1 0 (pplace T en) (.slice A7 1 c7) [phexN a] from by rw [← hW]; exact ESo.out.setL HN7.out)
      clear hW ESo HN7 hn4 hf4
      clear ES4
      have hq := HH.out
      clear HH
      rw [pbd_ok] at hq
      have HH := Aside0.mk hq
      clear hq
      have hh := HH.out
      clear HH
      rcases pbd_inv hh with ⟨x, hx, rfl⟩ | ⟨u, T_ESf, hx, h1⟩
      · have HX := Aside0.mk hx
        clear hx hh
        go_wp2_with (go_at_call 36; (with_reducible refine (pmust_bad HX.out g w0 _ ESl.out.rs.start).mono ?_); rintro e w2 ⟨rfl, h2⟩; exact ⟨rfl, ESl.out.rs.bad ⟨rfl, h2⟩⟩)
      have HX := Aside0.mk hx
      have HH := Aside0.mk h1
      clear hx h1 hh
      go_upto_region 20 with (go_at_call 36; (with_reducible refine (pmust_ok HX.out g w0 _ ESl.out.rs.start).mono ?_); rintro e wf ⟨rfl, h2⟩; have ESf := Aside0.mk (ESl.out.call h2); clear h2)
      clear HX ESl
      have hh := HH.out
      clear HH
      simp only [Option.some.injEq] at hh
      subst hh
      have hn0 := (blk_cell ESf.out.nb 0).trans rfl
      have hn1 := (blk_cell ESf.out.nb 1).trans rfl
      have hn2 := (blk_cell ESf.out.nb 2).trans rfl
      have hn3 := (blk_cell ESf.out.nb 3).trans rfl
      have hn4 := (blk_cell ESf.out.nb 4).trans rfl
      have hr0 := (blk_cell ESf.out.r4 0).trans rfl
      have hf0 := blk_frozen ESf.out.r4 0
      have hr1 := (blk_cell ESf.out.r4 1).trans rfl
      have hf1 := blk_frozen ESf.out.r4 1
      have hr2 := (blk_cell ESf.out.r4 2).trans rfl
      have hf2 := blk_frozen ESf.out.r4 2
      have hr3 := (blk_cell ESf.out.r4 3).trans rfl
      have hf3 := blk_frozen ESf.out.r4 3
      have hr4 := (blk_cell ESf.out.r4 4).trans rfl
      have hf4 := blk_frozen ESf.out.r4 4
      go_wp2
      have RSz := ((((((((((ESf.out.rs).far (b := w.heap.size) (j := 0) (Nat.ne_of_lt GW.out) (Nat.le_refl _) WW.out (.string t.f1))).far (b := w.heap.size) (j := 1) (Nat.ne_of_lt GW.out) (Nat.le_refl _) WW.out (.string nm.f1))).far (b := w.heap.size) (j := 2) (Nat.ne_of_lt GW.out) (Nat.le_refl _) WW.out (.int .i64 0))).far (b := w.heap.size) (j := 3) (Nat.ne_of_lt GW.out) (Nat.le_refl _) WW.out (.int .i64 (pplace T en)))).far (b := w.heap.size) (j := 4) (Nat.ne_of_lt GW.out) (Nat.le_refl _) WW.out (.slice A7 1 c7))
      have hNz := Kd.N_far (p := ⟨w.heap.size, 4, none⟩) (Kd.N_far (p := ⟨w.heap.size, 3, none⟩) (Kd.N_far (p := ⟨w.heap.size, 2, none⟩) (Kd.N_far (p := ⟨w.heap.size, 1, none⟩) (Kd.N_far (p := ⟨w.heap.size, 0, none⟩) ESf.out.row (fun k hk => hk.2.1) (.string t.f1)) (fun k hk => hk.2.1) (.string nm.f1)) (fun k hk => hk.2.1) (.int .i64 0)) (fun k hk => hk.2.1) (.int .i64 (pplace T en))) (fun k hk => hk.2.1) (.slice A7 1 c7)
      refine bodyPost_ret (results_cell_row rfl _ _ w.heap.size 25 #[.string t.f1, .string nm.f1, .int .i64 0, .int .i64 (pplace T en), .slice A7 1 c7] (0, 0) _ rfl (blk_put (blk_put (blk_put (blk_put (blk_put ESf.out.r4 0 (.string t.f1) rfl) 1 (.string nm.f1) rfl) 2 (.int .i64 0) rfl) 3 (.int .i64 (pplace T en)) rfl) 4 (.slice A7 1 c7) rfl) Tryd.underlying25 rfl (by kernel_rfl)) rfl ?_
      exact ⟨⟨_, rfl, Kd.N_mono hNz (fun k hk => hk.1)⟩, RSz⟩
    have hq2 : t.f1.toList = ([114, 111, 111, 116] : List UInt8) := by simpa [hq1] using hq0
    have e2 : (t.f1.toList == ([107, 101, 121] : List UInt8)) = false := beq_eq_false_iff_ne.2 hq1
    have e3 : (t.f1.toList == ([114, 111, 111, 116] : List UInt8)) = true := by rw [hq2]; rfl
    clear hq0 hq1 hq2
    have hq := HH.out
    clear HH
    simp only [pbd_assoc] at hq
    have HH := Aside0.mk hq
    clear hq
    have hh := HH.out
    clear HH
    rcases pbd_inv hh with ⟨x, hx, rfl⟩ | ⟨a, T3, hx, h1⟩
    · have HX := Aside0.mk hx
      clear hx hh
      go_wp2_with (go_at_call 35; (with_reducible refine (pof_calls g _ en 2 _ w0 _ ES2.out.rs.start HX.out).mono ?_); rintro e w6 ⟨rfl, h2⟩; exact ⟨rfl, ES2.out.rs.bad ⟨rfl, h2⟩⟩)
    have HX := Aside0.mk hx
    have HH := Aside0.mk h1
    clear hx h1 hh
    go_upto_region 12 with (go_at_call 35; (with_reducible refine (pof_calls g _ en 2 _ w0 _ ES2.out.rs.start HX.out).mono ?_); rintro e w6 ⟨rfl, h2⟩; unfold tokV; have ES3 := Aside0.mk (ES2.out.call h2); clear h2)
    generalize hW : World.alloc w6 _ = W7
    have ES4 := Aside0.mk (show ExP w0 w W7 g T3 en w.heap.size bn t.f1 nm.f1 0 (pplace T en) (.slice none 0 0) [] from by rw [← hW]; exact ES3.out.below (below_alloc (Below.refl _ _) _))
    have HB := Aside0.mk (show W7.heap[w6.heap.size]? = some (.cells #[.int .i64 a.f0, .string a.f1, .int .i64 a.f2, .int .i64 a.f3] 60 (0, 0)) from by rw [← hW]; exact blk_new _ _)
    clear hW ES2 ES3 HX
    generalize w6.heap.size = bt at *
    have t1 := (blk_cell HB.out 1).trans rfl
    have t3 := (blk_cell HB.out 3).trans rfl
    have FKx := Aside0.mk (show Kd.FK k25 W7 (fun k => w.heap.size ≤ k ∧ k ≠ w.heap.size ∧ k ≠ bn) (phexN a) [.string (⟨#[104, 101, 120]⟩ : ByteArray), .string a.f1, .int .i64 0, .int .i64 a.f3, .slice none 0 0] from FKp_node (x := phexN a) (A := none) (c := 0) (Kd.N_nil _ _ _ w.heap.size _))
    go_upto_region 19 with (((with_reducible refine gate_dst (N := 38) rfl ?_); refine Kd.N_lit k25 (w0 := W7) w.heap.size 25 rfl (N' := 38) rfl (xs := [phexN a]) (inner := [.string (⟨#[104, 101, 120]⟩ : ByteArray), .string a.f1, .int .i64 0, .int .i64 a.f3, .slice none 0 0]) (ok := (fun k => w.heap.size ≤ k ∧ k ≠ w.heap.size ∧ k ≠ bn)) (okp := (fun k => w.heap.size ≤ k ∧ k ≠ w.heap.size ∧ k ≠ bn)) ?hr ((Reps.none _ _).snoc FKx.out rfl) (fun _ hk => hk) ?hf (Below.refl _ _) ?hz (by show 1 ≤ 9223372036854775807; decide) ?_; (case hr => first | (go_simp; done) | (go_simp; rfl)); (case hf => have h1 := ES4.out.lt; have h2 := ES4.out.rs.kb.1; exact ⟨h2, by omega, by omega⟩); (case hz => exact ES4.out.rs.kb.1); intro v7 w7 hN7 hb7 hg7 hat7; obtain ⟨A7, c7, rfl⟩ := Kd.N_slice hN7; have ESo := Aside0.mk (ES4.out.made hg7); have HN7 := Aside0.mk hN7; have hn4 := (blk_cell ESo.out.nb 4).trans rfl; have hf4 := blk_frozen ESo.out.nb 4; clear hN7 hb7 hg7 hat7))
    clear t1 t3 HB FKx
    generalize hW : World.setCell w7 _ _ = W9
    have ESl := Aside0.mk (show ExP w0 w W9 g _ en w.heap.size bn t.f1 nm.f1 0 (pplace T en) (.slice A7 1 c7) [phexN a] from by rw [← hW]; exact ESo.out.setL HN7.out)
    clear hW ESo HN7 hn4 hf4
    clear ES4
    have hq := HH.out
    clear HH
    rw [pbd_ok] at hq
    have HH := Aside0.mk hq
    clear hq
    have hh := HH.out
    clear HH
    rcases pbd_inv hh with ⟨x, hx, rfl⟩ | ⟨u, T_ESf, hx, h1⟩
    · have HX := Aside0.mk hx
      clear hx hh
      go_wp2_with (go_at_call 36; (with_reducible refine (pmust_bad HX.out g w0 _ ESl.out.rs.start).mono ?_); rintro e w2 ⟨rfl, h2⟩; exact ⟨rfl, ESl.out.rs.bad ⟨rfl, h2⟩⟩)
    have HX := Aside0.mk hx
    have HH := Aside0.mk h1
    clear hx h1 hh
    go_upto_region 20 with (go_at_call 36; (with_reducible refine (pmust_ok HX.out g w0 _ ESl.out.rs.start).mono ?_); rintro e wf ⟨rfl, h2⟩; have ESf := Aside0.mk (ESl.out.call h2); clear h2)
    clear HX ESl
    have hh := HH.out
    clear HH
    simp only [Option.some.injEq] at hh
    subst hh
    have hn0 := (blk_cell ESf.out.nb 0).trans rfl
    have hn1 := (blk_cell ESf.out.nb 1).trans rfl
    have hn2 := (blk_cell ESf.out.nb 2).trans rfl
    have hn3 := (blk_cell ESf.out.nb 3).trans rfl
    have hn4 := (blk_cell ESf.out.nb 4).trans rfl
    have hr0 := (blk_cell ESf.out.r4 0).trans rfl
    have hf0 := blk_frozen ESf.out.r4 0
    have hr1 := (blk_cell ESf.out.r4 1).trans rfl
    have hf1 := blk_frozen ESf.out.r4 1
    have hr2 := (blk_cell ESf.out.r4 2).trans rfl
    have hf2 := blk_frozen ESf.out.r4 2
    have hr3 := (blk_cell ESf.out.r4 3).trans rfl
    have hf3 := blk_frozen ESf.out.r4 3
    have hr4 := (blk_cell ESf.out.r4 4).trans rfl
    have hf4 := blk_frozen ESf.out.r4 4
    go_wp2
    have RSz := ((((((((((ESf.out.rs).far (b := w.heap.size) (j := 0) (Nat.ne_of_lt GW.out) (Nat.le_refl _) WW.out (.string t.f1))).far (b := w.heap.size) (j := 1) (Nat.ne_of_lt GW.out) (Nat.le_refl _) WW.out (.string nm.f1))).far (b := w.heap.size) (j := 2) (Nat.ne_of_lt GW.out) (Nat.le_refl _) WW.out (.int .i64 0))).far (b := w.heap.size) (j := 3) (Nat.ne_of_lt GW.out) (Nat.le_refl _) WW.out (.int .i64 (pplace T en)))).far (b := w.heap.size) (j := 4) (Nat.ne_of_lt GW.out) (Nat.le_refl _) WW.out (.slice A7 1 c7))
    have hNz := Kd.N_far (p := ⟨w.heap.size, 4, none⟩) (Kd.N_far (p := ⟨w.heap.size, 3, none⟩) (Kd.N_far (p := ⟨w.heap.size, 2, none⟩) (Kd.N_far (p := ⟨w.heap.size, 1, none⟩) (Kd.N_far (p := ⟨w.heap.size, 0, none⟩) ESf.out.row (fun k hk => hk.2.1) (.string t.f1)) (fun k hk => hk.2.1) (.string nm.f1)) (fun k hk => hk.2.1) (.int .i64 0)) (fun k hk => hk.2.1) (.int .i64 (pplace T en))) (fun k hk => hk.2.1) (.slice A7 1 c7)
    refine bodyPost_ret (results_cell_row rfl _ _ w.heap.size 25 #[.string t.f1, .string nm.f1, .int .i64 0, .int .i64 (pplace T en), .slice A7 1 c7] (0, 0) _ rfl (blk_put (blk_put (blk_put (blk_put (blk_put ESf.out.r4 0 (.string t.f1) rfl) 1 (.string nm.f1) rfl) 2 (.int .i64 0) rfl) 3 (.int .i64 (pplace T en)) rfl) 4 (.slice A7 1 c7) rfl) Tryd.underlying25 rfl (by kernel_rfl)) rfl ?_
    exact ⟨⟨_, rfl, Kd.N_mono hNz (fun k hk => hk.1)⟩, RSz⟩
  have hq := HH.out
  clear HH
  rw [if_neg hq0] at hq
  have HH := Aside0.mk hq
  clear hq
  obtain ⟨ha, hb⟩ : ¬ t.f1.toList = ([107, 101, 121] : List UInt8) ∧ ¬ t.f1.toList = ([114, 111, 111, 116] : List UInt8) := ⟨fun h => hq0 (.inl h), fun h => hq0 (.inr h)⟩
  have e2 : (t.f1.toList == ([107, 101, 121] : List UInt8)) = false := beq_eq_false_iff_ne.2 ha
  have e3 : (t.f1.toList == ([114, 111, 111, 116] : List UInt8)) = false := beq_eq_false_iff_ne.2 hb
  clear hq0 ha hb
  by_cases hq0 : t.f1.toList = ([118, 111, 108, 117, 109, 101] : List UInt8)
  · skip
    have hq := HH.out
    clear HH
    rw [if_pos hq0] at hq
    have HH := Aside0.mk hq
    clear hq
    have e4 : (t.f1.toList == ([118, 111, 108, 117, 109, 101] : List UInt8)) = true := by rw [hq0]; rfl
    clear hq0
    have hq := HH.out
    clear HH
    simp only [pbd_assoc] at hq
    have HH := Aside0.mk hq
    clear hq
    have hh := HH.out
    clear HH
    rcases pbd_inv hh with ⟨x, hx, rfl⟩ | ⟨u, T_ES3, hx, h1⟩
    · have HX := Aside0.mk hx
      clear hx hh
      go_wp2_with (go_at_call 36; (with_reducible refine (pmust_bad HX.out g w0 _ ES2.out.rs.start).mono ?_); rintro e w2 ⟨rfl, h2⟩; exact ⟨rfl, ES2.out.rs.bad ⟨rfl, h2⟩⟩)
    have HX := Aside0.mk hx
    have HH := Aside0.mk h1
    clear hx h1 hh
    go_upto_region 15 with (go_at_call 36; (with_reducible refine (pmust_ok HX.out g w0 _ ES2.out.rs.start).mono ?_); rintro e w6 ⟨rfl, h2⟩; have ES3 := Aside0.mk (ES2.out.call h2); clear h2)
    clear HX ES2
    have hh := HH.out
    clear HH
    rcases pbd_inv hh with ⟨x, hx, rfl⟩ | ⟨a, T4, hx, h1⟩
    · have HX := Aside0.mk hx
      clear hx hh
      go_wp2_with (go_at_call 37; (with_reducible refine (IH.out.use g _ en 1 _ w0 _ ES3.out.rs.start HX.out).mono ?_); rintro e w7 ⟨rfl, h2⟩; exact ⟨rfl, ES3.out.rs.bad ⟨rfl, h2⟩⟩)
    have HX := Aside0.mk hx
    have HH := Aside0.mk h1
    clear hx h1 hh
    go_upto_region 19 with (first | (go_at_call 37; (with_reducible refine (IH.out.use g _ en 1 _ w0 _ ES3.out.rs.start HX.out).mono ?_); rintro e w8 ⟨⟨v, rfl, hN⟩, h2⟩; obtain ⟨A, c, rfl⟩ := Kd.N_slice hN; have ES4 := Aside0.mk (ES3.out.call h2); have FKx := Aside0.mk (FKp_node (Kd.N_mono (ok' := fun k => w.heap.size ≤ k ∧ k ≠ w.heap.size ∧ k ≠ bn) hN (fun k hk => by have h1 := ES3.out.lt; have h3 := ES3.out.rs.kb.1; exact ⟨by omega, by omega, by omega⟩))); clear hN h2) | ((with_reducible refine gate_dst (N := 46) rfl ?_); refine Kd.N_lit k25 (w0 := w8) w.heap.size 25 rfl (N' := 46) rfl (xs := [a]) (inner := [.string a.f0, .string a.f1, .int .i64 a.f2, .int .i64 a.f3, .slice A a.f4.length c]) (ok := (fun k => w.heap.size ≤ k ∧ k ≠ w.heap.size ∧ k ≠ bn)) (okp := (fun k => w.heap.size ≤ k ∧ k ≠ w.heap.size ∧ k ≠ bn)) ?hr ((Reps.none _ _).snoc FKx.out rfl) (fun _ hk => hk) ?hf (Below.refl _ _) ?hz (by show 1 ≤ 9223372036854775807; decide) ?_; (case hr => first | (go_simp; done) | (go_simp; rfl)); (case hf => have h1 := ES4.out.lt; have h2 := ES4.out.rs.kb.1; exact ⟨h2, by omega, by omega⟩); (case hz => exact ES4.out.rs.kb.1); intro v7 w7 hN7 hb7 hg7 hat7; obtain ⟨A7, c7, rfl⟩ := Kd.N_slice hN7; have ESo := Aside0.mk (ES4.out.made hg7); have HN7 := Aside0.mk hN7; have hn4 := (blk_cell ESo.out.nb 4).trans rfl; have hf4 := blk_frozen ESo.out.nb 4; clear hN7 hb7 hg7 hat7))
    clear FKx HX
    generalize hW : World.setCell w7 _ _ = W9
    have ESl := Aside0.mk (show ExP w0 w W9 g _ en w.heap.size bn t.f1 nm.f1 0 (pplace T en) (.slice A7 1 c7) [a] from by rw [← hW]; exact ESo.out.setL HN7.out)
    clear hW ESo HN7 hn4 hf4
    clear ES3 ES4
    have hq := HH.out
    clear HH
    rw [pbd_ok] at hq
    have HH := Aside0.mk hq
    clear hq
    have hh := HH.out
    clear HH
    rcases pbd_inv hh with ⟨x, hx, rfl⟩ | ⟨u, T_ESf, hx, h1⟩
    · have HX := Aside0.mk hx
      clear hx hh
      go_wp2_with (go_at_call 36; (with_reducible refine (pmust_bad HX.out g w0 _ ESl.out.rs.start).mono ?_); rintro e w2 ⟨rfl, h2⟩; exact ⟨rfl, ESl.out.rs.bad ⟨rfl, h2⟩⟩)
    have HX := Aside0.mk hx
    have HH := Aside0.mk h1
    clear hx h1 hh
    go_upto_region 20 with (go_at_call 36; (with_reducible refine (pmust_ok HX.out g w0 _ ESl.out.rs.start).mono ?_); rintro e wf ⟨rfl, h2⟩; have ESf := Aside0.mk (ESl.out.call h2); clear h2)
    clear HX ESl
    have hh := HH.out
    clear HH
    simp only [Option.some.injEq] at hh
    subst hh
    have hn0 := (blk_cell ESf.out.nb 0).trans rfl
    have hn1 := (blk_cell ESf.out.nb 1).trans rfl
    have hn2 := (blk_cell ESf.out.nb 2).trans rfl
    have hn3 := (blk_cell ESf.out.nb 3).trans rfl
    have hn4 := (blk_cell ESf.out.nb 4).trans rfl
    have hr0 := (blk_cell ESf.out.r4 0).trans rfl
    have hf0 := blk_frozen ESf.out.r4 0
    have hr1 := (blk_cell ESf.out.r4 1).trans rfl
    have hf1 := blk_frozen ESf.out.r4 1
    have hr2 := (blk_cell ESf.out.r4 2).trans rfl
    have hf2 := blk_frozen ESf.out.r4 2
    have hr3 := (blk_cell ESf.out.r4 3).trans rfl
    have hf3 := blk_frozen ESf.out.r4 3
    have hr4 := (blk_cell ESf.out.r4 4).trans rfl
    have hf4 := blk_frozen ESf.out.r4 4
    go_wp2
    have RSz := ((((((((((ESf.out.rs).far (b := w.heap.size) (j := 0) (Nat.ne_of_lt GW.out) (Nat.le_refl _) WW.out (.string t.f1))).far (b := w.heap.size) (j := 1) (Nat.ne_of_lt GW.out) (Nat.le_refl _) WW.out (.string nm.f1))).far (b := w.heap.size) (j := 2) (Nat.ne_of_lt GW.out) (Nat.le_refl _) WW.out (.int .i64 0))).far (b := w.heap.size) (j := 3) (Nat.ne_of_lt GW.out) (Nat.le_refl _) WW.out (.int .i64 (pplace T en)))).far (b := w.heap.size) (j := 4) (Nat.ne_of_lt GW.out) (Nat.le_refl _) WW.out (.slice A7 1 c7))
    have hNz := Kd.N_far (p := ⟨w.heap.size, 4, none⟩) (Kd.N_far (p := ⟨w.heap.size, 3, none⟩) (Kd.N_far (p := ⟨w.heap.size, 2, none⟩) (Kd.N_far (p := ⟨w.heap.size, 1, none⟩) (Kd.N_far (p := ⟨w.heap.size, 0, none⟩) ESf.out.row (fun k hk => hk.2.1) (.string t.f1)) (fun k hk => hk.2.1) (.string nm.f1)) (fun k hk => hk.2.1) (.int .i64 0)) (fun k hk => hk.2.1) (.int .i64 (pplace T en))) (fun k hk => hk.2.1) (.slice A7 1 c7)
    refine bodyPost_ret (results_cell_row rfl _ _ w.heap.size 25 #[.string t.f1, .string nm.f1, .int .i64 0, .int .i64 (pplace T en), .slice A7 1 c7] (0, 0) _ rfl (blk_put (blk_put (blk_put (blk_put (blk_put ESf.out.r4 0 (.string t.f1) rfl) 1 (.string nm.f1) rfl) 2 (.int .i64 0) rfl) 3 (.int .i64 (pplace T en)) rfl) 4 (.slice A7 1 c7) rfl) Tryd.underlying25 rfl (by kernel_rfl)) rfl ?_
    exact ⟨⟨_, rfl, Kd.N_mono hNz (fun k hk => hk.1)⟩, RSz⟩
  have hq := HH.out
  clear HH
  rw [if_neg hq0] at hq
  have HH := Aside0.mk hq
  clear hq
  have e4 : (t.f1.toList == ([118, 111, 108, 117, 109, 101] : List UInt8)) = false := beq_eq_false_iff_ne.2 hq0
  clear hq0
  by_cases hq0 : t.f1.toList = ([101, 120, 112, 111, 114, 116] : List UInt8)
  · skip
    have hq := HH.out
    clear HH
    rw [if_pos hq0] at hq
    have HH := Aside0.mk hq
    clear hq
    have e5 : (t.f1.toList == ([101, 120, 112, 111, 114, 116] : List UInt8)) = true := by rw [hq0]; rfl
    clear hq0
    cases hp : pis T2 RO with
    | false =>
      have hq := HH.out
      clear HH
      rw [hp, if_neg (by decide)] at hq
      have HH := Aside0.mk hq
      clear hq
      have HP := Aside0.mk hp
      clear hp
      have hq := HH.out
      clear HH
      rw [pbd_ok] at hq
      have HH := Aside0.mk hq
      clear hq
      go_upto_region 19 with ((go_at_call 38; (with_reducible refine (phas_calls g _ en _ w0 _ ES2.out.rs.start).mono ?_); rintro e w6 ⟨rfl, h2⟩; rw [HP.out] at h2 ⊢; have ES3 := Aside0.mk (ES2.out.call h2); have hn2 := (blk_cell ES3.out.nb 2).trans rfl; have hf2 := blk_frozen ES3.out.nb 2; clear h2))
      clear hn2 hf2 ES2
      have hh := HH.out
      clear HH
      rcases pbd_inv hh with ⟨x, hx, rfl⟩ | ⟨u, T_ESf, hx, h1⟩
      · have HX := Aside0.mk hx
        clear hx hh
        go_wp2_with (go_at_call 36; (with_reducible refine (pmust_bad HX.out g w0 _ ES3.out.rs.start).mono ?_); rintro e w2 ⟨rfl, h2⟩; exact ⟨rfl, ES3.out.rs.bad ⟨rfl, h2⟩⟩)
      have HX := Aside0.mk hx
      have HH := Aside0.mk h1
      clear hx h1 hh
      go_upto_region 20 with (go_at_call 36; (with_reducible refine (pmust_ok HX.out g w0 _ ES3.out.rs.start).mono ?_); rintro e wf ⟨rfl, h2⟩; have ESf := Aside0.mk (ES3.out.call h2); clear h2)
      clear HX ES3
      have hh := HH.out
      clear HH
      simp only [Option.some.injEq] at hh
      subst hh
      have hn0 := (blk_cell ESf.out.nb 0).trans rfl
      have hn1 := (blk_cell ESf.out.nb 1).trans rfl
      have hn2 := (blk_cell ESf.out.nb 2).trans rfl
      have hn3 := (blk_cell ESf.out.nb 3).trans rfl
      have hn4 := (blk_cell ESf.out.nb 4).trans rfl
      have hr0 := (blk_cell ESf.out.r4 0).trans rfl
      have hf0 := blk_frozen ESf.out.r4 0
      have hr1 := (blk_cell ESf.out.r4 1).trans rfl
      have hf1 := blk_frozen ESf.out.r4 1
      have hr2 := (blk_cell ESf.out.r4 2).trans rfl
      have hf2 := blk_frozen ESf.out.r4 2
      have hr3 := (blk_cell ESf.out.r4 3).trans rfl
      have hf3 := blk_frozen ESf.out.r4 3
      have hr4 := (blk_cell ESf.out.r4 4).trans rfl
      have hf4 := blk_frozen ESf.out.r4 4
      go_wp2
      have RSz := ((((((((((ESf.out.rs).far (b := w.heap.size) (j := 0) (Nat.ne_of_lt GW.out) (Nat.le_refl _) WW.out (.string t.f1))).far (b := w.heap.size) (j := 1) (Nat.ne_of_lt GW.out) (Nat.le_refl _) WW.out (.string nm.f1))).far (b := w.heap.size) (j := 2) (Nat.ne_of_lt GW.out) (Nat.le_refl _) WW.out (.int .i64 0))).far (b := w.heap.size) (j := 3) (Nat.ne_of_lt GW.out) (Nat.le_refl _) WW.out (.int .i64 (pplace T en)))).far (b := w.heap.size) (j := 4) (Nat.ne_of_lt GW.out) (Nat.le_refl _) WW.out (.slice none 0 0))
      have hNz := Kd.N_far (p := ⟨w.heap.size, 4, none⟩) (Kd.N_far (p := ⟨w.heap.size, 3, none⟩) (Kd.N_far (p := ⟨w.heap.size, 2, none⟩) (Kd.N_far (p := ⟨w.heap.size, 1, none⟩) (Kd.N_far (p := ⟨w.heap.size, 0, none⟩) ESf.out.row (fun k hk => hk.2.1) (.string t.f1)) (fun k hk => hk.2.1) (.string nm.f1)) (fun k hk => hk.2.1) (.int .i64 0)) (fun k hk => hk.2.1) (.int .i64 (pplace T en))) (fun k hk => hk.2.1) (.slice none 0 0)
      refine bodyPost_ret (results_cell_row rfl _ _ w.heap.size 25 #[.string t.f1, .string nm.f1, .int .i64 0, .int .i64 (pplace T en), .slice none 0 0] (0, 0) _ rfl (blk_put (blk_put (blk_put (blk_put (blk_put ESf.out.r4 0 (.string t.f1) rfl) 1 (.string nm.f1) rfl) 2 (.int .i64 0) rfl) 3 (.int .i64 (pplace T en)) rfl) 4 (.slice none 0 0) rfl) Tryd.underlying25 rfl (by kernel_rfl)) rfl ?_
      exact ⟨⟨_, rfl, Kd.N_mono hNz (fun k hk => hk.1)⟩, RSz⟩
    | true =>
      have hq := HH.out
      clear HH
      rw [hp, if_pos rfl] at hq
      have HH := Aside0.mk hq
      clear hq
      have HP := Aside0.mk hp
      clear hp
      have hq := HH.out
      clear HH
      rw [pbd_ok] at hq
      have HH := Aside0.mk hq
      clear hq
      go_upto_region 19 with ((go_at_call 38; (with_reducible refine (phas_calls g _ en _ w0 _ ES2.out.rs.start).mono ?_); rintro e w6 ⟨rfl, h2⟩; rw [HP.out] at h2 ⊢; have ES3 := Aside0.mk (ES2.out.call h2); have hn2 := (blk_cell ES3.out.nb 2).trans rfl; have hf2 := blk_frozen ES3.out.nb 2; clear h2))
      generalize hW : World.setCell w6 _ _ = W7
      have ES4 := Aside0.mk (show ExP w0 w W7 g _ en w.heap.size bn t.f1 nm.f1 1 (pplace T en) (.slice none 0 0) [] from by rw [← hW]; exact ES3.out.set_ 2 _ rfl)
      clear hW ES2 ES3 hn2 hf2
      have hh := HH.out
      clear HH
      rcases pbd_inv hh with ⟨x, hx, rfl⟩ | ⟨u, T_ESf, hx, h1⟩
      · have HX := Aside0.mk hx
        clear hx hh
        go_wp2_with (go_at_call 36; (with_reducible refine (pmust_bad HX.out g w0 _ ES4.out.rs.start).mono ?_); rintro e w2 ⟨rfl, h2⟩; exact ⟨rfl, ES4.out.rs.bad ⟨rfl, h2⟩⟩)
      have HX := Aside0.mk hx
      have HH := Aside0.mk h1
      clear hx h1 hh
      go_upto_region 20 with (go_at_call 36; (with_reducible refine (pmust_ok HX.out g w0 _ ES4.out.rs.start).mono ?_); rintro e wf ⟨rfl, h2⟩; have ESf := Aside0.mk (ES4.out.call h2); clear h2)
      clear HX ES4
      have hh := HH.out
      clear HH
      simp only [Option.some.injEq] at hh
      subst hh
      have hn0 := (blk_cell ESf.out.nb 0).trans rfl
      have hn1 := (blk_cell ESf.out.nb 1).trans rfl
      have hn2 := (blk_cell ESf.out.nb 2).trans rfl
      have hn3 := (blk_cell ESf.out.nb 3).trans rfl
      have hn4 := (blk_cell ESf.out.nb 4).trans rfl
      have hr0 := (blk_cell ESf.out.r4 0).trans rfl
      have hf0 := blk_frozen ESf.out.r4 0
      have hr1 := (blk_cell ESf.out.r4 1).trans rfl
      have hf1 := blk_frozen ESf.out.r4 1
      have hr2 := (blk_cell ESf.out.r4 2).trans rfl
      have hf2 := blk_frozen ESf.out.r4 2
      have hr3 := (blk_cell ESf.out.r4 3).trans rfl
      have hf3 := blk_frozen ESf.out.r4 3
      have hr4 := (blk_cell ESf.out.r4 4).trans rfl
      have hf4 := blk_frozen ESf.out.r4 4
      go_wp2
      have RSz := ((((((((((ESf.out.rs).far (b := w.heap.size) (j := 0) (Nat.ne_of_lt GW.out) (Nat.le_refl _) WW.out (.string t.f1))).far (b := w.heap.size) (j := 1) (Nat.ne_of_lt GW.out) (Nat.le_refl _) WW.out (.string nm.f1))).far (b := w.heap.size) (j := 2) (Nat.ne_of_lt GW.out) (Nat.le_refl _) WW.out (.int .i64 1))).far (b := w.heap.size) (j := 3) (Nat.ne_of_lt GW.out) (Nat.le_refl _) WW.out (.int .i64 (pplace T en)))).far (b := w.heap.size) (j := 4) (Nat.ne_of_lt GW.out) (Nat.le_refl _) WW.out (.slice none 0 0))
      have hNz := Kd.N_far (p := ⟨w.heap.size, 4, none⟩) (Kd.N_far (p := ⟨w.heap.size, 3, none⟩) (Kd.N_far (p := ⟨w.heap.size, 2, none⟩) (Kd.N_far (p := ⟨w.heap.size, 1, none⟩) (Kd.N_far (p := ⟨w.heap.size, 0, none⟩) ESf.out.row (fun k hk => hk.2.1) (.string t.f1)) (fun k hk => hk.2.1) (.string nm.f1)) (fun k hk => hk.2.1) (.int .i64 1)) (fun k hk => hk.2.1) (.int .i64 (pplace T en))) (fun k hk => hk.2.1) (.slice none 0 0)
      refine bodyPost_ret (results_cell_row rfl _ _ w.heap.size 25 #[.string t.f1, .string nm.f1, .int .i64 1, .int .i64 (pplace T en), .slice none 0 0] (0, 0) _ rfl (blk_put (blk_put (blk_put (blk_put (blk_put ESf.out.r4 0 (.string t.f1) rfl) 1 (.string nm.f1) rfl) 2 (.int .i64 1) rfl) 3 (.int .i64 (pplace T en)) rfl) 4 (.slice none 0 0) rfl) Tryd.underlying25 rfl (by kernel_rfl)) rfl ?_
      exact ⟨⟨_, rfl, Kd.N_mono hNz (fun k hk => hk.1)⟩, RSz⟩
  have hq := HH.out
  clear HH
  rw [if_neg hq0] at hq
  have HH := Aside0.mk hq
  clear hq
  have e5 : (t.f1.toList == ([101, 120, 112, 111, 114, 116] : List UInt8)) = false := beq_eq_false_iff_ne.2 hq0
  clear hq0
  have hq := HH.out
  clear HH
  rw [pbd_ok] at hq
  have HH := Aside0.mk hq
  clear hq
  go_upto_region 19 with (fail)
  have hh := HH.out
  clear HH
  rcases pbd_inv hh with ⟨x, hx, rfl⟩ | ⟨u, T_ESf, hx, h1⟩
  · have HX := Aside0.mk hx
    clear hx hh
    go_wp2_with (go_at_call 36; (with_reducible refine (pmust_bad HX.out g w0 _ ES2.out.rs.start).mono ?_); rintro e w2 ⟨rfl, h2⟩; exact ⟨rfl, ES2.out.rs.bad ⟨rfl, h2⟩⟩)
  have HX := Aside0.mk hx
  have HH := Aside0.mk h1
  clear hx h1 hh
  go_upto_region 20 with (go_at_call 36; (with_reducible refine (pmust_ok HX.out g w0 _ ES2.out.rs.start).mono ?_); rintro e wf ⟨rfl, h2⟩; have ESf := Aside0.mk (ES2.out.call h2); clear h2)
  clear HX ES2
  have hh := HH.out
  clear HH
  simp only [Option.some.injEq] at hh
  subst hh
  have hn0 := (blk_cell ESf.out.nb 0).trans rfl
  have hn1 := (blk_cell ESf.out.nb 1).trans rfl
  have hn2 := (blk_cell ESf.out.nb 2).trans rfl
  have hn3 := (blk_cell ESf.out.nb 3).trans rfl
  have hn4 := (blk_cell ESf.out.nb 4).trans rfl
  have hr0 := (blk_cell ESf.out.r4 0).trans rfl
  have hf0 := blk_frozen ESf.out.r4 0
  have hr1 := (blk_cell ESf.out.r4 1).trans rfl
  have hf1 := blk_frozen ESf.out.r4 1
  have hr2 := (blk_cell ESf.out.r4 2).trans rfl
  have hf2 := blk_frozen ESf.out.r4 2
  have hr3 := (blk_cell ESf.out.r4 3).trans rfl
  have hf3 := blk_frozen ESf.out.r4 3
  have hr4 := (blk_cell ESf.out.r4 4).trans rfl
  have hf4 := blk_frozen ESf.out.r4 4
  go_wp2
  have RSz := ((((((((((ESf.out.rs).far (b := w.heap.size) (j := 0) (Nat.ne_of_lt GW.out) (Nat.le_refl _) WW.out (.string t.f1))).far (b := w.heap.size) (j := 1) (Nat.ne_of_lt GW.out) (Nat.le_refl _) WW.out (.string nm.f1))).far (b := w.heap.size) (j := 2) (Nat.ne_of_lt GW.out) (Nat.le_refl _) WW.out (.int .i64 0))).far (b := w.heap.size) (j := 3) (Nat.ne_of_lt GW.out) (Nat.le_refl _) WW.out (.int .i64 (pplace T en)))).far (b := w.heap.size) (j := 4) (Nat.ne_of_lt GW.out) (Nat.le_refl _) WW.out (.slice none 0 0))
  have hNz := Kd.N_far (p := ⟨w.heap.size, 4, none⟩) (Kd.N_far (p := ⟨w.heap.size, 3, none⟩) (Kd.N_far (p := ⟨w.heap.size, 2, none⟩) (Kd.N_far (p := ⟨w.heap.size, 1, none⟩) (Kd.N_far (p := ⟨w.heap.size, 0, none⟩) ESf.out.row (fun k hk => hk.2.1) (.string t.f1)) (fun k hk => hk.2.1) (.string nm.f1)) (fun k hk => hk.2.1) (.int .i64 0)) (fun k hk => hk.2.1) (.int .i64 (pplace T en))) (fun k hk => hk.2.1) (.slice none 0 0)
  refine bodyPost_ret (results_cell_row rfl _ _ w.heap.size 25 #[.string t.f1, .string nm.f1, .int .i64 0, .int .i64 (pplace T en), .slice none 0 0] (0, 0) _ rfl (blk_put (blk_put (blk_put (blk_put (blk_put ESf.out.r4 0 (.string t.f1) rfl) 1 (.string nm.f1) rfl) 2 (.int .i64 0) rfl) 3 (.int .i64 (pplace T en)) rfl) 4 (.slice none 0 0) rfl) Tryd.underlying25 rfl (by kernel_rfl)) rfl ?_
  exact ⟨⟨_, rfl, Kd.N_mono hNz (fun k hk => hk.1)⟩, RSz⟩
end Go.Proofs.YtknbfhhmjbnemaaDoor.P
end
section
namespace Go.Proofs.YtknbfhhmjbnemaaDoor.P
open Go.RowKit Go.Proofs.YtknbfhhmjbnemaaDoorW.PrintWords Go.Proofs.YtknbfhhmjbnemaaDoorW.PrintLast Go.Proofs.YtknbfhhmjbnemaaDoorW.PrintMore
set_option linter.unusedVariables false
set_option linter.unusedSimpArgs false

theorem assert40 (v : Value) (w : World) : (Instr.typeAssert (.iface 40 v) 20 40 true).run Tryd.prog w = .ok (.tuple #[v, .bool true]) w := by
  have h := Tryd.underlying40
  unfold Instr.typeAssert
  simp [go_sem, h]
theorem wp_act {P : Program} {c : Code} {Q : Exit → Act → World → Prop} {t0 t : Array Value} {d : List Deferred} {w : World} (h : t0 = t) (h1 : Code.wp P c Q { tmps := t, defers := d } w) : Code.wp P c Q { tmps := t0, defers := d } w := h ▸ h1
theorem parse1_idle (a b c : Value) (w : World) : CallsD Tryd.prog 18 #[a, b, c] .returning w fun e u' w' => e = .returned (.tuple #[]) ∧ u' = .returning ∧ w' = w := by
  refine callsD_of_wpS Tryd.func18 rfl fun c₀ cs hu => ?_
  apply wpS_seq
  apply wpS_region
  simp [wpOpsS, go_sem, recoverD, hu, Tryd.ntmps18, Exit.thenS]
  apply wpS_seq
  apply wpS_region
  simp [wpOpsS, go_sem, Exit.thenS]
  refine wpS_cond (t := false) (by simp [Act.eval, Array.replicate]) ?_
  simp only [Bool.false_eq_true, if_false]
  refine wpS_of_wp (wp_skip ?_)
  cases c₀
  simp_all [bodyPostS, results, Tryd.results18]
set_option maxRecDepth 100000 in
set_option maxHeartbeats 4000000 in
theorem parse1_panicking (bn be ba S : Nat) (x : PErr) (cs1 cs2 cs3 cs4 cs5 : Value) (e0 a0 : Int) (w : World)
    (hn : w.heap[bn]? = some (.cells #[cs1, cs2, cs3, cs4, cs5] 25 (0, 0))) (he : w.heap[be]? = some (.cells #[.int .i64 e0] 26 (0, 0))) (ha : w.heap[ba]? = some (.cells #[.int .i64 a0] 3 (0, 0))) :
    CallsD Tryd.prog 18 #[.pointer (some ⟨bn, 0, none⟩), .pointer (some ⟨be, 0, none⟩), .pointer (some ⟨ba, 0, none⟩)] (.panicking (faultOf x)) w fun e u' w' =>
      e = .returned (.tuple #[]) ∧ u' = .panicking [{ v := .iface 40 (.agg #[.int .i64 x.1, .int .i64 x.2]), recovered := true }] ∧
      w'.heap[bn]? = some (.cells #[.string ⟨#[]⟩, .string ⟨#[]⟩, .int .i64 0, .int .i64 0, .slice none 0 0] 25 (0, 0)) ∧ w'.heap[be]? = some (.cells #[.int .i64 x.1] 26 (0, 0)) ∧ w'.heap[ba]? = some (.cells #[.int .i64 x.2] 3 (0, 0)) ∧
      (∀ S w00, S ≤ bn → S ≤ be → S ≤ ba → Below S w00 w → Below S w00 w') := by
  have hbe : bn ≠ be := blk_ne hn he (by decide)
  have hba : bn ≠ ba := blk_ne hn ha (by decide)
  have hea : be ≠ ba := blk_ne he ha (by decide)
  unfold faultOf
  refine callsD_of_wpS Tryd.func18 rfl fun c₀ cs hu => ?_
  apply wpS_seq
  apply wpS_region
  simp [wpOpsS, go_sem, recoverD, hu, Tryd.ntmps18, Exit.thenS]
  apply wpS_seq
  apply wpS_region
  simp [wpOpsS, go_sem, Exit.thenS]
  refine wpS_cond (t := true) (by simp [Act.eval, Array.replicate]) ?_
  simp only [if_true]
  refine wpS_of_wp ?_
  refine wp_act (t := #[.pointer (some ⟨bn, 0, none⟩), .pointer (some ⟨be, 0, none⟩), .pointer (some ⟨ba, 0, none⟩), .iface 40 (.agg #[.int .i64 x.1, .int .i64 x.2]), undef, undef, .iface 40 (.agg #[.int .i64 x.1, .int .i64 x.2]), .iface 40 (.agg #[.int .i64 x.1, .int .i64 x.2]), .bool true, undef, undef, undef, undef, undef, undef, undef, undef, undef, undef, undef, undef, undef]) ?_ ?_
  · apply Array.toList_inj.mp
    simp only [Array.toList_append, Array.toList_setIfInBounds, Array.toList_replicate, List.replicate, List.set, List.cons_append, List.nil_append]
  have hta := assert40
  have hu25 := Tryd.underlying25
  have hu40 := Tryd.underlying40
  have HN := Aside0.mk (blk_alloc hn (.cells #[.int .i64 x.1, .int .i64 x.2] 40 (0, 0)))
  have HE := Aside0.mk (blk_alloc he (.cells #[.int .i64 x.1, .int .i64 x.2] 40 (0, 0)))
  have HA := Aside0.mk (blk_alloc ha (.cells #[.int .i64 x.1, .int .i64 x.2] 40 (0, 0)))
  have HF := Aside0.mk (blk_new w (.cells #[.int .i64 x.1, .int .i64 x.2] 40 (0, 0)))
  have HU := Aside0.mk hu
  have l1 := blk_lt hn
  have l2 := blk_lt he
  have l3 := blk_lt ha
  clear hn he ha hu
  go_upto_region 5 with (fail)
  generalize hW : World.alloc w _ = W1 at *
  have HB := Aside0.mk (show Below w.heap.size w W1 from by rw [← hW]; exact below_alloc (Below.refl _ _) _)
  have HNE := Aside0.mk (And.intro (Nat.ne_of_gt l1) (And.intro (Nat.ne_of_gt l2) (Nat.ne_of_gt l3)))
  have HL1 := Aside0.mk (Nat.le_of_lt l1)
  clear hW l1 l2 l3
  generalize w.heap.size = bf at HF HNE ⊢
  have HN1 := Aside0.mk (blk_drew HN.out)
  have HE1 := Aside0.mk (blk_drew HE.out)
  have HA1 := Aside0.mk (blk_drew HA.out)
  have HF1 := Aside0.mk (blk_drew HF.out)
  have x0 := (blk_cell HF1.out 0).trans rfl
  have x1 := (blk_cell HF1.out 1).trans rfl
  refine start_ (n := 8) (S := fun w' => w'.cell? ⟨bf, 0, none⟩ = some (.int .i64 x.1) ∧ w'.cell? ⟨bf, 1, none⟩ = some (.int .i64 x.2)) (ds := [7]) #[false, false, false, false, false, false, false, false] (by kernel_rfl) rfl rfl ?hS (fun hHeld => ?_)
  case hS => exact ⟨x0, x1⟩
  have HB1 := Aside0.mk (show ∀ S w00, S ≤ bn → Below S w00 w → Below S w00 W1.drew from fun S w00 hs h => below_drew (below_then h (Nat.le_trans hs HL1.out) HB.out))
  generalize World.drew W1 = W2 at *
  refine pure_ (i := 0) (N := some 17) (v := ?_) (a' := ?_) #[true, false, false, false, false, false, false, false] rfl rfl (by kernel_rfl) (fun _ _ _ h => h) (Or.inl ⟨by rfl, ?_⟩) ?_ ?_
  rotate_left
  · intro w'
    go_simp
    with_reducible rfl
  rotate_left
  · simp only [Act.put, List.setIfInBounds_toArray, List.set_cons_zero, List.set_cons_succ, i64_w, i32_w]
    rfl
  refine pure_ (i := 1) (N := some 18) (v := ?_) (a' := ?_) #[true, true, false, false, false, false, false, false] rfl rfl (by kernel_rfl) (fun _ _ _ h => h) (Or.inl ⟨by rfl, ?_⟩) ?_ ?_
  rotate_left
  · intro w'
    go_simp
    with_reducible rfl
  rotate_left
  · simp only [Act.put, List.setIfInBounds_toArray, List.set_cons_zero, List.set_cons_succ, i64_w, i32_w]
    rfl
  refine pure_ (i := 3) (N := some 20) (v := ?_) (a' := ?_) #[true, true, false, true, false, false, false, false] rfl rfl (by kernel_rfl) (fun _ _ _ h => h) (Or.inl ⟨by rfl, ?_⟩) ?_ ?_
  rotate_left
  · intro w'
    go_simp
    with_reducible rfl
  rotate_left
  · simp only [Act.put, List.setIfInBounds_toArray, List.set_cons_zero, List.set_cons_succ, i64_w, i32_w]
    rfl
  refine take_ (i := 2) (N := some 19) (v := ?_) (a' := ?_) #[true, true, true, true, false, false, false, false] rfl rfl (by kernel_rfl) (fun _ _ _ h => h) (Or.inl ⟨by rfl, ?_⟩) hHeld ?_ ?_
  rotate_left
  · rintro w' ⟨s0, s1⟩
    go_simp
    with_reducible rfl
  rotate_left
  · simp only [Act.put, List.setIfInBounds_toArray, List.set_cons_zero, List.set_cons_succ, i64_w, i32_w]
    rfl
  refine take_ (i := 4) (N := some 21) (v := ?_) (a' := ?_) #[true, true, true, true, true, false, false, false] rfl rfl (by kernel_rfl) (fun _ _ _ h => h) (Or.inl ⟨by rfl, ?_⟩) hHeld ?_ ?_
  rotate_left
  · rintro w' ⟨s0, s1⟩
    go_simp
    with_reducible rfl
  rotate_left
  · simp only [Act.put, List.setIfInBounds_toArray, List.set_cons_zero, List.set_cons_succ, i64_w, i32_w]
    rfl
  have c0 := (blk_cell HN1.out 0).trans rfl
  have f0 := blk_frozen HN1.out 0
  have c1 := (blk_cell HN1.out 1).trans rfl
  have f1 := blk_frozen HN1.out 1
  have c2 := (blk_cell HN1.out 2).trans rfl
  have f2 := blk_frozen HN1.out 2
  have c3 := (blk_cell HN1.out 3).trans rfl
  have f3 := blk_frozen HN1.out 3
  have c4 := (blk_cell HN1.out 4).trans rfl
  have f4 := blk_frozen HN1.out 4
  refine one_ (i := 5) (N := none) #[true, true, true, true, true, true, false, false] rfl rfl (by kernel_rfl) (by decide) (fun K hK => ?_)
  refine skip_ (w1 := ?_) (by rfl) rfl ?_ ?_
  rotate_left
  · go_simp
    rfl
  have HF1_5 := Aside0.mk (blk_far (p := ⟨bn, 4, none⟩) (blk_far (p := ⟨bn, 3, none⟩) (blk_far (p := ⟨bn, 2, none⟩) (blk_far (p := ⟨bn, 1, none⟩) (blk_far (p := ⟨bn, 0, none⟩) HF1.out (HNE.out.1) (.string ⟨#[]⟩)) (HNE.out.1) (.string ⟨#[]⟩)) (HNE.out.1) (.int .i64 0)) (HNE.out.1) (.int .i64 0)) (HNE.out.1) (.slice none 0 0))
  have HE1_5 := Aside0.mk (blk_far (p := ⟨bn, 4, none⟩) (blk_far (p := ⟨bn, 3, none⟩) (blk_far (p := ⟨bn, 2, none⟩) (blk_far (p := ⟨bn, 1, none⟩) (blk_far (p := ⟨bn, 0, none⟩) HE1.out (hbe.symm) (.string ⟨#[]⟩)) (hbe.symm) (.string ⟨#[]⟩)) (hbe.symm) (.int .i64 0)) (hbe.symm) (.int .i64 0)) (hbe.symm) (.slice none 0 0))
  have HA1_5 := Aside0.mk (blk_far (p := ⟨bn, 4, none⟩) (blk_far (p := ⟨bn, 3, none⟩) (blk_far (p := ⟨bn, 2, none⟩) (blk_far (p := ⟨bn, 1, none⟩) (blk_far (p := ⟨bn, 0, none⟩) HA1.out (hba.symm) (.string ⟨#[]⟩)) (hba.symm) (.string ⟨#[]⟩)) (hba.symm) (.int .i64 0)) (hba.symm) (.int .i64 0)) (hba.symm) (.slice none 0 0))
  have HN1_5 := Aside0.mk (blk_put (blk_put (blk_put (blk_put (blk_put HN1.out 0 (.string ⟨#[]⟩) rfl) 1 (.string ⟨#[]⟩) rfl) 2 (.int .i64 0) rfl) 3 (.int .i64 0) rfl) 4 (.slice none 0 0) rfl)
  clear c0 f0 c1 f1 c2 f2 c3 f3 c4 f4
  have y0 := (blk_cell HF1_5.out 0).trans rfl
  have y1 := (blk_cell HF1_5.out 1).trans rfl
  try clear hHeld
  refine hK.out _ _ ⟨y0, y1⟩ (fun hHeld => ?_)
  clear hK K
  have HB2 := Aside0.mk (show ∀ S w00, S ≤ bn → S ≤ be → S ≤ ba → Below S w00 w → Below S w00 (((((W2.setCell ⟨bn, 0, none⟩ (.string ⟨#[]⟩)).setCell ⟨bn, 1, none⟩ (.string ⟨#[]⟩)).setCell ⟨bn, 2, none⟩ (.int .i64 0)).setCell ⟨bn, 3, none⟩ (.int .i64 0)).setCell ⟨bn, 4, none⟩ (.slice none 0 0)) from fun S w00 h1 h2 h3 h => (((((HB1.out S w00 h1 h).setCell (p := ⟨bn, 0, none⟩) h1 _).setCell (p := ⟨bn, 1, none⟩) h1 _).setCell (p := ⟨bn, 2, none⟩) h1 _).setCell (p := ⟨bn, 3, none⟩) h1 _).setCell (p := ⟨bn, 4, none⟩) h1 _)
  generalize World.setCell (World.setCell (World.setCell (World.setCell (World.setCell W2 _ _) _ _) _ _) _ _) _ _ = W3 at *
  have c0 := (blk_cell HE1_5.out 0).trans rfl
  have f0 := blk_frozen HE1_5.out 0
  refine one_ (i := 6) (N := none) #[true, true, true, true, true, true, true, false] rfl rfl (by kernel_rfl) (by decide) (fun K hK => ?_)
  refine skip_ (w1 := ?_) (by rfl) rfl ?_ ?_
  rotate_left
  · go_simp
    rfl
  have HF1_5_6 := Aside0.mk (blk_far (p := ⟨be, 0, none⟩) HF1_5.out (HNE.out.2.1) (.int .i64 x.1))
  have HN1_5_6 := Aside0.mk (blk_far (p := ⟨be, 0, none⟩) HN1_5.out (hbe) (.int .i64 x.1))
  have HA1_5_6 := Aside0.mk (blk_far (p := ⟨be, 0, none⟩) HA1_5.out (hea.symm) (.int .i64 x.1))
  have HE1_5_6 := Aside0.mk (blk_put HE1_5.out 0 (.int .i64 x.1) rfl)
  clear c0 f0 y0 y1
  have y0 := (blk_cell HF1_5_6.out 0).trans rfl
  have y1 := (blk_cell HF1_5_6.out 1).trans rfl
  try clear hHeld
  refine hK.out _ _ ⟨y0, y1⟩ (fun hHeld => ?_)
  clear hK K
  have c0 := (blk_cell HA1_5_6.out 0).trans rfl
  have f0 := blk_frozen HA1_5_6.out 0
  refine last_ (i := 7) (N := none) #[true, true, true, true, true, true, true, true] rfl rfl (by kernel_rfl) (by decide) (fun K hK => ?_)
  refine skip_ (w1 := ?_) (by rfl) rfl ?_ ?_
  rotate_left
  · go_simp
    rfl
  refine hK.out _ _ ?_
  clear hK K
  refine done_ (by kernel_rfl) ?_
  have g1 := blk_far (p := ⟨ba, 0, none⟩) HN1_5_6.out hba (.int .i64 x.2)
  have g2 := blk_far (p := ⟨ba, 0, none⟩) HE1_5_6.out hea (.int .i64 x.2)
  have g3 := blk_put HA1_5_6.out 0 (.int .i64 x.2) rfl
  exact ⟨rfl, _, rfl, _, results_none rfl _ _ _, rfl, rfl, g1, g2, g3, fun S w00 h1 h2 h3 h => ((HB2.out S w00 h1 h2 h3 h).setCell (p := ⟨be, 0, none⟩) h2 _).setCell (p := ⟨ba, 0, none⟩) h3 _⟩
end Go.Proofs.YtknbfhhmjbnemaaDoor.P
end
section
namespace Go.Proofs.YtknbfhhmjbnemaaDoor.P
open Go.RowKit Go.Proofs.YtknbfhhmjbnemaaDoorW.PrintWords Go.Proofs.YtknbfhhmjbnemaaDoorW.PrintLast Go.Proofs.YtknbfhhmjbnemaaDoorW.PrintMore
attribute [local go_sem] max2_int min2_int max_two min_two max_three min_three max_four min_four   -- for this text's walks alone
set_option linter.unusedVariables false
set_option linter.unusedSimpArgs false

/-! ### lex_figure: function 64 -/
def lex_figure.f (a0 : Int) : Option (Bool) := if a0 ≥ 48 then (some (decide (a0 ≤ 57))) else (some false)
set_option maxHeartbeats 8000000 in
set_option maxRecDepth 100000 in
theorem lex_figure.calls (a0 : Int) (r : Bool) (w : World) (h : lex_figure.f a0 = some r) :
    Calls Tryd.prog 64 #[.int .u8 a0] w fun e w' => e = .returned (.bool r) ∧ Drawn0 w w' := by
  have H : (if a0 ≥ 48 then (some (decide (a0 ≤ 57))) else (some false)) = some r := h
  clear h
  by_cases c2 : a0 ≥ 48
  · rw [if_pos c2] at H
    have c2b0 : decide (48 ≤ a0) = true := decide_eq_true c2
    clear c2
    obtain rfl := Option.some.inj H
    go_enter Tryd.func64, Tryd.ntmps64
    go_wp2
    go_ret
    exact ⟨by first | rfl | (simp; done) | (simp [*]; done), by repeat (first | exact Drawn0.refl _ | apply Drawn0.step)⟩
  · rw [if_neg c2] at H
    have c2b0 : decide (48 ≤ a0) = false := decide_eq_false c2
    clear c2
    obtain rfl := Option.some.inj H
    go_enter Tryd.func64, Tryd.ntmps64
    go_wp2
    go_ret
    exact ⟨by first | rfl | (simp; done) | (simp [*]; done), by repeat (first | exact Drawn0.refl _ | apply Drawn0.step)⟩

end Go.Proofs.YtknbfhhmjbnemaaDoor.P
end
section
namespace Go.Proofs.YtknbfhhmjbnemaaDoor.P
open Go.RowKit Go.Proofs.YtknbfhhmjbnemaaDoorW.PrintWords Go.Proofs.YtknbfhhmjbnemaaDoorW.PrintLast Go.Proofs.YtknbfhhmjbnemaaDoorW.PrintMore
attribute [local go_sem] max2_int min2_int max_two min_two max_three min_three max_four min_four   -- for this text's walks alone
set_option linter.unusedVariables false
set_option linter.unusedSimpArgs false

/-! ### lex_hex: function 65 -/
def lex_hex.f (a0 : Int) : Option (Bool) := (lex_figure.f a0).bind fun t105 => (if t105 = true then (some true) else (if a0 ≥ 97 then (some (decide (a0 ≤ 102))) else (some false)))
set_option maxHeartbeats 8000000 in
set_option maxRecDepth 100000 in
theorem lex_hex.calls (a0 : Int) (r : Bool) (w : World) (h : lex_hex.f a0 = some r) :
    Calls Tryd.prog 65 #[.int .u8 a0] w fun e w' => e = .returned (.bool r) ∧ Drawn0 w w' := by
  have H : ((lex_figure.f a0).bind fun t105 => (if t105 = true then (some true) else (if a0 ≥ 97 then (some (decide (a0 ≤ 102))) else (some false)))) = some r := h
  clear h
  replace H := Option.bind_eq_some_iff.mp H
  obtain ⟨t105, A20, H⟩ := H
  replace H : (if t105 = true then (some true) else (if a0 ≥ 97 then (some (decide (a0 ≤ 102))) else (some false))) = some r := H
  have A2 := Aside0.mk A20
  clear A20
  by_cases c3 : t105 = true
  · subst c3
    have H1 : (some true) = some r := by rw [if_pos rfl] at H; exact H
    clear H
    have H := H1
    clear H1
    obtain rfl := Option.some.inj H
    go_enter Tryd.func65, Tryd.ntmps65
    go_wp2_with (first | ((with_reducible refine gate_callee (f := 64) rfl ?_); refine goesL_ (some 4) rfl rfl Tryd.func64 (by kernel_rfl) rfl #[.int .u8 a0] rfl (by (try simp only [List.map_toArray, List.map_cons, List.map_nil]); first | done | rfl | (simp only [List.length_drop, List.length_take]; rfl)) ?_; (with_reducible refine (lex_figure.calls a0 true _ A2.out).mono ?_); rintro e w' ⟨rfl, ⟨nd, rfl⟩⟩; refine ⟨_, rfl, ?_⟩))
    go_ret
    exact ⟨by first | rfl | (simp; done) | (simp [*]; done), by repeat (first | exact Drawn0.refl _ | apply Drawn0.step)⟩
  · replace c3 := Bool.eq_false_iff.mpr c3
    subst c3
    have H1 : (if a0 ≥ 97 then (some (decide (a0 ≤ 102))) else (some false)) = some r := by rw [if_neg (show ¬ (false = true) by decide)] at H; exact H
    clear H
    have H := H1
    clear H1
    by_cases c4 : a0 ≥ 97
    · rw [if_pos c4] at H
      have c4b0 : decide (97 ≤ a0) = true := decide_eq_true c4
      clear c4
      obtain rfl := Option.some.inj H
      go_enter Tryd.func65, Tryd.ntmps65
      go_wp2_with (first | ((with_reducible refine gate_callee (f := 64) rfl ?_); refine goesL_ (some 4) rfl rfl Tryd.func64 (by kernel_rfl) rfl #[.int .u8 a0] rfl (by (try simp only [List.map_toArray, List.map_cons, List.map_nil]); first | done | rfl | (simp only [List.length_drop, List.length_take]; rfl)) ?_; (with_reducible refine (lex_figure.calls a0 false _ A2.out).mono ?_); rintro e w' ⟨rfl, ⟨nd, rfl⟩⟩; refine ⟨_, rfl, ?_⟩))
      go_ret
      exact ⟨by first | rfl | (simp; done) | (simp [*]; done), by repeat (first | exact Drawn0.refl _ | apply Drawn0.step)⟩
    · rw [if_neg c4] at H
      have c4b0 : decide (97 ≤ a0) = false := decide_eq_false c4
      clear c4
      obtain rfl := Option.some.inj H
      go_enter Tryd.func65, Tryd.ntmps65
      go_wp2_with (first | ((with_reducible refine gate_callee (f := 64) rfl ?_); refine goesL_ (some 4) rfl rfl Tryd.func64 (by kernel_rfl) rfl #[.int .u8 a0] rfl (by (try simp only [List.map_toArray, List.map_cons, List.map_nil]); first | done | rfl | (simp only [List.length_drop, List.length_take]; rfl)) ?_; (with_reducible refine (lex_figure.calls a0 false _ A2.out).mono ?_); rintro e w' ⟨rfl, ⟨nd, rfl⟩⟩; refine ⟨_, rfl, ?_⟩))
      go_ret
      exact ⟨by first | rfl | (simp; done) | (simp [*]; done), by repeat (first | exact Drawn0.refl _ | apply Drawn0.step)⟩

end Go.Proofs.YtknbfhhmjbnemaaDoor.P
end
section
namespace Go.Proofs.YtknbfhhmjbnemaaDoor.P
open Go.RowKit Go.Proofs.YtknbfhhmjbnemaaDoorW.PrintWords Go.Proofs.YtknbfhhmjbnemaaDoorW.PrintLast Go.Proofs.YtknbfhhmjbnemaaDoorW.PrintMore
attribute [local go_sem] max2_int min2_int max_two min_two max_three min_three max_four min_four   -- for this text's walks alone
set_option linter.unusedVariables false
set_option linter.unusedSimpArgs false

/-! ### lex_letter: function 62 -/
def lex_letter.f (a0 : Int) : Option (Bool) := if a0 ≥ 97 then (some (decide (a0 ≤ 122))) else (some false)
set_option maxHeartbeats 8000000 in
set_option maxRecDepth 100000 in
theorem lex_letter.calls (a0 : Int) (r : Bool) (w : World) (h : lex_letter.f a0 = some r) :
    Calls Tryd.prog 62 #[.int .u8 a0] w fun e w' => e = .returned (.bool r) ∧ Drawn0 w w' := by
  have H : (if a0 ≥ 97 then (some (decide (a0 ≤ 122))) else (some false)) = some r := h
  clear h
  by_cases c2 : a0 ≥ 97
  · rw [if_pos c2] at H
    have c2b0 : decide (97 ≤ a0) = true := decide_eq_true c2
    clear c2
    obtain rfl := Option.some.inj H
    go_enter Tryd.func62, Tryd.ntmps62
    go_wp2
    go_ret
    exact ⟨by first | rfl | (simp; done) | (simp [*]; done), by repeat (first | exact Drawn0.refl _ | apply Drawn0.step)⟩
  · rw [if_neg c2] at H
    have c2b0 : decide (97 ≤ a0) = false := decide_eq_false c2
    clear c2
    obtain rfl := Option.some.inj H
    go_enter Tryd.func62, Tryd.ntmps62
    go_wp2
    go_ret
    exact ⟨by first | rfl | (simp; done) | (simp [*]; done), by repeat (first | exact Drawn0.refl _ | apply Drawn0.step)⟩

end Go.Proofs.YtknbfhhmjbnemaaDoor.P
end
section
namespace Go.Proofs.YtknbfhhmjbnemaaDoor.P
open Go.RowKit Go.Proofs.YtknbfhhmjbnemaaDoorW.PrintWords Go.Proofs.YtknbfhhmjbnemaaDoorW.PrintLast Go.Proofs.YtknbfhhmjbnemaaDoorW.PrintMore
set_option linter.unusedVariables false
set_option linter.unusedSimpArgs false

/-! what the scanners ask of bytes -/
def lexEnd (p : Int → Bool) (s : ByteArray) : Nat → Nat → Nat
  | 0, k => k
  | f + 1, k => if k < s.size ∧ p (bt s k) = true then lexEnd p s f (k + 1) else k
theorem lexEnd_le (p : Int → Bool) (s : ByteArray) : ∀ f k, k ≤ s.size → k ≤ lexEnd p s f k ∧ lexEnd p s f k ≤ s.size
  | 0, k, h => ⟨Nat.le_refl _, h⟩
  | f + 1, k, h => by
    unfold lexEnd
    split
    · have := lexEnd_le p s f (k + 1) (by omega)
      omega
    · exact ⟨Nat.le_refl _, h⟩
theorem lexEnd_all (p : Int → Bool) (s : ByteArray) : ∀ f k j, k ≤ j → j < lexEnd p s f k → p (bt s j) = true
  | 0, k, j, h1, h2 => by unfold lexEnd at h2; omega
  | f + 1, k, j, h1, h2 => by
    unfold lexEnd at h2
    split at h2
    · rename_i hc
      by_cases h : j = k
      · subst h; exact hc.2
      · exact lexEnd_all p s f (k + 1) j (by omega) h2
    · omega
def pLetter (c : Int) : Bool := decide (97 ≤ c) && decide (c ≤ 122)
def pFigure (c : Int) : Bool := decide (48 ≤ c) && decide (c ≤ 57)
def pHex (c : Int) : Bool := pFigure c || (decide (97 ≤ c) && decide (c ≤ 102))
def pWord (c : Int) : Bool := pLetter c || pFigure c || (c == 95)
def pGoes (s : ByteArray) (k : Nat) : Bool := decide (k < s.size) && (pLetter (bt s k) || (bt s k == 95))
theorem bytesOf_get (s : ByteArray) (j : Nat) (hj : j < s.size) : (bytesOf s)[j]? = some (bt s j) := by
  have h := rd_bytesOf s j
  unfold rd at h
  rw [Int.toNat_natCast, List.getD_eq_getElem?_getD] at h
  have hl : j < (bytesOf s).length := by rw [bytesOf_length]; exact hj
  rw [List.getElem?_eq_getElem hl] at h ⊢
  rw [← h]
  rfl
theorem bytesOf_take (s : ByteArray) (j : Nat) (hj : j < s.size) : (bytesOf s).take (j + 1) = (bytesOf s).take j ++ [bt s j] := by
  have hl : j < (bytesOf s).length := by rw [bytesOf_length]; exact hj
  rw [List.take_add_one, bytesOf_get s j hj]
  rfl
end Go.Proofs.YtknbfhhmjbnemaaDoor.P
end
