/- Proved here: what the functions named below compute (or, in a text Law.., that the law holds), at every argument that the theorems' own premises allow. Written by a program of this session over the kit's printer; Lean checks it. -/
import Derived.Test.YtocclfjddihmbaaP0
import Derived.Test.YtocclfjddihmbaaPstringsContains
namespace Go.Proofs.Ytocclfjddihmbaa.P
open Go.RowKit Go.Proofs.YtocclfjddihmbaaW.PrintWords Go.Proofs.YtocclfjddihmbaaW.PrintLast Go.Proofs.YtocclfjddihmbaaW.PrintMore
attribute [local go_sem] max2_int min2_int max_two min_two max_three min_three max_four min_four   -- for this text's walks alone
set_option linter.unusedVariables false
set_option linter.unusedSimpArgs false

/-! ### lex_Reserved: function 27 -/
def lex_Reserved.f (a0 : ByteArray) : Option (Bool) := if a0.toList = ([] : List UInt8) then (some false) else ((strings_Contains.f a0 (⟨#[32]⟩ : ByteArray)).bind fun t130 => (if t130 = true then (some false) else (if 1 + a0.size ≤ 9223372036854775807 then (if ((⟨#[32]⟩ : ByteArray) ++ a0).size + 1 ≤ 9223372036854775807 then ((strings_Contains.f (⟨#[32, 100, 101, 118, 105, 99, 101, 32, 106, 111, 117, 114, 110, 97, 108, 32, 107, 101, 121, 32, 114, 111, 111, 116, 32, 118, 111, 108, 117, 109, 101, 32, 101, 120, 112, 111, 114, 116, 32, 114, 101, 97, 100, 111, 110, 108, 121, 32, 108, 105, 110, 101, 97, 114, 32, 99, 111, 110, 99, 97, 116, 32, 109, 105, 114, 114, 111, 114, 32, 115, 110, 97, 112, 115, 104, 111, 116, 32, 99, 114, 121, 112, 116, 32, 105, 110, 116, 101, 103, 114, 105, 116, 121, 32, 118, 101, 114, 105, 116, 121, 32]⟩ : ByteArray) (((⟨#[32]⟩ : ByteArray) ++ a0) ++ (⟨#[32]⟩ : ByteArray))).bind fun t131 => (some t131)) else (none)) else (none))))
set_option maxHeartbeats 8000000 in
set_option maxRecDepth 100000 in
theorem lex_Reserved.calls (a0 : ByteArray) (r : Bool) (w : World) (h : lex_Reserved.f a0 = some r) (m_ : Int) (hm_ : w.cell? ⟨0, 0, none⟩ = some (.int .i64 m_)) :
    Calls Try.prog 27 #[.string a0] w fun e w' => e = .returned (.bool r) ∧ Drawn0 w w' := by
  have hmA_ := Aside0.mk hm_
  clear hm_
  have H : (if a0.toList = ([] : List UInt8) then (some false) else ((strings_Contains.f a0 (⟨#[32]⟩ : ByteArray)).bind fun t130 => (if t130 = true then (some false) else (if 1 + a0.size ≤ 9223372036854775807 then (if ((⟨#[32]⟩ : ByteArray) ++ a0).size + 1 ≤ 9223372036854775807 then ((strings_Contains.f (⟨#[32, 100, 101, 118, 105, 99, 101, 32, 106, 111, 117, 114, 110, 97, 108, 32, 107, 101, 121, 32, 114, 111, 111, 116, 32, 118, 111, 108, 117, 109, 101, 32, 101, 120, 112, 111, 114, 116, 32, 114, 101, 97, 100, 111, 110, 108, 121, 32, 108, 105, 110, 101, 97, 114, 32, 99, 111, 110, 99, 97, 116, 32, 109, 105, 114, 114, 111, 114, 32, 115, 110, 97, 112, 115, 104, 111, 116, 32, 99, 114, 121, 112, 116, 32, 105, 110, 116, 101, 103, 114, 105, 116, 121, 32, 118, 101, 114, 105, 116, 121, 32]⟩ : ByteArray) (((⟨#[32]⟩ : ByteArray) ++ a0) ++ (⟨#[32]⟩ : ByteArray))).bind fun t131 => (some t131)) else (none)) else (none))))) = some r := h
  clear h
  by_cases c2 : a0.toList = ([] : List UInt8)
  · rw [if_pos c2] at H
    have c2b0 : (a0.toList == ([] : List UInt8)) = true := beq_iff_eq.mpr c2
    have c2b1 : (a0.toList != ([] : List UInt8)) = false := bne_eq_false_iff_eq.mpr c2
    clear c2
    obtain rfl := Option.some.inj H
    go_enter Try.func27, Try.ntmps27
    go_wp2
    go_ret
    exact ⟨by first | rfl | (simp; done) | (simp [*]; done), by repeat (first | exact Drawn0.refl _ | apply Drawn0.step)⟩
  · rw [if_neg c2] at H
    have c2b0 : (a0.toList == ([] : List UInt8)) = false := beq_eq_false_iff_ne.mpr c2
    have c2b1 : (a0.toList != ([] : List UInt8)) = true := bne_iff_ne.mpr c2
    replace H := Option.bind_eq_some_iff.mp H
    obtain ⟨t130, A30, H⟩ := H
    replace H : (if t130 = true then (some false) else (if 1 + a0.size ≤ 9223372036854775807 then (if ((⟨#[32]⟩ : ByteArray) ++ a0).size + 1 ≤ 9223372036854775807 then ((strings_Contains.f (⟨#[32, 100, 101, 118, 105, 99, 101, 32, 106, 111, 117, 114, 110, 97, 108, 32, 107, 101, 121, 32, 114, 111, 111, 116, 32, 118, 111, 108, 117, 109, 101, 32, 101, 120, 112, 111, 114, 116, 32, 114, 101, 97, 100, 111, 110, 108, 121, 32, 108, 105, 110, 101, 97, 114, 32, 99, 111, 110, 99, 97, 116, 32, 109, 105, 114, 114, 111, 114, 32, 115, 110, 97, 112, 115, 104, 111, 116, 32, 99, 114, 121, 112, 116, 32, 105, 110, 116, 101, 103, 114, 105, 116, 121, 32, 118, 101, 114, 105, 116, 121, 32]⟩ : ByteArray) (((⟨#[32]⟩ : ByteArray) ++ a0) ++ (⟨#[32]⟩ : ByteArray))).bind fun t131 => (some t131)) else (none)) else (none))) = some r := H
    have A3 := Aside0.mk A30
    clear A30
    by_cases c4 : t130 = true
    · subst c4
      have H1 : (some false) = some r := by rw [if_pos rfl] at H; exact H
      clear H
      have H := H1
      clear H1
      obtain rfl := Option.some.inj H
      go_enter Try.func27, Try.ntmps27
      go_wp2_with (first | (go_at_call 39; (with_reducible refine (strings_Contains.calls a0 (⟨#[32]⟩ : ByteArray) true _ A3.out m_ (by first | (with_reducible exact hmA_.out) | (repeat (first | exact hmA_.out | refine mlen_drewN ?_ | refine mlen_drew ?_)))).mono ?_); rintro e w' ⟨rfl, ⟨nd, rfl⟩⟩))
      go_ret
      exact ⟨by first | rfl | (simp; done) | (simp [*]; done), by repeat (first | exact Drawn0.refl _ | apply Drawn0.step)⟩
    · replace c4 := Bool.eq_false_iff.mpr c4
      subst c4
      have H1 : (if 1 + a0.size ≤ 9223372036854775807 then (if ((⟨#[32]⟩ : ByteArray) ++ a0).size + 1 ≤ 9223372036854775807 then ((strings_Contains.f (⟨#[32, 100, 101, 118, 105, 99, 101, 32, 106, 111, 117, 114, 110, 97, 108, 32, 107, 101, 121, 32, 114, 111, 111, 116, 32, 118, 111, 108, 117, 109, 101, 32, 101, 120, 112, 111, 114, 116, 32, 114, 101, 97, 100, 111, 110, 108, 121, 32, 108, 105, 110, 101, 97, 114, 32, 99, 111, 110, 99, 97, 116, 32, 109, 105, 114, 114, 111, 114, 32, 115, 110, 97, 112, 115, 104, 111, 116, 32, 99, 114, 121, 112, 116, 32, 105, 110, 116, 101, 103, 114, 105, 116, 121, 32, 118, 101, 114, 105, 116, 121, 32]⟩ : ByteArray) (((⟨#[32]⟩ : ByteArray) ++ a0) ++ (⟨#[32]⟩ : ByteArray))).bind fun t131 => (some t131)) else (none)) else (none)) = some r := by rw [if_neg (show ¬ (false = true) by decide)] at H; exact H
      clear H
      have H := H1
      clear H1
      by_cases c5 : 1 + a0.size ≤ 9223372036854775807
      · rw [if_pos c5] at H
        have c5b0 := eq_true c5
        have c5b1 : decide (1 + a0.size ≤ 9223372036854775807) = true := decide_eq_true c5
        try have c5b2 : (9223372036854775807 < 1 + a0.size) = False := eq_false (Nat.not_lt.2 c5)
        by_cases c6 : ((⟨#[32]⟩ : ByteArray) ++ a0).size + 1 ≤ 9223372036854775807
        · rw [if_pos c6] at H
          have c6b0 := eq_true c6
          have c6b1 : decide (((⟨#[32]⟩ : ByteArray) ++ a0).size + 1 ≤ 9223372036854775807) = true := decide_eq_true c6
          try have c6b2 : (9223372036854775807 < ((⟨#[32]⟩ : ByteArray) ++ a0).size + 1) = False := eq_false (Nat.not_lt.2 c6)
          have c6s := c6
          (try simp only [ByteArray.size_append, show (⟨#[32]⟩ : ByteArray).size = 1 from rfl] at c6s)
          (try have c6u := decide_eq_true c6s)
          (try have c6v := eq_false (Nat.not_lt.2 c6s))
          clear c6s
          replace H := Option.bind_eq_some_iff.mp H
          obtain ⟨t131, A70, H⟩ := H
          replace H : (some t131) = some r := H
          have A7 := Aside0.mk A70
          clear A70
          obtain rfl := Option.some.inj H
          go_enter Try.func27, Try.ntmps27
          go_wp2_with (first | (go_at_call 39; (with_reducible refine (strings_Contains.calls a0 (⟨#[32]⟩ : ByteArray) false _ A3.out m_ (by first | (with_reducible exact hmA_.out) | (repeat (first | exact hmA_.out | refine mlen_drewN ?_ | refine mlen_drew ?_)))).mono ?_); rintro e w' ⟨rfl, ⟨nd, rfl⟩⟩) | (go_at_call 39; (with_reducible refine (strings_Contains.calls (⟨#[32, 100, 101, 118, 105, 99, 101, 32, 106, 111, 117, 114, 110, 97, 108, 32, 107, 101, 121, 32, 114, 111, 111, 116, 32, 118, 111, 108, 117, 109, 101, 32, 101, 120, 112, 111, 114, 116, 32, 114, 101, 97, 100, 111, 110, 108, 121, 32, 108, 105, 110, 101, 97, 114, 32, 99, 111, 110, 99, 97, 116, 32, 109, 105, 114, 114, 111, 114, 32, 115, 110, 97, 112, 115, 104, 111, 116, 32, 99, 114, 121, 112, 116, 32, 105, 110, 116, 101, 103, 114, 105, 116, 121, 32, 118, 101, 114, 105, 116, 121, 32]⟩ : ByteArray) (((⟨#[32]⟩ : ByteArray) ++ a0) ++ (⟨#[32]⟩ : ByteArray)) t131 _ A7.out m_ (by first | (with_reducible exact hmA_.out) | (repeat (first | exact hmA_.out | refine mlen_drewN ?_ | refine mlen_drew ?_)))).mono ?_); rintro e w' ⟨rfl, ⟨nd, rfl⟩⟩))
          go_ret
          exact ⟨by first | rfl | (simp; done) | (simp [*]; done), by repeat (first | exact Drawn0.refl _ | apply Drawn0.step)⟩
        · rw [if_neg c6] at H
          exact absurd H (by simp)
      · rw [if_neg c5] at H
        exact absurd H (by simp)

end Go.Proofs.Ytocclfjddihmbaa.P
