/- Proved here: what the functions named below compute (or, in a text Law.., that the law holds), at every argument that the theorems' own premises allow. Written by a program of this session over the kit's printer; Lean checks it. -/
import Derived.Test.YtocclfjddihmbaaP0
import Derived.Test.YtocclfjddihmbaaPcofferdamlaw10alive
import Derived.Test.YtocclfjddihmbaaPcofferdamref10Reserved
import Derived.Test.YtocclfjddihmbaaPlexReserved
import Derived.Test.YtocclfjddihmbaaPstringsContains
namespace Go.Proofs.Ytocclfjddihmbaa.P
open Go.RowKit Go.Proofs.YtocclfjddihmbaaW.PrintWords Go.Proofs.YtocclfjddihmbaaW.PrintLast Go.Proofs.YtocclfjddihmbaaW.PrintMore
attribute [local go_sem] max2_int min2_int max_two min_two max_three min_three max_four min_four   -- for this text's walks alone
set_option linter.unusedVariables false
set_option linter.unusedSimpArgs false

/-! ### cofferdamlaw10_LexReserved: function 12 -/
def cofferdamlaw10_LexReserved.f (k : Nat) (a0 : ByteArray) : Option (Bool) := (cofferdamlaw10_alive.f k).bind fun t136 => (if t136 = true then ((lex_Reserved.f a0).bind fun t137 => ((cofferdamref10_Reserved.f k a0).bind fun t138 => (if (t137 == t138) = true then ((lex_Reserved.f (⟨#[100, 101, 118, 105, 99, 101]⟩ : ByteArray)).bind fun t139 => (if t139 = true then ((lex_Reserved.f (⟨#[100, 101, 118, 105, 99]⟩ : ByteArray)).bind fun t140 => (some (!t140))) else (some false))) else (some false)))) else (some false))
theorem cofferdamlaw10_LexReserved.mono : ∀ a0 k, LeO (cofferdamlaw10_LexReserved.f k a0) (cofferdamlaw10_LexReserved.f (k + 1) a0) := by
  intro a0 k
  unfold cofferdamlaw10_LexReserved.f
  repeat' first
      | (with_reducible exact cofferdamlaw10_alive.mono _)
      | (with_reducible exact cofferdamref10_Reserved.mono _ _)
      | (with_reducible exact LeO.refl _)
      | (with_reducible exact LeO.none _)
      | (with_reducible refine LeO.ite ?_ ?_)
      | (with_reducible refine LeO.bind ?_ (fun _ => ?_))
      | exact cofferdamlaw10_alive.mono _
      | exact cofferdamref10_Reserved.mono _ _
      | exact LeO.none _
      | refine LeO.ite ?_ ?_
      | refine LeO.bind ?_ (fun _ => ?_)
set_option maxHeartbeats 8000000 in
set_option maxRecDepth 100000 in
theorem cofferdamlaw10_LexReserved.calls (k : Nat) (a0 : ByteArray) (r : Bool) (w : World) (h : cofferdamlaw10_LexReserved.f k a0 = some r) (m_ : Int) (hm_ : w.cell? ⟨0, 0, none⟩ = some (.int .i64 m_)) :
    Calls Try.prog 12 #[.string a0] w fun e w' => e = .returned (.bool r) ∧ Below w.heap.size w w' := by
  have hmA_ := Aside0.mk hm_
  clear hm_
  have HB := Aside0.mk (Below.refl w.heap.size w)
  have H : ((cofferdamlaw10_alive.f k).bind fun t136 => (if t136 = true then ((lex_Reserved.f a0).bind fun t137 => ((cofferdamref10_Reserved.f k a0).bind fun t138 => (if (t137 == t138) = true then ((lex_Reserved.f (⟨#[100, 101, 118, 105, 99, 101]⟩ : ByteArray)).bind fun t139 => (if t139 = true then ((lex_Reserved.f (⟨#[100, 101, 118, 105, 99]⟩ : ByteArray)).bind fun t140 => (some (!t140))) else (some false))) else (some false)))) else (some false))) = some r := h
  clear h
  replace H := Option.bind_eq_some_iff.mp H
  obtain ⟨t136, A20, H⟩ := H
  replace H : (if t136 = true then ((lex_Reserved.f a0).bind fun t137 => ((cofferdamref10_Reserved.f k a0).bind fun t138 => (if (t137 == t138) = true then ((lex_Reserved.f (⟨#[100, 101, 118, 105, 99, 101]⟩ : ByteArray)).bind fun t139 => (if t139 = true then ((lex_Reserved.f (⟨#[100, 101, 118, 105, 99]⟩ : ByteArray)).bind fun t140 => (some (!t140))) else (some false))) else (some false)))) else (some false)) = some r := H
  have A2 := Aside0.mk A20
  clear A20
  by_cases c3 : t136 = true
  · subst c3
    have H1 : ((lex_Reserved.f a0).bind fun t137 => ((cofferdamref10_Reserved.f k a0).bind fun t138 => (if (t137 == t138) = true then ((lex_Reserved.f (⟨#[100, 101, 118, 105, 99, 101]⟩ : ByteArray)).bind fun t139 => (if t139 = true then ((lex_Reserved.f (⟨#[100, 101, 118, 105, 99]⟩ : ByteArray)).bind fun t140 => (some (!t140))) else (some false))) else (some false)))) = some r := by rw [if_pos rfl] at H; exact H
    clear H
    have H := H1
    clear H1
    replace H := Option.bind_eq_some_iff.mp H
    obtain ⟨t137, A40, H⟩ := H
    replace H : ((cofferdamref10_Reserved.f k a0).bind fun t138 => (if (t137 == t138) = true then ((lex_Reserved.f (⟨#[100, 101, 118, 105, 99, 101]⟩ : ByteArray)).bind fun t139 => (if t139 = true then ((lex_Reserved.f (⟨#[100, 101, 118, 105, 99]⟩ : ByteArray)).bind fun t140 => (some (!t140))) else (some false))) else (some false))) = some r := H
    have A4 := Aside0.mk A40
    clear A40
    replace H := Option.bind_eq_some_iff.mp H
    obtain ⟨t138, A50, H⟩ := H
    replace H : (if (t137 == t138) = true then ((lex_Reserved.f (⟨#[100, 101, 118, 105, 99, 101]⟩ : ByteArray)).bind fun t139 => (if t139 = true then ((lex_Reserved.f (⟨#[100, 101, 118, 105, 99]⟩ : ByteArray)).bind fun t140 => (some (!t140))) else (some false))) else (some false)) = some r := H
    have A5 := Aside0.mk A50
    clear A50
    by_cases c6 : (t137 == t138) = true
    · rw [if_pos c6] at H
      have c6b0 : (t137 == t138) = true := c6
      (try (have c6b1 : decide (t137 = t138) = true := by simpa using c6))
      (try (have c6b2 : (t137 == t138) = true := by simpa using c6))
      clear c6
      replace H := Option.bind_eq_some_iff.mp H
      obtain ⟨t139, A70, H⟩ := H
      replace H : (if t139 = true then ((lex_Reserved.f (⟨#[100, 101, 118, 105, 99]⟩ : ByteArray)).bind fun t140 => (some (!t140))) else (some false)) = some r := H
      have A7 := Aside0.mk A70
      clear A70
      by_cases c8 : t139 = true
      · subst c8
        have H1 : ((lex_Reserved.f (⟨#[100, 101, 118, 105, 99]⟩ : ByteArray)).bind fun t140 => (some (!t140))) = some r := by rw [if_pos rfl] at H; exact H
        clear H
        have H := H1
        clear H1
        replace H := Option.bind_eq_some_iff.mp H
        obtain ⟨t140, A90, H⟩ := H
        replace H : (some (!t140)) = some r := H
        have A9 := Aside0.mk A90
        clear A90
        obtain rfl := Option.some.inj H
        go_enter Try.func12, Try.ntmps12
        go_wp2_with (first | ((with_reducible refine gate_callee (f := 24) rfl ?_); refine goesL_ (some 3) rfl rfl Try.func24 (by kernel_rfl) rfl #[] rfl (by (try simp only [List.map_toArray, List.map_cons, List.map_nil]); first | done | rfl | (simp only [List.length_drop, List.length_take]; rfl)) ?_; (with_reducible refine (cofferdamlaw10_alive.calls k  true _ A2.out).mono ?_); rintro e w10 ⟨rfl, hb⟩; refine ⟨_, rfl, ?_⟩; have n0_ := Aside0.mk (below_step (by repeat (first | (with_reducible first | exact HB.out | apply below_alloc | apply pw_below_drewN | apply below_drew1) | exact HB.out)) hb); clear HB; have HB := n0_; clear n0_; (try clear hb); (try clear hb2); (try clear hk); (try clear hi)) | (go_at_call 27; (with_reducible refine (lex_Reserved.calls a0 t137 _ A4.out m_ (by first | (with_reducible exact hmA_.out) | exact mlen_below hmA_.out (by repeat (first | (with_reducible first | exact HB.out | apply below_alloc | apply pw_below_drewN | apply below_drew1) | exact HB.out)) | (repeat (first | exact hmA_.out | refine mlen_drewN ?_ | refine mlen_drew ?_)))).mono ?_); rintro e w' ⟨rfl, ⟨nd, rfl⟩⟩) | (go_at_call 28; (with_reducible refine (cofferdamref10_Reserved.calls k a0 t138 _ A5.out).mono ?_); rintro e w11 ⟨rfl, hb⟩; have n0_ := Aside0.mk (below_step (by repeat (first | (with_reducible first | exact HB.out | apply below_alloc | apply pw_below_drewN | apply below_drew1) | exact HB.out)) hb); clear HB; have HB := n0_; clear n0_; (try clear hb); (try clear hb2); (try clear hk); (try clear hi)) | (go_at_call 27; (with_reducible refine (lex_Reserved.calls (⟨#[100, 101, 118, 105, 99, 101]⟩ : ByteArray) true _ A7.out m_ (by first | (with_reducible exact hmA_.out) | exact mlen_below hmA_.out (by repeat (first | (with_reducible first | exact HB.out | apply below_alloc | apply pw_below_drewN | apply below_drew1) | exact HB.out)) | (repeat (first | exact hmA_.out | refine mlen_drewN ?_ | refine mlen_drew ?_)))).mono ?_); rintro e w' ⟨rfl, ⟨nd, rfl⟩⟩) | (go_at_call 27; (with_reducible refine (lex_Reserved.calls (⟨#[100, 101, 118, 105, 99]⟩ : ByteArray) t140 _ A9.out m_ (by first | (with_reducible exact hmA_.out) | exact mlen_below hmA_.out (by repeat (first | (with_reducible first | exact HB.out | apply below_alloc | apply pw_below_drewN | apply below_drew1) | exact HB.out)) | (repeat (first | exact hmA_.out | refine mlen_drewN ?_ | refine mlen_drew ?_)))).mono ?_); rintro e w' ⟨rfl, ⟨nd, rfl⟩⟩))
        go_ret
        exact ⟨by first | rfl | (simp [errW_none, errW_some] <;> rfl) | (simp [*, errW_none, errW_some] <;> rfl), by repeat (first | (with_reducible first | exact HB.out | apply below_alloc | apply pw_below_drewN | apply below_drew1) | exact HB.out)⟩
      · replace c8 := Bool.eq_false_iff.mpr c8
        subst c8
        have H1 : (some false) = some r := by rw [if_neg (show ¬ (false = true) by decide)] at H; exact H
        clear H
        have H := H1
        clear H1
        obtain rfl := Option.some.inj H
        go_enter Try.func12, Try.ntmps12
        go_wp2_with (first | ((with_reducible refine gate_callee (f := 24) rfl ?_); refine goesL_ (some 3) rfl rfl Try.func24 (by kernel_rfl) rfl #[] rfl (by (try simp only [List.map_toArray, List.map_cons, List.map_nil]); first | done | rfl | (simp only [List.length_drop, List.length_take]; rfl)) ?_; (with_reducible refine (cofferdamlaw10_alive.calls k  true _ A2.out).mono ?_); rintro e w12 ⟨rfl, hb⟩; refine ⟨_, rfl, ?_⟩; have n0_ := Aside0.mk (below_step (by repeat (first | (with_reducible first | exact HB.out | apply below_alloc | apply pw_below_drewN | apply below_drew1) | exact HB.out)) hb); clear HB; have HB := n0_; clear n0_; (try clear hb); (try clear hb2); (try clear hk); (try clear hi)) | (go_at_call 27; (with_reducible refine (lex_Reserved.calls a0 t137 _ A4.out m_ (by first | (with_reducible exact hmA_.out) | exact mlen_below hmA_.out (by repeat (first | (with_reducible first | exact HB.out | apply below_alloc | apply pw_below_drewN | apply below_drew1) | exact HB.out)) | (repeat (first | exact hmA_.out | refine mlen_drewN ?_ | refine mlen_drew ?_)))).mono ?_); rintro e w' ⟨rfl, ⟨nd, rfl⟩⟩) | (go_at_call 28; (with_reducible refine (cofferdamref10_Reserved.calls k a0 t138 _ A5.out).mono ?_); rintro e w13 ⟨rfl, hb⟩; have n0_ := Aside0.mk (below_step (by repeat (first | (with_reducible first | exact HB.out | apply below_alloc | apply pw_below_drewN | apply below_drew1) | exact HB.out)) hb); clear HB; have HB := n0_; clear n0_; (try clear hb); (try clear hb2); (try clear hk); (try clear hi)) | (go_at_call 27; (with_reducible refine (lex_Reserved.calls (⟨#[100, 101, 118, 105, 99, 101]⟩ : ByteArray) false _ A7.out m_ (by first | (with_reducible exact hmA_.out) | exact mlen_below hmA_.out (by repeat (first | (with_reducible first | exact HB.out | apply below_alloc | apply pw_below_drewN | apply below_drew1) | exact HB.out)) | (repeat (first | exact hmA_.out | refine mlen_drewN ?_ | refine mlen_drew ?_)))).mono ?_); rintro e w' ⟨rfl, ⟨nd, rfl⟩⟩))
        go_ret
        exact ⟨by first | rfl | (simp [errW_none, errW_some] <;> rfl) | (simp [*, errW_none, errW_some] <;> rfl), by repeat (first | (with_reducible first | exact HB.out | apply below_alloc | apply pw_below_drewN | apply below_drew1) | exact HB.out)⟩
    · rw [if_neg c6] at H
      have c6b0 : (t137 == t138) = false := by simpa using c6
      (try (have c6b1 : decide (t137 = t138) = false := by simpa using c6))
      (try (have c6b2 : (t137 == t138) = false := by simpa using c6))
      (try (have c6b3 : ¬ (t137 = t138) := by simpa using c6))
      clear c6
      obtain rfl := Option.some.inj H
      go_enter Try.func12, Try.ntmps12
      go_wp2_with (first | ((with_reducible refine gate_callee (f := 24) rfl ?_); refine goesL_ (some 3) rfl rfl Try.func24 (by kernel_rfl) rfl #[] rfl (by (try simp only [List.map_toArray, List.map_cons, List.map_nil]); first | done | rfl | (simp only [List.length_drop, List.length_take]; rfl)) ?_; (with_reducible refine (cofferdamlaw10_alive.calls k  true _ A2.out).mono ?_); rintro e w14 ⟨rfl, hb⟩; refine ⟨_, rfl, ?_⟩; have n0_ := Aside0.mk (below_step (by repeat (first | (with_reducible first | exact HB.out | apply below_alloc | apply pw_below_drewN | apply below_drew1) | exact HB.out)) hb); clear HB; have HB := n0_; clear n0_; (try clear hb); (try clear hb2); (try clear hk); (try clear hi)) | (go_at_call 27; (with_reducible refine (lex_Reserved.calls a0 t137 _ A4.out m_ (by first | (with_reducible exact hmA_.out) | exact mlen_below hmA_.out (by repeat (first | (with_reducible first | exact HB.out | apply below_alloc | apply pw_below_drewN | apply below_drew1) | exact HB.out)) | (repeat (first | exact hmA_.out | refine mlen_drewN ?_ | refine mlen_drew ?_)))).mono ?_); rintro e w' ⟨rfl, ⟨nd, rfl⟩⟩) | (go_at_call 28; (with_reducible refine (cofferdamref10_Reserved.calls k a0 t138 _ A5.out).mono ?_); rintro e w15 ⟨rfl, hb⟩; have n0_ := Aside0.mk (below_step (by repeat (first | (with_reducible first | exact HB.out | apply below_alloc | apply pw_below_drewN | apply below_drew1) | exact HB.out)) hb); clear HB; have HB := n0_; clear n0_; (try clear hb); (try clear hb2); (try clear hk); (try clear hi)))
      go_ret
      exact ⟨by first | rfl | (simp [errW_none, errW_some] <;> rfl) | (simp [*, errW_none, errW_some] <;> rfl), by repeat (first | (with_reducible first | exact HB.out | apply below_alloc | apply pw_below_drewN | apply below_drew1) | exact HB.out)⟩
  · replace c3 := Bool.eq_false_iff.mpr c3
    subst c3
    have H1 : (some false) = some r := by rw [if_neg (show ¬ (false = true) by decide)] at H; exact H
    clear H
    have H := H1
    clear H1
    obtain rfl := Option.some.inj H
    go_enter Try.func12, Try.ntmps12
    go_wp2_with (first | ((with_reducible refine gate_callee (f := 24) rfl ?_); refine goesL_ (some 3) rfl rfl Try.func24 (by kernel_rfl) rfl #[] rfl (by (try simp only [List.map_toArray, List.map_cons, List.map_nil]); first | done | rfl | (simp only [List.length_drop, List.length_take]; rfl)) ?_; (with_reducible refine (cofferdamlaw10_alive.calls k  false _ A2.out).mono ?_); rintro e w16 ⟨rfl, hb⟩; refine ⟨_, rfl, ?_⟩; have n0_ := Aside0.mk (below_step (by repeat (first | (with_reducible first | exact HB.out | apply below_alloc | apply pw_below_drewN | apply below_drew1) | exact HB.out)) hb); clear HB; have HB := n0_; clear n0_; (try clear hb); (try clear hb2); (try clear hk); (try clear hi)))
    go_ret
    exact ⟨by first | rfl | (simp [errW_none, errW_some] <;> rfl) | (simp [*, errW_none, errW_some] <;> rfl), by repeat (first | (with_reducible first | exact HB.out | apply below_alloc | apply pw_below_drewN | apply below_drew1) | exact HB.out)⟩

/-- THE ONE PURE STATEMENT of cofferdamlaw10_LexReserved: yours. -/
def cofferdamlaw10_LexReserved.Pure : Prop := ∀ (a0 : ByteArray), a0.size ≤ 140737488351232 → ∃ k, cofferdamlaw10_LexReserved.f k a0 = some true
theorem cofferdamlaw10_LexReserved.walk (P : cofferdamlaw10_LexReserved.Pure) (a0 : ByteArray) (w : World) (w0 : a0.size ≤ 140737488351232) (m_ : Int) (hm_ : w.cell? ⟨0, 0, none⟩ = some (.int .i64 m_)) :
    Calls Try.prog 12 #[.string a0] w fun e w' => e = .returned (.bool true) ∧ Below w.heap.size w w' := by  -- threaded
  obtain ⟨k, h⟩ := P a0 w0
  refine (cofferdamlaw10_LexReserved.calls k a0 true w h m_ hm_).mono ?_
  rintro e w' ⟨rfl, hd⟩
  exact ⟨rfl, hd⟩

end Go.Proofs.Ytocclfjddihmbaa.P
