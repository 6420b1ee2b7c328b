import Derived.Test.YtligdimpdcloeaaAreaOpen
import Derived.Test.YtligdimpdcloeaaAlive1
namespace Go.Proofs.Ytligdimpdcloeaa.P
open Go.RowKit Go.Proofs.YtligdimpdcloeaaW.PrintWords Go.Proofs.YtligdimpdcloeaaW.PrintLast Go.Proofs.YtligdimpdcloeaaW.PrintMore
attribute [local go_sem] max2_int min2_int max_two min_two
set_option linter.unusedVariables false
set_option linter.unusedSimpArgs false

set_option maxHeartbeats 8000000 in
set_option maxRecDepth 100000 in
theorem overlap_nil (w : World) : Calls Try.prog 15 #[.slice none 0 0] w fun e w' => e = .returned (.tuple #[.int .i64 (-1), .int .i64 (-1)]) ∧ Below w.heap.size w w' := by
  go_enter Try.func15, Try.ntmps15
  go_wp2
  go_loopg [10] 1 (fun kx v10 wr => 1 ≤ kx ∧ v10 = .int .i64 0 ∧ Aside0 (Below w.heap.size w wr))
  case atStart => exact ⟨Nat.le_refl _, rfl, ⟨Below.refl _ _⟩⟩
  case round =>
    obtain ⟨hg, rfl, HB⟩ := hrel
    go_wp2
    go_ret2
    exact ⟨rfl, HB.out⟩
set_option maxHeartbeats 8000000 in
set_option maxRecDepth 100000 in
theorem refov_nil (w : World) : Calls Try.prog 16 #[.slice none 0 0] w fun e w' => e = .returned (.tuple #[.int .i64 (-1), .int .i64 (-1)]) ∧ Below w.heap.size w w' := by
  go_enter Try.func16, Try.ntmps16
  go_wp2
  go_loopg [4] 1 (fun kx v4 wr => 1 ≤ kx ∧ v4 = .int .i64 0 ∧ Aside0 (Below w.heap.size w wr))
  case atStart => exact ⟨Nat.le_refl _, rfl, ⟨Below.refl _ _⟩⟩
  case round =>
    obtain ⟨hg, rfl, HB⟩ := hrel
    go_wp2
    go_ret2
    exact ⟨rfl, HB.out⟩
theorem two_below {w w1 w2 w3 : World} (h1 : Below w.heap.size w w1) (h2 : Below w1.heap.size w1 w2) (h3 : Below w2.heap.size w2 w3) : Below w.heap.size w w3 :=
  (h1.trans (h2.mono h1.size)).trans (h3.mono (Nat.le_trans h1.size h2.size))
set_option maxHeartbeats 8000000 in
set_option maxRecDepth 100000 in
theorem overlaps_nil (w : World) : Calls Try.prog 4 #[.slice none 0 0] w fun e w' => e = .returned (.bool true) ∧ Below w.heap.size w w' := by
  go_enter Try.func4, Try.ntmps4
  go_wp2_with (first | (go_at_call 15; refine (overlap_nil _).mono ?_; rintro e w1 ⟨rfl, hb1⟩; have HB1 := Aside0.mk hb1; clear hb1) | (go_at_call 16; refine (refov_nil _).mono ?_; rintro e w2 ⟨rfl, hb2⟩; have HB2 := Aside0.mk hb2; clear hb2) | (go_at_call 14; refine (alive12_calls _).mono ?_; rintro e w3 ⟨rfl, hb3⟩; have HB3 := Aside0.mk hb3; clear hb3))
  go_ret
  exact ⟨rfl, two_below HB1.out HB2.out HB3.out⟩
set_option maxHeartbeats 8000000 in
set_option maxRecDepth 100000 in
theorem overlaps_some (A : Addr) (c : Nat) (l : List R3) (hl : l.length ≤ c) (hc : c ≤ 9223372036854775807) (w : World) (h : Reads3 w A l) :
    Calls Try.prog 4 #[.slice (some A) l.length c] w fun e w' => e = .returned (.bool true) ∧ Below w.heap.size w w' := by
  have key : ∀ m : Nat, (if (60 : Int) < (l.length : Int) then (60 : Int) else (l.length : Int)) = (m : Int) → m ≤ l.length → m ≤ 60 →
      Calls Try.prog 4 #[.slice (some A) l.length c] w fun e w' => e = .returned (.bool true) ∧ Below w.heap.size w w' := by
    intro m hm hml hm60
    have hlen : (l.take m).length = m := by rw [List.length_take]; omega
    have o1 := overlap_calls A c (l.take m) (by omega) (by omega) w (h.take m)
    have o2 : ∀ w1, Below w.heap.size w w1 → _ := fun w1 hb => refov_calls A c (l.take m) (by omega) (by omega) w1 ((h.take m).below hb)
    rw [hlen] at o1 o2
    have q1 : m ≤ c := by omega
    have q2 : (m : Int) ≤ (c : Int) := by omega
    have q3 : (0 : Int) ≤ (m : Int) := by omega
    cases ho : ovJ (l.take m) (m + 1) 0 with
    | none =>
      rw [ho] at o1 o2
      dsimp only [ovR] at o1 o2
      have O1 := Aside0.mk o1
      have O2 := Aside0.mk o2
      clear o1 o2 ho h hlen
      go_enter Try.func4, Try.ntmps4
      go_wp2_with (first | (go_at_call 15; refine O1.out.mono ?_; rintro e w1 ⟨rfl, hb1⟩; have HB1 := Aside0.mk hb1; clear hb1) | (go_at_call 16; refine (O2.out _ HB1.out).mono ?_; rintro e w2 ⟨rfl, hb2⟩; have HB2 := Aside0.mk hb2; clear hb2) | (go_at_call 14; refine (alive12_calls _).mono ?_; rintro e w3 ⟨rfl, hb3⟩; have HB3 := Aside0.mk hb3; clear hb3))
      go_ret
      exact ⟨rfl, two_below HB1.out HB2.out HB3.out⟩
    | some ij =>
      obtain ⟨i, j⟩ := ij
      rw [ho] at o1 o2
      dsimp only [ovR] at o1 o2
      have O1 := Aside0.mk o1
      have O2 := Aside0.mk o2
      clear o1 o2 ho h hlen
      have e1 : ((i : Int) == (i : Int)) = true := beq_self_eq_true _
      have e2 : ((j : Int) == (j : Int)) = true := beq_self_eq_true _
      go_enter Try.func4, Try.ntmps4
      go_wp2_with (first | (go_at_call 15; refine O1.out.mono ?_; rintro e w1 ⟨rfl, hb1⟩; have HB1 := Aside0.mk hb1; clear hb1) | (go_at_call 16; refine (O2.out _ HB1.out).mono ?_; rintro e w2 ⟨rfl, hb2⟩; have HB2 := Aside0.mk hb2; clear hb2) | (go_at_call 14; refine (alive12_calls _).mono ?_; rintro e w3 ⟨rfl, hb3⟩; have HB3 := Aside0.mk hb3; clear hb3))
      go_ret
      exact ⟨rfl, two_below HB1.out HB2.out HB3.out⟩
  by_cases h60 : (60 : Int) < (l.length : Int)
  · exact key 60 (by rw [if_pos h60]; rfl) (by omega) (by omega)
  · exact key l.length (by rw [if_neg h60]) (by omega) (by omega)
end Go.Proofs.Ytligdimpdcloeaa.P
