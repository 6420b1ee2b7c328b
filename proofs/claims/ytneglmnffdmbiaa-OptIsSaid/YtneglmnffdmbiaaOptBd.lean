import Derived.Test.YtneglmnffdmbiaaOptRt
namespace Go.Proofs.Ytneglmnffdmbiaa.P
open Go.RowKit Go.Proofs.YtneglmnffdmbiaaW.PrintWords Go.Proofs.YtneglmnffdmbiaaW.PrintLast Go.Proofs.YtneglmnffdmbiaaW.PrintMore
set_option linter.unusedVariables false
set_option linter.unusedSimpArgs false

/-- What a 'yes' of ref15.Right says. -/
def RtOk (L : List S34) (root : Int) : Prop := 1 ≤ L.length ∧ 0 ≤ root ∧ root < (L.length : Int) ∧ ∀ i : Int, 0 ≤ i → i < (L.length : Int) → StOk L i
set_option maxHeartbeats 16000000 in
set_option maxRecDepth 100000 in
theorem right_calls (A : Option Addr) (c : Nat) (L : List S34) (root : Int) (ro : Bool) (D : Option Addr) (cd : Nat) (dv : List Int) (w : World) (hA : Kd.C k34 w A L.length L) (hc : L.length ≤ c) (hD : Kd.C (Kd.int .i64) w D dv.length dv) (hcd : dv.length ≤ cd) (hdl : dv.length ≤ 9223372036854775807)
    (hn : L.length ≤ 60) (n3 : ∀ p : Int, 0 ≤ p → p < (L.length : Int) → (rd_T34 L p).f3.length ≤ 60) (n4 : ∀ p : Int, 0 ≤ p → p < (L.length : Int) → (rd_T34 L p).f4.length ≤ 60) :
    Calls Try.prog 13 #[.agg #[.slice A L.length c, .int .i64 root, .bool ro], .slice D dv.length cd] w fun e w' => Yes e (RtOk L root) ∧ Below w.heap.size w w' := by
  have HA := Aside0.mk hA
  have HD := Aside0.mk hD
  have N3 := Aside0.mk n3
  have N4 := Aside0.mk n4
  clear hA hD n3 n4
  have e1 : decide ((L.length : Int) > 1000) = false := decide_eq_false (by omega)
  have e1' : decide ((1000 : Int) < (L.length : Int)) = false := decide_eq_false (by omega)
  have e1'' : decide (1000 < L.length) = false := decide_eq_false (by omega)
  by_cases h0 : L.length < 1
  · have e0 : decide ((L.length : Int) < 1) = true := decide_eq_true (by omega)
    have e0' : decide (L.length < 1) = true := decide_eq_true (by omega)
    go_enter Try.func13, Try.ntmps13
    go_wp2
    repeat (go_quiet (fail); try go_wp2)
    first | go_end0 | ((try simp only [Exit.inBlock, Exit.then]); refine bodyPost_ret (results_tmp rfl _ _ _) rfl ?_)
    exact ⟨.no rfl, below_alloc (Below.refl _ _) _⟩
  have e0 : decide ((L.length : Int) < 1) = false := decide_eq_false (by omega)
  have e0' : decide (L.length < 1) = false := decide_eq_false (by omega)
  by_cases h1 : root < 0
  · have e2 : decide (root < 0) = true := decide_eq_true h1
    clear h1
    go_enter Try.func13, Try.ntmps13
    go_wp2
    repeat (go_quiet (fail); try go_wp2)
    first | go_end0 | ((try simp only [Exit.inBlock, Exit.then]); refine bodyPost_ret (results_tmp rfl _ _ _) rfl ?_)
    exact ⟨.no rfl, below_alloc (Below.refl _ _) _⟩
  have e2 : decide (root < 0) = false := decide_eq_false h1
  by_cases h2 : root ≥ (L.length : Int)
  · have e3 : decide (root ≥ (L.length : Int)) = true := decide_eq_true h2
    have e3' : decide ((L.length : Int) ≤ root) = true := decide_eq_true h2
    clear h1 h2
    go_enter Try.func13, Try.ntmps13
    go_wp2
    repeat (go_quiet (fail); try go_wp2)
    first | go_end0 | ((try simp only [Exit.inBlock, Exit.then]); refine bodyPost_ret (results_tmp rfl _ _ _) rfl ?_)
    exact ⟨.no rfl, below_alloc (Below.refl _ _) _⟩
  have e3 : decide (root ≥ (L.length : Int)) = false := decide_eq_false h2
  have e3' : decide ((L.length : Int) ≤ root) = false := decide_eq_false h2
  have HR := Aside0.mk (show 1 ≤ L.length ∧ 0 ≤ root ∧ root < (L.length : Int) by omega)
  have HN := Aside0.mk hn
  clear h0 h1 h2
  go_enter Try.func13, Try.ntmps13
  go_upto_block 0 with (fail)
  have h3 := blk_new w (.cells #[.slice A L.length c, .int .i64 root, .bool ro] 24 (0, 0))
  have hb := below_alloc (Below.refl w.heap.size w) (.cells #[.slice A L.length c, .int .i64 root, .bool ro] 24 (0, 0))
  have H3 := Aside0.mk h3
  have HB := Aside0.mk hb
  clear h3 hb e0 e0' e1 e1' e1'' e2 e3 e3'
  generalize w.alloc (.cells #[.slice A L.length c, .int .i64 root, .bool ro] 24 (0, 0)) = W0 at *
  obtain ⟨b3, hb3⟩ : ∃ b, b = w.heap.size := ⟨_, rfl⟩
  rw [← hb3] at H3 ⊢
  clear hb3
  go_wp2_with (fail)
  go_loopg [5] (L.length + 1) (fun kx v5 wr => ∃ i : Nat, i ≤ L.length ∧ L.length - i + 1 ≤ kx ∧ v5 = .int .i64 i ∧ Aside0 (Below W0.heap.size W0 wr) ∧ Aside0 (∀ j : Int, 0 ≤ j → j < (i : Int) → StOk L j))
  case atStart => exact ⟨0, Nat.zero_le _, by omega, rfl, ⟨Below.refl _ _⟩, ⟨fun j h0 h1 => by omega⟩⟩
  case round =>
    obtain ⟨i, hi, hg, rfl, BW, SS⟩ := hrel
    have BB := Aside0.mk (HB.out.trans (BW.out.mono HB.out.size))
    have x0 : wr.cell? ⟨b3, 0, none⟩ = some (.slice A L.length c) := (blk_cell (blk_below H3.out BW.out) 0).trans rfl
    have x1 : wr.cell? ⟨b3, 1, none⟩ = some (.int .i64 root) := (blk_cell (blk_below H3.out BW.out) 1).trans rfl
    have x2 : wr.cell? ⟨b3, 2, none⟩ = some (.bool ro) := (blk_cell (blk_below H3.out BW.out) 2).trans rfl
    by_cases hlt : i < L.length
    · have hd1 : decide ((i : Int) < (L.length : Int)) = true := decide_eq_true (by omega)
      have HST := Aside0.mk (step_calls A c L root ro (i : Int) D cd dv wr (Kd.C_below HA.out BB.out) hc (Kd.C_below HD.out BB.out) hcd hdl (by omega) (by omega) (N3.out _ (by omega) (by omega)) (N4.out _ (by omega) (by omega)) (fun p p0 p1 => (SS.out p p0 p1).1))
      go_upto_if 42 with (go_at_call 19; (with_reducible refine HST.out.mono ?_); rintro e w5 ⟨⟨b, rfl, hb⟩, hb5⟩; have HB5 := Aside0.mk hb5; have HBY := Aside0.mk hb; clear hb hb5)
      cases b with
      | false =>
        go_wp2
        first | go_end0 | ((try simp only [Exit.inBlock, Exit.then]); refine bodyPost_ret (results_tmp rfl _ _ _) rfl ?_)
        exact ⟨.no rfl, BB.out.trans (HB5.out.mono BB.out.size)⟩
      | true =>
        go_wp2
        go_roundg (L.length - (i + 1) + 1)
        case rel => exact ⟨i + 1, by omega, by omega, by go_num, ⟨BW.out.trans (HB5.out.mono BW.out.size)⟩, ⟨fun j j0 j1 => by
          by_cases hj : j = (i : Int)
          · subst hj; first | exact HBY.out rfl | exact HBY.out trivial | exact HBY.out
          · exact SS.out j j0 (by omega)⟩⟩
        case measure => omega
    · have hd1 : decide ((i : Int) < (L.length : Int)) = false := decide_eq_false (by omega)
      obtain rfl : i = L.length := by omega
      go_wp2
      first | go_end0 | ((try simp only [Exit.inBlock, Exit.then]); refine bodyPost_ret (results_tmp rfl _ _ _) rfl ?_)
      exact ⟨⟨true, rfl, fun _ => ⟨HR.out.1, HR.out.2.1, HR.out.2.2, SS.out⟩⟩, BB.out⟩
/-- What a 'yes' of bound says. -/
def BdOk (L : List S34) (root : Int) : Prop := L.length ≤ 60 ∧ (∀ p : Int, 0 ≤ p → p < (L.length : Int) → (rd_T34 L p).f3.length ≤ 60 ∧ (rd_T34 L p).f4.length ≤ 60) ∧ RtOk L root
set_option maxHeartbeats 16000000 in
set_option maxRecDepth 100000 in
theorem bound_calls (A : Option Addr) (c : Nat) (L : List S34) (root : Int) (ro : Bool) (D : Option Addr) (cd : Nat) (dv : List Int) (w : World) (hA : Kd.C k34 w A L.length L) (hc : L.length ≤ c) (hD : Kd.C (Kd.int .i64) w D dv.length dv) (hcd : dv.length ≤ cd) (hdl : dv.length ≤ 9223372036854775807) :
    Calls Try.prog 6 #[.agg #[.slice A L.length c, .int .i64 root, .bool ro], .slice D dv.length cd] w fun e w' => Yes e (BdOk L root) ∧ Below w.heap.size w w' := by
  have HA := Aside0.mk hA
  have HD := Aside0.mk hD
  clear hA hD
  by_cases h0 : (L.length : Int) > 60
  · have e0 : decide ((L.length : Int) > 60) = true := decide_eq_true (by omega)
    have e0' : decide ((60 : Int) < (L.length : Int)) = true := decide_eq_true (by omega)
    have e0'' : decide (60 < L.length) = true := decide_eq_true (by omega)
    clear h0
    go_enter Try.func6, Try.ntmps6
    go_wp2
    repeat (go_quiet (fail); try go_wp2)
    first | go_end0 | ((try simp only [Exit.inBlock, Exit.then]); refine bodyPost_ret (results_tmp rfl _ _ _) rfl ?_)
    exact ⟨.no rfl, below_alloc (Below.refl _ _) _⟩
  have e0 : decide ((L.length : Int) > 60) = false := decide_eq_false (by omega)
  have e0' : decide ((60 : Int) < (L.length : Int)) = false := decide_eq_false (by omega)
  have e0'' : decide (60 < L.length) = false := decide_eq_false (by omega)
  have hn : L.length ≤ 60 := by omega
  clear h0
  go_enter Try.func6, Try.ntmps6
  go_upto_block 0 with (fail)
  have h3 := blk_new w (.cells #[.slice A L.length c, .int .i64 root, .bool ro] 24 (0, 0))
  have hb := below_alloc (Below.refl w.heap.size w) (.cells #[.slice A L.length c, .int .i64 root, .bool ro] 24 (0, 0))
  have H3 := Aside0.mk h3
  have HB := Aside0.mk hb
  clear h3 hb e0 e0' e0''
  generalize w.alloc (.cells #[.slice A L.length c, .int .i64 root, .bool ro] 24 (0, 0)) = W0 at *
  obtain ⟨b3, hb3⟩ : ∃ b, b = w.heap.size := ⟨_, rfl⟩
  rw [← hb3] at H3 ⊢
  clear hb3
  go_wp2_with (fail)
  go_loopg [5] (L.length + 1) (fun kx v5 wr => ∃ i : Nat, i ≤ L.length ∧ L.length - i + 1 ≤ kx ∧ v5 = .int .i64 i ∧ Aside0 (Below W0.heap.size W0 wr) ∧ Aside0 (∀ p : Int, 0 ≤ p → p < (i : Int) → (rd_T34 L p).f3.length ≤ 60 ∧ (rd_T34 L p).f4.length ≤ 60))
  case atStart => exact ⟨0, Nat.zero_le _, by omega, rfl, ⟨Below.refl _ _⟩, ⟨fun j h0 h1 => by omega⟩⟩
  case round =>
    obtain ⟨i, hi, hg, rfl, BW, SS⟩ := hrel
    have BB := Aside0.mk (HB.out.trans (BW.out.mono HB.out.size))
    have x0 : wr.cell? ⟨b3, 0, none⟩ = some (.slice A L.length c) := (blk_cell (blk_below H3.out BW.out) 0).trans rfl
    have x1 : wr.cell? ⟨b3, 1, none⟩ = some (.int .i64 root) := (blk_cell (blk_below H3.out BW.out) 1).trans rfl
    have x2 : wr.cell? ⟨b3, 2, none⟩ = some (.bool ro) := (blk_cell (blk_below H3.out BW.out) 2).trans rfl
    by_cases hlt : i < L.length
    · have hd1 : decide ((i : Int) < (L.length : Int)) = true := decide_eq_true (by omega)
      have q3 : (0 : Int) ≤ (i : Int) := by omega
      obtain ⟨ad, A3, c3, A4, c4, A8, c8, A9, c9, rfl, f0, f1, f2, f3, f4, f5, f6, f7, f8, f9, l3, g3, l4, g4, l8, g8, l9, g9⟩ := at_T34 (Kd.C_below HA.out BB.out) (i : Int) q3 (by omega)
      rw [Int.toNat_natCast] at f3 f4
      clear f0 f1 f2 f5 f6 f7 f8 f9 g3 g4 g8 g9 l8 l9
      have HS := Aside0.mk (show (rd_T34 L (i : Int)).f3.length ≤ 60 → (rd_T34 L (i : Int)).f4.length ≤ 60 → ∀ p : Int, 0 ≤ p → p < ((i + 1 : Nat) : Int) → (rd_T34 L p).f3.length ≤ 60 ∧ (rd_T34 L p).f4.length ≤ 60 from fun a b p p0 p1 => by
        by_cases hp : p = (i : Int)
        · subst hp; exact ⟨a, b⟩
        · exact SS.out p p0 (by omega))
      generalize rd_T34 L (i : Int) = t at *
      by_cases h3 : (t.f3.length : Int) > 60
      · have d3 : decide ((t.f3.length : Int) > 60) = true := decide_eq_true (by omega)
        have d3' : decide ((60 : Int) < (t.f3.length : Int)) = true := decide_eq_true (by omega)
        have d3'' : decide (60 < t.f3.length) = true := decide_eq_true (by omega)
        clear h3
        go_wp2
        repeat (go_quiet (fail); try go_wp2)
        first | go_end0 | ((try simp only [Exit.inBlock, Exit.then]); refine bodyPost_ret (results_tmp rfl _ _ _) rfl ?_)
        exact ⟨.no rfl, by first | exact BB.out | exact pw_below_drewN BB.out _⟩
      have d3 : decide ((t.f3.length : Int) > 60) = false := decide_eq_false (by omega)
      have d3' : decide ((60 : Int) < (t.f3.length : Int)) = false := decide_eq_false (by omega)
      have d3'' : decide (60 < t.f3.length) = false := decide_eq_false (by omega)
      by_cases h4 : (t.f4.length : Int) > 60
      · have d4 : decide ((t.f4.length : Int) > 60) = true := decide_eq_true (by omega)
        have d4' : decide ((60 : Int) < (t.f4.length : Int)) = true := decide_eq_true (by omega)
        have d4'' : decide (60 < t.f4.length) = true := decide_eq_true (by omega)
        clear h3 h4
        go_wp2
        repeat (go_quiet (fail); try go_wp2)
        first | go_end0 | ((try simp only [Exit.inBlock, Exit.then]); refine bodyPost_ret (results_tmp rfl _ _ _) rfl ?_)
        exact ⟨.no rfl, by first | exact BB.out | exact pw_below_drewN BB.out _⟩
      have d4 : decide ((t.f4.length : Int) > 60) = false := decide_eq_false (by omega)
      have d4' : decide ((60 : Int) < (t.f4.length : Int)) = false := decide_eq_false (by omega)
      have d4'' : decide (60 < t.f4.length) = false := decide_eq_false (by omega)
      have HX := Aside0.mk (HS.out (by omega) (by omega))
      clear h3 h4 HS
      go_wp2
      repeat (go_quiet (fail); try go_wp2)
      go_roundg (L.length - (i + 1) + 1)
      case rel => exact ⟨i + 1, by omega, by omega, by go_num, ⟨by first | exact BW.out | exact pw_below_drewN BW.out _⟩, HX⟩
      case measure => omega
    · have hd1 : decide ((i : Int) < (L.length : Int)) = false := decide_eq_false (by omega)
      obtain rfl : i = L.length := by omega
      have HST := Aside0.mk (right_calls A c L root ro D cd dv wr (Kd.C_below HA.out BB.out) hc (Kd.C_below HD.out BB.out) hcd hdl hn (fun p p0 p1 => (SS.out p p0 p1).1) (fun p p0 p1 => (SS.out p p0 p1).2))
      go_wp2_with (go_at_call 13; (with_reducible refine HST.out.mono ?_); rintro e w5 ⟨⟨b, rfl, hb⟩, hb5⟩; have HB5 := Aside0.mk hb5; have HBY := Aside0.mk hb; clear hb hb5)
      first | go_end0 | ((try simp only [Exit.inBlock, Exit.then]); refine bodyPost_ret (results_tmp rfl _ _ _) rfl ?_)
      exact ⟨⟨b, rfl, fun h => ⟨hn, SS.out, HBY.out h⟩⟩, BB.out.trans (HB5.out.mono BB.out.size)⟩
end Go.Proofs.Ytneglmnffdmbiaa.P
