import Derived.Test.YtneglmnffdmbiaaOptFuse
import Derived.Test.YtneglmnffdmbiaaOptEx
namespace Go.Proofs.Ytneglmnffdmbiaa.P
open Go.RowKit Go.Proofs.YtneglmnffdmbiaaW.PrintWords Go.Proofs.YtneglmnffdmbiaaW.PrintLast Go.Proofs.YtneglmnffdmbiaaW.PrintMore
attribute [local go_sem] max2_int min2_int max_two min_two
set_option linter.unusedVariables false
set_option linter.unusedSimpArgs false

theorem adz0 (a : Addr) : a.add 0 = a := by unfold Addr.add; simp
theorem quiet_of {f : FuncId} {args : Array Value} {w : World} {v : Value} {k : Nat} (h : Calls Try.prog f args (w.drewN k) fun e w' => e = .returned v ∧ Drawn0 (w.drewN k) w') : Calls Try.prog f args (w.drewN k) fun e w'' => e = .returned v ∧ ∃ m, w'' = w.drewN m := h.mono (fun e w' ⟨h1, ⟨⟨m, h2⟩⟩⟩ => ⟨h1, k + m, by rw [h2, World.drewN_drewN]⟩)
/-- What a 'yes' of ref15.step says of step i. -/
def StOk (L : List S34) (i : Int) : Prop := (1 ≤ (rd_T34 L i).f1 ∧ (rd_T34 L i).f1 ≤ 8192) ∧ ((rd_T34 L i).f0 = 3 → ExOk L i ∧ (rd_T34 L i).f4 = [] ∧ (rd_T34 L i).f2 = 0 ∧ (rd_T34 L i).f5 = 0 ∧ (rd_T34 L i).f6 = 0 ∧ (rd_T34 L i).f7 = 0 ∧ (rd_T34 L i).f8 = [] ∧ (rd_T34 L i).f9 = []) ∧ ((rd_T34 L i).f0 ≠ 3 → (rd_T34 L i).f3 = [] ∧ KidsIn (rd_T34 L i).f4 i) ∧ (rd_T34 L i).f8.length ≤ 32 ∧ (rd_T34 L i).f9.length ≤ 32
/-- The answer is a Boolean; where it is 'true', F holds. -/
def Yes (e : Ending) (F : Prop) : Prop := ∃ b, e = .returned (.bool b) ∧ (b = true → F)
theorem Yes.no {e : Ending} {F : Prop} (h : e = .returned (.bool false)) : Yes e F := ⟨false, h, fun h => by cases h⟩
/-- What a 'yes' of the switch says. -/
def Fk (L : List S34) (i : Int) (t : S34) (n3 n4 : Nat) (b : Bool) : Prop := b = true → n3 = 0 → n4 = 0 → (t.f0 = 3 → ExOk L i ∧ t.f4 = []) ∧ (t.f0 ≠ 3 → t.f3 = [] ∧ KidsIn t.f4 i)
theorem Fk_not {L : List S34} {i : Int} {t : S34} (h : t.f0 ≠ 3) (b : Bool) : Fk L i t t.f3.length t.f4.length b := fun _ h3 h4 => ⟨fun h0 => absurd h0 h, fun _ => ⟨List.length_eq_zero_iff.1 h3, fun q hq => by omega⟩⟩
theorem wrap_small {x : Int} (h : -1000000000000 ≤ x) (h2 : x ≤ 9223372036854775807) : IntKind.i64.wrap x = x := by rw [i64_w]; unfold wrap64; omega
theorem Fk_St {L : List S34} {i : Int} {t : S34} {n3 n4 n8 n9 : Nat} {q2 q5 q6 q7 : Int} (hT : rd_T34 L i = t) (hs : 1 ≤ t.f1 ∧ t.f1 ≤ 8192) (h : Fk L i t n3 n4 true) (hx : t.f0 = 3 → q2 = t.f2 ∧ q5 = t.f5 ∧ q6 = t.f6 ∧ q7 = t.f7 ∧ n8 = t.f8.length ∧ n9 = t.f9.length) (hy : (true = true → n8 = 0 → t.f8.length ≤ 32) ∧ (true = true → n9 = 0 → t.f9.length ≤ 32)) (h2 : q2 = 0) (h3 : (n3 : Int) = 0) (h4 : (n4 : Int) = 0) (h5 : q5 = 0) (h6 : q6 = 0) (h7 : q7 = 0) (h8 : (n8 : Int) = 0) (h9 : (n9 : Int) = 0) : StOk L i := by
  have h0 := h rfl (Int.ofNat.inj h3) (Int.ofNat.inj h4)
  subst hT
  refine ⟨hs, fun he => ?_, h0.2, hy.1 rfl (Int.ofNat.inj h8), hy.2 rfl (Int.ofNat.inj h9)⟩
  obtain ⟨e2, e5, e6, e7, e8, e9⟩ := hx he
  obtain ⟨p1, p2⟩ := h0.1 he
  exact ⟨p1, p2, by omega, by omega, by omega, by omega, List.length_eq_zero_iff.1 (by omega), List.length_eq_zero_iff.1 (by omega)⟩
set_option maxHeartbeats 200000000 in
set_option maxRecDepth 100000 in
theorem step_calls (A : Option Addr) (c : Nat) (L : List S34) (root : Int) (ro : Bool) (i : Int) (D : Option Addr) (cd : Nat) (dv : List Int) (w : World) (hA : Kd.C k34 w A L.length L) (hc : L.length ≤ c) (hD : Kd.C (Kd.int .i64) w D dv.length dv) (hcd : dv.length ≤ cd) (hdl : dv.length ≤ 9223372036854775807)
    (hi0 : 0 ≤ i) (hi1 : i < (L.length : Int)) (n3 : (rd_T34 L i).f3.length ≤ 60) (n4 : (rd_T34 L i).f4.length ≤ 60) (hL : ∀ p : Int, 0 ≤ p → p < i → 1 ≤ (rd_T34 L p).f1 ∧ (rd_T34 L p).f1 ≤ 8192) :
    Calls Try.prog 19 #[.agg #[.slice A L.length c, .int .i64 root, .bool ro], .int .i64 i, .slice D dv.length cd] w fun e w' => Yes e (StOk L i) ∧ Below w.heap.size w w' := by
  obtain ⟨ad, A3, c3, A4, c4, A8, c8, A9, c9, rfl, f0, f1, f2, f3, f4, f5, f6, f7, f8, f9, l3, g3, l4, g4, l8, g8, l9, g9⟩ := at_T34 hA i hi0 hi1
  generalize hT : rd_T34 L i = t at *
  have HT := Aside0.mk hT
  have HA := Aside0.mk hA
  have HD := Aside0.mk hD
  have HDL := Aside0.mk hdl
  have HL := Aside0.mk hL
  have G3 := Aside0.mk g3
  have G4 := Aside0.mk g4
  have G8 := Aside0.mk g8
  have G9 := Aside0.mk g9
  have hi2 : (i < (L.length : Int)) = True := eq_true hi1
  have hi3 : (0 ≤ i) = True := eq_true hi0
  have b1 : Below w.heap.size w (w.alloc (.cells #[.slice (some ad) L.length c, .int .i64 root, .bool ro] 24 (0, 0))) := below_alloc (Below.refl _ _) _
  replace f0 := (b1.cell (World.block_lt_of_cell? _ _ f0)).trans f0
  replace f1 := (b1.cell (World.block_lt_of_cell? _ _ f1)).trans f1
  replace f2 := (b1.cell (World.block_lt_of_cell? _ _ f2)).trans f2
  replace f3 := (b1.cell (World.block_lt_of_cell? _ _ f3)).trans f3
  replace f4 := (b1.cell (World.block_lt_of_cell? _ _ f4)).trans f4
  replace f5 := (b1.cell (World.block_lt_of_cell? _ _ f5)).trans f5
  replace f6 := (b1.cell (World.block_lt_of_cell? _ _ f6)).trans f6
  replace f7 := (b1.cell (World.block_lt_of_cell? _ _ f7)).trans f7
  replace f8 := (b1.cell (World.block_lt_of_cell? _ _ f8)).trans f8
  replace f9 := (b1.cell (World.block_lt_of_cell? _ _ f9)).trans f9
  clear hT hA hD hL g3 g4 g8 g9 b1
  by_cases hs0 : t.f1 < 1
  · have d0 : decide (t.f1 < 1) = true := decide_eq_true hs0
    go_enter Try.func19, Try.ntmps19
    go_wp2
    repeat (go_quiet (fail); try go_wp2)
    first | go_end0 | ((try simp only [Exit.inBlock, Exit.then]); refine bodyPost_ret (results_tmp rfl _ _ _) rfl ?_)
    exact ⟨.no rfl, below_alloc (below_alloc (Below.refl _ _) _) _⟩
  have d0 : decide (t.f1 < 1) = false := decide_eq_false hs0
  by_cases hs1 : t.f1 > 8192
  · have d1 : decide (t.f1 > 8192) = true := decide_eq_true hs1
    have d1' : decide (8192 < t.f1) = true := decide_eq_true hs1
    go_enter Try.func19, Try.ntmps19
    go_wp2
    repeat (go_quiet (fail); try go_wp2)
    first | go_end0 | ((try simp only [Exit.inBlock, Exit.then]); refine bodyPost_ret (results_tmp rfl _ _ _) rfl ?_)
    exact ⟨.no rfl, below_alloc (below_alloc (Below.refl _ _) _) _⟩
  have d1 : decide (t.f1 > 8192) = false := decide_eq_false hs1
  have d1' : decide (8192 < t.f1) = false := decide_eq_false hs1
  have HS := Aside0.mk (show 1 ≤ t.f1 ∧ t.f1 ≤ 8192 by omega)
  clear hs0 hs1
  go_enter Try.func19, Try.ntmps19
  go_upto_block 0 with (fail)
  have hb0 : Below w.heap.size w (((w.alloc (.cells #[.slice (some ad) L.length c, .int .i64 root, .bool ro] 24 (0, 0))).alloc (.cells #[.int .i64 t.f0, .int .i64 t.f1, .int .i64 t.f2, .slice A3 t.f3.length c3, .slice A4 t.f4.length c4, .int .i64 t.f5, .int .i64 t.f6, .int .i64 t.f7, .slice A8 t.f8.length c8, .slice A9 t.f9.length c9] 34 (0, 0))).alloc (.cells #[.int .i64 t.f0, .int .i64 0, .int .i64 t.f2, .slice A3 t.f3.length c3, .slice A4 t.f4.length c4, .int .i64 t.f5, .int .i64 t.f6, .int .i64 t.f7, .slice A8 t.f8.length c8, .slice A9 t.f9.length c9] 34 (0, 0))) := below_alloc (below_alloc (below_alloc (Below.refl _ _) _) _) _
  have h3 := blk_alloc (blk_alloc (blk_new w (.cells #[.slice (some ad) L.length c, .int .i64 root, .bool ro] 24 (0, 0))) (.cells #[.int .i64 t.f0, .int .i64 t.f1, .int .i64 t.f2, .slice A3 t.f3.length c3, .slice A4 t.f4.length c4, .int .i64 t.f5, .int .i64 t.f6, .int .i64 t.f7, .slice A8 t.f8.length c8, .slice A9 t.f9.length c9] 34 (0, 0))) (.cells #[.int .i64 t.f0, .int .i64 0, .int .i64 t.f2, .slice A3 t.f3.length c3, .slice A4 t.f4.length c4, .int .i64 t.f5, .int .i64 t.f6, .int .i64 t.f7, .slice A8 t.f8.length c8, .slice A9 t.f9.length c9] 34 (0, 0))
  have h7 := blk_alloc (blk_new (w.alloc (.cells #[.slice (some ad) L.length c, .int .i64 root, .bool ro] 24 (0, 0))) (.cells #[.int .i64 t.f0, .int .i64 t.f1, .int .i64 t.f2, .slice A3 t.f3.length c3, .slice A4 t.f4.length c4, .int .i64 t.f5, .int .i64 t.f6, .int .i64 t.f7, .slice A8 t.f8.length c8, .slice A9 t.f9.length c9] 34 (0, 0))) (.cells #[.int .i64 t.f0, .int .i64 0, .int .i64 t.f2, .slice A3 t.f3.length c3, .slice A4 t.f4.length c4, .int .i64 t.f5, .int .i64 t.f6, .int .i64 t.f7, .slice A8 t.f8.length c8, .slice A9 t.f9.length c9] 34 (0, 0))
  have h8 := blk_new ((w.alloc (.cells #[.slice (some ad) L.length c, .int .i64 root, .bool ro] 24 (0, 0))).alloc (.cells #[.int .i64 t.f0, .int .i64 t.f1, .int .i64 t.f2, .slice A3 t.f3.length c3, .slice A4 t.f4.length c4, .int .i64 t.f5, .int .i64 t.f6, .int .i64 t.f7, .slice A8 t.f8.length c8, .slice A9 t.f9.length c9] 34 (0, 0))) (.cells #[.int .i64 t.f0, .int .i64 0, .int .i64 t.f2, .slice A3 t.f3.length c3, .slice A4 t.f4.length c4, .int .i64 t.f5, .int .i64 t.f6, .int .i64 t.f7, .slice A8 t.f8.length c8, .slice A9 t.f9.length c9] 34 (0, 0))
  rw [World.size_alloc] at h7
  rw [World.size_alloc, World.size_alloc] at h8
  have H3 := Aside0.mk h3
  have H7 := Aside0.mk h7
  have H8 := Aside0.mk h8
  have HB0 := Aside0.mk hb0
  clear h3 h7 h8 hb0 f0 f1 f2 f3 f4 f5 f6 f7 f8 f9 d0 d1 d1'
  generalize ((w.alloc (.cells #[.slice (some ad) L.length c, .int .i64 root, .bool ro] 24 (0, 0))).alloc (.cells #[.int .i64 t.f0, .int .i64 t.f1, .int .i64 t.f2, .slice A3 t.f3.length c3, .slice A4 t.f4.length c4, .int .i64 t.f5, .int .i64 t.f6, .int .i64 t.f7, .slice A8 t.f8.length c8, .slice A9 t.f9.length c9] 34 (0, 0))).alloc (.cells #[.int .i64 t.f0, .int .i64 0, .int .i64 t.f2, .slice A3 t.f3.length c3, .slice A4 t.f4.length c4, .int .i64 t.f5, .int .i64 t.f6, .int .i64 t.f7, .slice A8 t.f8.length c8, .slice A9 t.f9.length c9] 34 (0, 0)) = W0 at *
  obtain ⟨b3, hb3⟩ : ∃ b, b = w.heap.size := ⟨_, rfl⟩
  obtain ⟨b7, hb7⟩ : ∃ b, b = w.heap.size + 1 := ⟨_, rfl⟩
  obtain ⟨b8, hb8⟩ : ∃ b, b = w.heap.size + 1 + 1 := ⟨_, rfl⟩
  rw [← hb8] at H8 ⊢
  rw [← hb7] at H7 ⊢
  rw [← hb3] at H3
  rw [← hb3]
  have HZ := Aside0.mk (show w.heap.size ≤ b8 by omega)
  have hi0' := hi0
  have hi1' := hi1
  clear hb3 hb7 hb8
  go_cut [9] (fun v9 wc => ∃ (ok : Bool) (q2 : Int) (B3 : Option Addr) (m3 d3 : Nat) (B4 : Option Addr) (m4 d4 : Nat) (q5 q6 q7 : Int) (B8 : Option Addr) (m8 d8 : Nat) (B9 : Option Addr) (m9 d9 : Nat), v9 = .bool ok ∧ Aside0 (wc.heap[b8]? = some (.cells #[.int .i64 t.f0, .int .i64 0, .int .i64 q2, .slice B3 m3 d3, .slice B4 m4 d4, .int .i64 q5, .int .i64 q6, .int .i64 q7, .slice B8 m8 d8, .slice B9 m9 d9] 34 (0, 0))) ∧ Aside0 (Below w.heap.size w wc) ∧ Aside0 (Fk L i t m3 m4 ok) ∧ Aside0 (t.f0 = 3 → q2 = t.f2 ∧ q5 = t.f5 ∧ q6 = t.f6 ∧ q7 = t.f7 ∧ m8 = t.f8.length ∧ m9 = t.f9.length) ∧ Aside0 ((ok = true → m8 = 0 → t.f8.length ≤ 32) ∧ (ok = true → m9 = 0 → t.f9.length ≤ 32)))
  case first =>
    by_cases hk : t.f0 = 1
    · as_aux_lemma =>
        have k1 : (t.f0 == (1 : Int)) = true := beq_iff_eq.2 hk
        have x3_0 : W0.cell? ⟨b3, 0, none⟩ = some (.slice (some ad) L.length c) := (blk_cell H3.out 0).trans rfl
        have x7_0 : W0.cell? ⟨b7, 0, none⟩ = some (.int .i64 t.f0) := (blk_cell H7.out 0).trans rfl
        have x7_1 : W0.cell? ⟨b7, 1, none⟩ = some (.int .i64 t.f1) := (blk_cell H7.out 1).trans rfl
        have x7_2 : W0.cell? ⟨b7, 2, none⟩ = some (.int .i64 t.f2) := (blk_cell H7.out 2).trans rfl
        have x7_3 : W0.cell? ⟨b7, 3, none⟩ = some (.slice A3 t.f3.length c3) := (blk_cell H7.out 3).trans rfl
        have x7_4 : W0.cell? ⟨b7, 4, none⟩ = some (.slice A4 t.f4.length c4) := (blk_cell H7.out 4).trans rfl
        have x7_5 : W0.cell? ⟨b7, 5, none⟩ = some (.int .i64 t.f5) := (blk_cell H7.out 5).trans rfl
        have x7_6 : W0.cell? ⟨b7, 6, none⟩ = some (.int .i64 t.f6) := (blk_cell H7.out 6).trans rfl
        have x7_7 : W0.cell? ⟨b7, 7, none⟩ = some (.int .i64 t.f7) := (blk_cell H7.out 7).trans rfl
        have x7_8 : W0.cell? ⟨b7, 8, none⟩ = some (.slice A8 t.f8.length c8) := (blk_cell H7.out 8).trans rfl
        have x7_9 : W0.cell? ⟨b7, 9, none⟩ = some (.slice A9 t.f9.length c9) := (blk_cell H7.out 9).trans rfl
        have z8_2 : W0.cell? ⟨b8, 2, none⟩ = some (.int .i64 t.f2) := (blk_cell H8.out 2).trans rfl
        have y8_2 := blk_frozen H8.out 2
        have z8_3 : W0.cell? ⟨b8, 3, none⟩ = some (.slice A3 t.f3.length c3) := (blk_cell H8.out 3).trans rfl
        have y8_3 := blk_frozen H8.out 3
        have z8_4 : W0.cell? ⟨b8, 4, none⟩ = some (.slice A4 t.f4.length c4) := (blk_cell H8.out 4).trans rfl
        have y8_4 := blk_frozen H8.out 4
        have z8_5 : W0.cell? ⟨b8, 5, none⟩ = some (.int .i64 t.f5) := (blk_cell H8.out 5).trans rfl
        have y8_5 := blk_frozen H8.out 5
        have z8_6 : W0.cell? ⟨b8, 6, none⟩ = some (.int .i64 t.f6) := (blk_cell H8.out 6).trans rfl
        have y8_6 := blk_frozen H8.out 6
        have z8_7 : W0.cell? ⟨b8, 7, none⟩ = some (.int .i64 t.f7) := (blk_cell H8.out 7).trans rfl
        have y8_7 := blk_frozen H8.out 7
        have z8_8 : W0.cell? ⟨b8, 8, none⟩ = some (.slice A8 t.f8.length c8) := (blk_cell H8.out 8).trans rfl
        have y8_8 := blk_frozen H8.out 8
        have z8_9 : W0.cell? ⟨b8, 9, none⟩ = some (.slice A9 t.f9.length c9) := (blk_cell H8.out 9).trans rfl
        have y8_9 := blk_frozen H8.out 9
        have HN3 := Aside0.mk (show t.f0 ≠ 3 by omega)
        have hfk : ∀ b, Fk L i t t.f3.length t.f4.length b := Fk_not (by omega)
        have HF := Aside0.mk hfk
        clear hfk hk
        by_cases a1 : t.f2 ≥ 0
        · have a1b : decide (t.f2 ≥ 0) = true := decide_eq_true a1
          have a1c : decide (0 ≤ t.f2) = true := decide_eq_true a1
          by_cases a2 : t.f2 < (dv.length : Int)
          · have a2b : decide (t.f2 < (dv.length : Int)) = true := decide_eq_true a2
            obtain ⟨add, eD, y0⟩ := Kd.at_int (Kd.C_below HD.out HB0.out) t.f2 a1 a2
            subst eD
            have a4 : ¬ ((dv.length : Int) - 1 < t.f2) := by omega
            have a5 : ¬ (t.f2 < 0) := by omega
            have a6 : IntKind.i64.wrap ((dv.length : Int) - 1) = (dv.length : Int) - 1 := wrap_small (by have := HDL.out; omega) (by have := HDL.out; omega)
            have a7 : (0 ≤ t.f2) = True := eq_true a1
            have a8 : (t.f2 < (dv.length : Int)) = True := eq_true a2
            clear a1 a2
            by_cases a3 : rd dv t.f2 = t.f1
            · have a3b : (rd dv t.f2 == t.f1) = true := beq_iff_eq.2 a3
              clear a3
              go_wp2
              repeat (go_quiet (fail); try go_wp2)
              go_meet
              case rel => exact ⟨true, 0, A3, t.f3.length, c3, A4, t.f4.length, c4, t.f5, t.f6, t.f7, A8, t.f8.length, c8, A9, t.f9.length, c9, rfl, ⟨by simpa using (blk_set (blk_drewN H8.out _) 2 (.int .i64 0))⟩, ⟨below_set (g := b8) (j := 2) (v := .int .i64 0) (pw_below_drewN HB0.out _) HZ.out⟩, ⟨HF.out _⟩, ⟨fun h_ => absurd h_ HN3.out⟩, ⟨⟨fun _ h_ => by omega, fun _ h_ => by omega⟩⟩⟩
            · have a3b : (rd dv t.f2 == t.f1) = false := beq_eq_false_iff_ne.2 a3
              clear a3
              go_wp2
              repeat (go_quiet (fail); try go_wp2)
              go_meet
              case rel => exact ⟨false, 0, A3, t.f3.length, c3, A4, t.f4.length, c4, t.f5, t.f6, t.f7, A8, t.f8.length, c8, A9, t.f9.length, c9, rfl, ⟨by simpa using (blk_set (blk_drewN H8.out _) 2 (.int .i64 0))⟩, ⟨below_set (g := b8) (j := 2) (v := .int .i64 0) (pw_below_drewN HB0.out _) HZ.out⟩, ⟨HF.out _⟩, ⟨fun h_ => absurd h_ HN3.out⟩, ⟨⟨fun _ h_ => by omega, fun _ h_ => by omega⟩⟩⟩
          · have a2b : decide (t.f2 < (dv.length : Int)) = false := decide_eq_false a2
            clear a1 a2
            go_wp2
            repeat (go_quiet (fail); try go_wp2)
            go_meet
            case rel => exact ⟨false, 0, A3, t.f3.length, c3, A4, t.f4.length, c4, t.f5, t.f6, t.f7, A8, t.f8.length, c8, A9, t.f9.length, c9, rfl, ⟨by simpa using (blk_set (blk_drewN H8.out _) 2 (.int .i64 0))⟩, ⟨below_set (g := b8) (j := 2) (v := .int .i64 0) (pw_below_drewN HB0.out _) HZ.out⟩, ⟨HF.out _⟩, ⟨fun h_ => absurd h_ HN3.out⟩, ⟨⟨fun _ h_ => by omega, fun _ h_ => by omega⟩⟩⟩
        · have a1b : decide (t.f2 ≥ 0) = false := decide_eq_false a1
          have a1c : decide (0 ≤ t.f2) = false := decide_eq_false a1
          clear a1
          go_wp2
          repeat (go_quiet (fail); try go_wp2)
          go_meet
          case rel => exact ⟨false, 0, A3, t.f3.length, c3, A4, t.f4.length, c4, t.f5, t.f6, t.f7, A8, t.f8.length, c8, A9, t.f9.length, c9, rfl, ⟨by simpa using (blk_set (blk_drewN H8.out _) 2 (.int .i64 0))⟩, ⟨below_set (g := b8) (j := 2) (v := .int .i64 0) (pw_below_drewN HB0.out _) HZ.out⟩, ⟨HF.out _⟩, ⟨fun h_ => absurd h_ HN3.out⟩, ⟨⟨fun _ h_ => by omega, fun _ h_ => by omega⟩⟩⟩
    have hn1 := hk
    clear hk
    by_cases hk : t.f0 = 3
    · as_aux_lemma =>
        have k1 : (t.f0 == (1 : Int)) = false := beq_eq_false_iff_ne.2 (by omega)
        have k3 : (t.f0 == (3 : Int)) = true := beq_iff_eq.2 hk
        have x3_0 : W0.cell? ⟨b3, 0, none⟩ = some (.slice (some ad) L.length c) := (blk_cell H3.out 0).trans rfl
        have x7_0 : W0.cell? ⟨b7, 0, none⟩ = some (.int .i64 t.f0) := (blk_cell H7.out 0).trans rfl
        have x7_1 : W0.cell? ⟨b7, 1, none⟩ = some (.int .i64 t.f1) := (blk_cell H7.out 1).trans rfl
        have x7_2 : W0.cell? ⟨b7, 2, none⟩ = some (.int .i64 t.f2) := (blk_cell H7.out 2).trans rfl
        have x7_3 : W0.cell? ⟨b7, 3, none⟩ = some (.slice A3 t.f3.length c3) := (blk_cell H7.out 3).trans rfl
        have x7_4 : W0.cell? ⟨b7, 4, none⟩ = some (.slice A4 t.f4.length c4) := (blk_cell H7.out 4).trans rfl
        have x7_5 : W0.cell? ⟨b7, 5, none⟩ = some (.int .i64 t.f5) := (blk_cell H7.out 5).trans rfl
        have x7_6 : W0.cell? ⟨b7, 6, none⟩ = some (.int .i64 t.f6) := (blk_cell H7.out 6).trans rfl
        have x7_7 : W0.cell? ⟨b7, 7, none⟩ = some (.int .i64 t.f7) := (blk_cell H7.out 7).trans rfl
        have x7_8 : W0.cell? ⟨b7, 8, none⟩ = some (.slice A8 t.f8.length c8) := (blk_cell H7.out 8).trans rfl
        have x7_9 : W0.cell? ⟨b7, 9, none⟩ = some (.slice A9 t.f9.length c9) := (blk_cell H7.out 9).trans rfl
        have z8_2 : W0.cell? ⟨b8, 2, none⟩ = some (.int .i64 t.f2) := (blk_cell H8.out 2).trans rfl
        have y8_2 := blk_frozen H8.out 2
        have z8_3 : W0.cell? ⟨b8, 3, none⟩ = some (.slice A3 t.f3.length c3) := (blk_cell H8.out 3).trans rfl
        have y8_3 := blk_frozen H8.out 3
        have z8_4 : W0.cell? ⟨b8, 4, none⟩ = some (.slice A4 t.f4.length c4) := (blk_cell H8.out 4).trans rfl
        have y8_4 := blk_frozen H8.out 4
        have z8_5 : W0.cell? ⟨b8, 5, none⟩ = some (.int .i64 t.f5) := (blk_cell H8.out 5).trans rfl
        have y8_5 := blk_frozen H8.out 5
        have z8_6 : W0.cell? ⟨b8, 6, none⟩ = some (.int .i64 t.f6) := (blk_cell H8.out 6).trans rfl
        have y8_6 := blk_frozen H8.out 6
        have z8_7 : W0.cell? ⟨b8, 7, none⟩ = some (.int .i64 t.f7) := (blk_cell H8.out 7).trans rfl
        have y8_7 := blk_frozen H8.out 7
        have z8_8 : W0.cell? ⟨b8, 8, none⟩ = some (.slice A8 t.f8.length c8) := (blk_cell H8.out 8).trans rfl
        have y8_8 := blk_frozen H8.out 8
        have z8_9 : W0.cell? ⟨b8, 9, none⟩ = some (.slice A9 t.f9.length c9) := (blk_cell H8.out 9).trans rfl
        have y8_9 := blk_frozen H8.out 9
        obtain ⟨r, hr, hp⟩ := ext_some L root ro i hi0' hi1' (by rw [HT.out]; omega) (by rw [HT.out]; exact HS.out.1) (by rw [HT.out]; exact HS.out.2) HL.out
        have HF := Aside0.mk (show Fk L i t 0 t.f4.length r from fun h _ h4 => ⟨fun _ => ⟨hp h, List.length_eq_zero_iff.1 h4⟩, fun hn => absurd hk hn⟩)
        have HK := Aside0.mk (cofferdamref15_extents.calls 300000 (some ad) c L root ro i r W0 (Kd.C_below HA.out HB0.out) hc hr)
        have x3_1 : W0.cell? ⟨b3, 1, none⟩ = some (.int .i64 root) := (blk_cell H3.out 1).trans rfl
        have x3_2 : W0.cell? ⟨b3, 2, none⟩ = some (.bool ro) := (blk_cell H3.out 2).trans rfl
        clear hr hp hk
        go_wp2_with (go_at_call 22; (with_reducible refine HK.out.mono ?_); rintro e w5 ⟨rfl, hb5⟩; have HB5 := Aside0.mk hb5; have H3' := Aside0.mk (blk_below H3.out hb5); have H7' := Aside0.mk (blk_below H7.out hb5); have H8' := Aside0.mk (blk_below H8.out hb5); have HB1 := Aside0.mk (HB0.out.trans (hb5.mono HB0.out.size)); clear hb5 x3_0 x7_0 x7_1 x7_2 x7_3 x7_4 x7_5 x7_6 x7_7 x7_8 x7_9 z8_2 z8_3 z8_4 z8_5 z8_6 z8_7 z8_8 z8_9 y8_2 y8_3 y8_4 y8_5 y8_6 y8_7 y8_8 y8_9; have x3_0 : w5.cell? ⟨b3, 0, none⟩ = some (.slice (some ad) L.length c) := (blk_cell H3'.out 0).trans rfl; have x7_0 : w5.cell? ⟨b7, 0, none⟩ = some (.int .i64 t.f0) := (blk_cell H7'.out 0).trans rfl; have x7_1 : w5.cell? ⟨b7, 1, none⟩ = some (.int .i64 t.f1) := (blk_cell H7'.out 1).trans rfl; have x7_2 : w5.cell? ⟨b7, 2, none⟩ = some (.int .i64 t.f2) := (blk_cell H7'.out 2).trans rfl; have x7_3 : w5.cell? ⟨b7, 3, none⟩ = some (.slice A3 t.f3.length c3) := (blk_cell H7'.out 3).trans rfl; have x7_4 : w5.cell? ⟨b7, 4, none⟩ = some (.slice A4 t.f4.length c4) := (blk_cell H7'.out 4).trans rfl; have x7_5 : w5.cell? ⟨b7, 5, none⟩ = some (.int .i64 t.f5) := (blk_cell H7'.out 5).trans rfl; have x7_6 : w5.cell? ⟨b7, 6, none⟩ = some (.int .i64 t.f6) := (blk_cell H7'.out 6).trans rfl; have x7_7 : w5.cell? ⟨b7, 7, none⟩ = some (.int .i64 t.f7) := (blk_cell H7'.out 7).trans rfl; have x7_8 : w5.cell? ⟨b7, 8, none⟩ = some (.slice A8 t.f8.length c8) := (blk_cell H7'.out 8).trans rfl; have x7_9 : w5.cell? ⟨b7, 9, none⟩ = some (.slice A9 t.f9.length c9) := (blk_cell H7'.out 9).trans rfl; have z8_2 : w5.cell? ⟨b8, 2, none⟩ = some (.int .i64 t.f2) := (blk_cell H8'.out 2).trans rfl; have y8_2 := blk_frozen H8'.out 2; have z8_3 : w5.cell? ⟨b8, 3, none⟩ = some (.slice A3 t.f3.length c3) := (blk_cell H8'.out 3).trans rfl; have y8_3 := blk_frozen H8'.out 3; have z8_4 : w5.cell? ⟨b8, 4, none⟩ = some (.slice A4 t.f4.length c4) := (blk_cell H8'.out 4).trans rfl; have y8_4 := blk_frozen H8'.out 4; have z8_5 : w5.cell? ⟨b8, 5, none⟩ = some (.int .i64 t.f5) := (blk_cell H8'.out 5).trans rfl; have y8_5 := blk_frozen H8'.out 5; have z8_6 : w5.cell? ⟨b8, 6, none⟩ = some (.int .i64 t.f6) := (blk_cell H8'.out 6).trans rfl; have y8_6 := blk_frozen H8'.out 6; have z8_7 : w5.cell? ⟨b8, 7, none⟩ = some (.int .i64 t.f7) := (blk_cell H8'.out 7).trans rfl; have y8_7 := blk_frozen H8'.out 7; have z8_8 : w5.cell? ⟨b8, 8, none⟩ = some (.slice A8 t.f8.length c8) := (blk_cell H8'.out 8).trans rfl; have y8_8 := blk_frozen H8'.out 8; have z8_9 : w5.cell? ⟨b8, 9, none⟩ = some (.slice A9 t.f9.length c9) := (blk_cell H8'.out 9).trans rfl; have y8_9 := blk_frozen H8'.out 9)
        go_meet
        case rel => exact ⟨r, t.f2, none, 0, 0, A4, t.f4.length, c4, t.f5, t.f6, t.f7, A8, t.f8.length, c8, A9, t.f9.length, c9, rfl, ⟨by simpa using (blk_set (H8'.out) 3 (.slice none 0 0))⟩, ⟨below_set (g := b8) (j := 3) (v := .slice none 0 0) (HB1.out) HZ.out⟩, HF, ⟨fun _ => ⟨rfl, rfl, rfl, rfl, rfl, rfl⟩⟩, ⟨⟨fun _ h_ => by omega, fun _ h_ => by omega⟩⟩⟩
    have hn3 := hk
    clear hk
    by_cases hk : t.f0 = 4
    · as_aux_lemma =>
        have k1 : (t.f0 == (1 : Int)) = false := beq_eq_false_iff_ne.2 (by omega)
        have k3 : (t.f0 == (3 : Int)) = false := beq_eq_false_iff_ne.2 (by omega)
        have k4 : (t.f0 == (4 : Int)) = true := beq_iff_eq.2 hk
        have x3_0 : W0.cell? ⟨b3, 0, none⟩ = some (.slice (some ad) L.length c) := (blk_cell H3.out 0).trans rfl
        have x7_0 : W0.cell? ⟨b7, 0, none⟩ = some (.int .i64 t.f0) := (blk_cell H7.out 0).trans rfl
        have x7_1 : W0.cell? ⟨b7, 1, none⟩ = some (.int .i64 t.f1) := (blk_cell H7.out 1).trans rfl
        have x7_2 : W0.cell? ⟨b7, 2, none⟩ = some (.int .i64 t.f2) := (blk_cell H7.out 2).trans rfl
        have x7_3 : W0.cell? ⟨b7, 3, none⟩ = some (.slice A3 t.f3.length c3) := (blk_cell H7.out 3).trans rfl
        have x7_4 : W0.cell? ⟨b7, 4, none⟩ = some (.slice A4 t.f4.length c4) := (blk_cell H7.out 4).trans rfl
        have x7_5 : W0.cell? ⟨b7, 5, none⟩ = some (.int .i64 t.f5) := (blk_cell H7.out 5).trans rfl
        have x7_6 : W0.cell? ⟨b7, 6, none⟩ = some (.int .i64 t.f6) := (blk_cell H7.out 6).trans rfl
        have x7_7 : W0.cell? ⟨b7, 7, none⟩ = some (.int .i64 t.f7) := (blk_cell H7.out 7).trans rfl
        have x7_8 : W0.cell? ⟨b7, 8, none⟩ = some (.slice A8 t.f8.length c8) := (blk_cell H7.out 8).trans rfl
        have x7_9 : W0.cell? ⟨b7, 9, none⟩ = some (.slice A9 t.f9.length c9) := (blk_cell H7.out 9).trans rfl
        have z8_2 : W0.cell? ⟨b8, 2, none⟩ = some (.int .i64 t.f2) := (blk_cell H8.out 2).trans rfl
        have y8_2 := blk_frozen H8.out 2
        have z8_3 : W0.cell? ⟨b8, 3, none⟩ = some (.slice A3 t.f3.length c3) := (blk_cell H8.out 3).trans rfl
        have y8_3 := blk_frozen H8.out 3
        have z8_4 : W0.cell? ⟨b8, 4, none⟩ = some (.slice A4 t.f4.length c4) := (blk_cell H8.out 4).trans rfl
        have y8_4 := blk_frozen H8.out 4
        have z8_5 : W0.cell? ⟨b8, 5, none⟩ = some (.int .i64 t.f5) := (blk_cell H8.out 5).trans rfl
        have y8_5 := blk_frozen H8.out 5
        have z8_6 : W0.cell? ⟨b8, 6, none⟩ = some (.int .i64 t.f6) := (blk_cell H8.out 6).trans rfl
        have y8_6 := blk_frozen H8.out 6
        have z8_7 : W0.cell? ⟨b8, 7, none⟩ = some (.int .i64 t.f7) := (blk_cell H8.out 7).trans rfl
        have y8_7 := blk_frozen H8.out 7
        have z8_8 : W0.cell? ⟨b8, 8, none⟩ = some (.slice A8 t.f8.length c8) := (blk_cell H8.out 8).trans rfl
        have y8_8 := blk_frozen H8.out 8
        have z8_9 : W0.cell? ⟨b8, 9, none⟩ = some (.slice A9 t.f9.length c9) := (blk_cell H8.out 9).trans rfl
        have y8_9 := blk_frozen H8.out 9
        obtain ⟨r, hr, hp⟩ := kids_some t.f0 t.f1 t.f2 t.f3 t.f4 t.f5 t.f6 t.f7 t.f8 t.f9 i 1 4 (by omega)
        have HP := Aside0.mk hp
        have HK := Aside0.mk (cofferdamref15_kids.calls 200000 t.f0 t.f1 t.f2 A3 c3 t.f3 A4 c4 t.f4 t.f5 t.f6 t.f7 A8 c8 t.f8 A9 c9 t.f9 i 1 4 r W0 (Kd.C_below G3.out HB0.out) l3 (Kd.C_below G4.out HB0.out) l4 (Kd.C_below G8.out HB0.out) l8 (Kd.C_below G9.out HB0.out) l9 hr)
        clear hr hp
        have hk3 : t.f0 ≠ 3 := by omega
        have HN3 := Aside0.mk hk3
        have HK3 := Aside0.mk hk3
        clear hk hk3
        go_wp2_with (go_at_call 23; (with_reducible refine HK.out.mono ?_); rintro e w5 ⟨rfl, hb5⟩; have HB5 := Aside0.mk hb5; have H3' := Aside0.mk (blk_below H3.out hb5); have H7' := Aside0.mk (blk_below H7.out hb5); have H8' := Aside0.mk (blk_below H8.out hb5); have HB1 := Aside0.mk (HB0.out.trans (hb5.mono HB0.out.size)); clear hb5 x3_0 x7_0 x7_1 x7_2 x7_3 x7_4 x7_5 x7_6 x7_7 x7_8 x7_9 z8_2 z8_3 z8_4 z8_5 z8_6 z8_7 z8_8 z8_9 y8_2 y8_3 y8_4 y8_5 y8_6 y8_7 y8_8 y8_9; have x3_0 : w5.cell? ⟨b3, 0, none⟩ = some (.slice (some ad) L.length c) := (blk_cell H3'.out 0).trans rfl; have x7_0 : w5.cell? ⟨b7, 0, none⟩ = some (.int .i64 t.f0) := (blk_cell H7'.out 0).trans rfl; have x7_1 : w5.cell? ⟨b7, 1, none⟩ = some (.int .i64 t.f1) := (blk_cell H7'.out 1).trans rfl; have x7_2 : w5.cell? ⟨b7, 2, none⟩ = some (.int .i64 t.f2) := (blk_cell H7'.out 2).trans rfl; have x7_3 : w5.cell? ⟨b7, 3, none⟩ = some (.slice A3 t.f3.length c3) := (blk_cell H7'.out 3).trans rfl; have x7_4 : w5.cell? ⟨b7, 4, none⟩ = some (.slice A4 t.f4.length c4) := (blk_cell H7'.out 4).trans rfl; have x7_5 : w5.cell? ⟨b7, 5, none⟩ = some (.int .i64 t.f5) := (blk_cell H7'.out 5).trans rfl; have x7_6 : w5.cell? ⟨b7, 6, none⟩ = some (.int .i64 t.f6) := (blk_cell H7'.out 6).trans rfl; have x7_7 : w5.cell? ⟨b7, 7, none⟩ = some (.int .i64 t.f7) := (blk_cell H7'.out 7).trans rfl; have x7_8 : w5.cell? ⟨b7, 8, none⟩ = some (.slice A8 t.f8.length c8) := (blk_cell H7'.out 8).trans rfl; have x7_9 : w5.cell? ⟨b7, 9, none⟩ = some (.slice A9 t.f9.length c9) := (blk_cell H7'.out 9).trans rfl; have z8_2 : w5.cell? ⟨b8, 2, none⟩ = some (.int .i64 t.f2) := (blk_cell H8'.out 2).trans rfl; have y8_2 := blk_frozen H8'.out 2; have z8_3 : w5.cell? ⟨b8, 3, none⟩ = some (.slice A3 t.f3.length c3) := (blk_cell H8'.out 3).trans rfl; have y8_3 := blk_frozen H8'.out 3; have z8_4 : w5.cell? ⟨b8, 4, none⟩ = some (.slice A4 t.f4.length c4) := (blk_cell H8'.out 4).trans rfl; have y8_4 := blk_frozen H8'.out 4; have z8_5 : w5.cell? ⟨b8, 5, none⟩ = some (.int .i64 t.f5) := (blk_cell H8'.out 5).trans rfl; have y8_5 := blk_frozen H8'.out 5; have z8_6 : w5.cell? ⟨b8, 6, none⟩ = some (.int .i64 t.f6) := (blk_cell H8'.out 6).trans rfl; have y8_6 := blk_frozen H8'.out 6; have z8_7 : w5.cell? ⟨b8, 7, none⟩ = some (.int .i64 t.f7) := (blk_cell H8'.out 7).trans rfl; have y8_7 := blk_frozen H8'.out 7; have z8_8 : w5.cell? ⟨b8, 8, none⟩ = some (.slice A8 t.f8.length c8) := (blk_cell H8'.out 8).trans rfl; have y8_8 := blk_frozen H8'.out 8; have z8_9 : w5.cell? ⟨b8, 9, none⟩ = some (.slice A9 t.f9.length c9) := (blk_cell H8'.out 9).trans rfl; have y8_9 := blk_frozen H8'.out 9)
        have HSZ := Aside0.mk HB5.out.size
        go_loopg [9, 10] (t.f4.length + 1) (fun kx v9 v10 wr => ∃ (k : Nat) (ok : Bool), k ≤ t.f4.length ∧ t.f4.length - k + 1 ≤ kx ∧ v9 = .bool ok ∧ v10 = .int .i64 k ∧ Aside0 (ok = true → r = true) ∧ Aside0 (Below w5.heap.size w5 wr))
        case atStart => exact ⟨0, r, Nat.zero_le _, by omega, rfl, rfl, ⟨fun h => h⟩, ⟨Below.refl _ _⟩⟩
        case round =>
          obtain ⟨k, ok, hk, hgk, rfl, rfl, OR, BK⟩ := hrel
          have H3q := Aside0.mk (blk_below H3'.out BK.out)
          have H7q := Aside0.mk (blk_below H7'.out BK.out)
          have H8q := Aside0.mk (blk_below H8'.out BK.out)
          have HBq := Aside0.mk (HB1.out.trans (BK.out.mono HB1.out.size))
          clear x3_0 x7_0 x7_1 x7_2 x7_3 x7_4 x7_5 x7_6 x7_7 x7_8 x7_9 z8_2 z8_3 z8_4 z8_5 z8_6 z8_7 z8_8 z8_9 y8_2 y8_3 y8_4 y8_5 y8_6 y8_7 y8_8 y8_9
          have x3_0 : wr.cell? ⟨b3, 0, none⟩ = some (.slice (some ad) L.length c) := (blk_cell H3q.out 0).trans rfl
          have x7_0 : wr.cell? ⟨b7, 0, none⟩ = some (.int .i64 t.f0) := (blk_cell H7q.out 0).trans rfl
          have x7_1 : wr.cell? ⟨b7, 1, none⟩ = some (.int .i64 t.f1) := (blk_cell H7q.out 1).trans rfl
          have x7_2 : wr.cell? ⟨b7, 2, none⟩ = some (.int .i64 t.f2) := (blk_cell H7q.out 2).trans rfl
          have x7_3 : wr.cell? ⟨b7, 3, none⟩ = some (.slice A3 t.f3.length c3) := (blk_cell H7q.out 3).trans rfl
          have x7_4 : wr.cell? ⟨b7, 4, none⟩ = some (.slice A4 t.f4.length c4) := (blk_cell H7q.out 4).trans rfl
          have x7_5 : wr.cell? ⟨b7, 5, none⟩ = some (.int .i64 t.f5) := (blk_cell H7q.out 5).trans rfl
          have x7_6 : wr.cell? ⟨b7, 6, none⟩ = some (.int .i64 t.f6) := (blk_cell H7q.out 6).trans rfl
          have x7_7 : wr.cell? ⟨b7, 7, none⟩ = some (.int .i64 t.f7) := (blk_cell H7q.out 7).trans rfl
          have x7_8 : wr.cell? ⟨b7, 8, none⟩ = some (.slice A8 t.f8.length c8) := (blk_cell H7q.out 8).trans rfl
          have x7_9 : wr.cell? ⟨b7, 9, none⟩ = some (.slice A9 t.f9.length c9) := (blk_cell H7q.out 9).trans rfl
          have z8_2 : wr.cell? ⟨b8, 2, none⟩ = some (.int .i64 t.f2) := (blk_cell H8q.out 2).trans rfl
          have y8_2 := blk_frozen H8q.out 2
          have z8_3 : wr.cell? ⟨b8, 3, none⟩ = some (.slice A3 t.f3.length c3) := (blk_cell H8q.out 3).trans rfl
          have y8_3 := blk_frozen H8q.out 3
          have z8_4 : wr.cell? ⟨b8, 4, none⟩ = some (.slice A4 t.f4.length c4) := (blk_cell H8q.out 4).trans rfl
          have y8_4 := blk_frozen H8q.out 4
          have z8_5 : wr.cell? ⟨b8, 5, none⟩ = some (.int .i64 t.f5) := (blk_cell H8q.out 5).trans rfl
          have y8_5 := blk_frozen H8q.out 5
          have z8_6 : wr.cell? ⟨b8, 6, none⟩ = some (.int .i64 t.f6) := (blk_cell H8q.out 6).trans rfl
          have y8_6 := blk_frozen H8q.out 6
          have z8_7 : wr.cell? ⟨b8, 7, none⟩ = some (.int .i64 t.f7) := (blk_cell H8q.out 7).trans rfl
          have y8_7 := blk_frozen H8q.out 7
          have z8_8 : wr.cell? ⟨b8, 8, none⟩ = some (.slice A8 t.f8.length c8) := (blk_cell H8q.out 8).trans rfl
          have y8_8 := blk_frozen H8q.out 8
          have z8_9 : wr.cell? ⟨b8, 9, none⟩ = some (.slice A9 t.f9.length c9) := (blk_cell H8q.out 9).trans rfl
          have y8_9 := blk_frozen H8q.out 9
          have HF := Aside0.mk (show Fk L i t t.f3.length 0 ok from fun h h3 _ => ⟨fun h0 => absurd h0 HK3.out, fun _ => ⟨List.length_eq_zero_iff.1 h3, (HP.out (OR.out h)).1⟩⟩)
          cases ok with
          | false =>
            go_wp2
            repeat (go_quiet (fail); try go_wp2)
            go_meet
            case rel => exact ⟨false, t.f2, A3, t.f3.length, c3, none, 0, 0, t.f5, t.f6, t.f7, A8, t.f8.length, c8, A9, t.f9.length, c9, rfl, ⟨by simpa using (blk_set (H8q.out) 4 (.slice none 0 0))⟩, ⟨below_set (g := b8) (j := 4) (v := .slice none 0 0) (HBq.out) HZ.out⟩, HF, ⟨fun h_ => absurd h_ HN3.out⟩, ⟨⟨fun _ h_ => by omega, fun _ h_ => by omega⟩⟩⟩
          | true =>
            by_cases hkl : k < t.f4.length
            · have hd : decide ((k : Int) < (t.f4.length : Int)) = true := decide_eq_true (by omega)
              have qk : (0 : Int) ≤ (k : Int) := by omega
              have hin := (HP.out (OR.out rfl)).1 k hkl
              obtain ⟨a4, eA4, y0⟩ := Kd.at_int (Kd.C_below G4.out HBq.out) (k : Int) qk (by omega)
              subst eA4
              rw [Int.toNat_natCast] at y0
              generalize rd t.f4 (k : Int) = kk at *
              obtain ⟨_, _, _, _, _, _, _, _, _, eL, _, y1, _⟩ := at_T34 (Kd.C_below HA.out HBq.out) kk hin.1 (by omega)
              injection eL with eL
              subst eL
              have w1 : (0 ≤ kk) = True := eq_true hin.1
              have w2 : (kk < (L.length : Int)) = True := eq_true (by omega)
              have OR1 := OR.out rfl
              have HOR := Aside0.mk OR1
              clear OR1 hin HF
              generalize (rd_T34 L kk).f1 = sz at *
              go_wp2
              repeat (go_quiet (fail); try go_wp2)
              go_roundg (t.f4.length - (k + 1) + 1)
              case rel => exact ⟨k + 1, _, by omega, by omega, rfl, by go_num, ⟨fun _ => HOR.out⟩, ⟨pw_below_drewN BK.out _⟩⟩
              case measure => omega
            · have hd : decide ((k : Int) < (t.f4.length : Int)) = false := decide_eq_false (by omega)
              go_wp2
              repeat (go_quiet (fail); try go_wp2)
              go_meet
              case rel => exact ⟨true, t.f2, A3, t.f3.length, c3, none, 0, 0, t.f5, t.f6, t.f7, A8, t.f8.length, c8, A9, t.f9.length, c9, rfl, ⟨by simpa using (blk_set (H8q.out) 4 (.slice none 0 0))⟩, ⟨below_set (g := b8) (j := 4) (v := .slice none 0 0) (HBq.out) HZ.out⟩, HF, ⟨fun h_ => absurd h_ HN3.out⟩, ⟨⟨fun _ h_ => by omega, fun _ h_ => by omega⟩⟩⟩
    have hn4 := hk
    clear hk
    by_cases hk : t.f0 = 5
    · as_aux_lemma =>
        have k1 : (t.f0 == (1 : Int)) = false := beq_eq_false_iff_ne.2 (by omega)
        have k3 : (t.f0 == (3 : Int)) = false := beq_eq_false_iff_ne.2 (by omega)
        have k4 : (t.f0 == (4 : Int)) = false := beq_eq_false_iff_ne.2 (by omega)
        have k5 : (t.f0 == (5 : Int)) = true := beq_iff_eq.2 hk
        have x3_0 : W0.cell? ⟨b3, 0, none⟩ = some (.slice (some ad) L.length c) := (blk_cell H3.out 0).trans rfl
        have x7_0 : W0.cell? ⟨b7, 0, none⟩ = some (.int .i64 t.f0) := (blk_cell H7.out 0).trans rfl
        have x7_1 : W0.cell? ⟨b7, 1, none⟩ = some (.int .i64 t.f1) := (blk_cell H7.out 1).trans rfl
        have x7_2 : W0.cell? ⟨b7, 2, none⟩ = some (.int .i64 t.f2) := (blk_cell H7.out 2).trans rfl
        have x7_3 : W0.cell? ⟨b7, 3, none⟩ = some (.slice A3 t.f3.length c3) := (blk_cell H7.out 3).trans rfl
        have x7_4 : W0.cell? ⟨b7, 4, none⟩ = some (.slice A4 t.f4.length c4) := (blk_cell H7.out 4).trans rfl
        have x7_5 : W0.cell? ⟨b7, 5, none⟩ = some (.int .i64 t.f5) := (blk_cell H7.out 5).trans rfl
        have x7_6 : W0.cell? ⟨b7, 6, none⟩ = some (.int .i64 t.f6) := (blk_cell H7.out 6).trans rfl
        have x7_7 : W0.cell? ⟨b7, 7, none⟩ = some (.int .i64 t.f7) := (blk_cell H7.out 7).trans rfl
        have x7_8 : W0.cell? ⟨b7, 8, none⟩ = some (.slice A8 t.f8.length c8) := (blk_cell H7.out 8).trans rfl
        have x7_9 : W0.cell? ⟨b7, 9, none⟩ = some (.slice A9 t.f9.length c9) := (blk_cell H7.out 9).trans rfl
        have z8_2 : W0.cell? ⟨b8, 2, none⟩ = some (.int .i64 t.f2) := (blk_cell H8.out 2).trans rfl
        have y8_2 := blk_frozen H8.out 2
        have z8_3 : W0.cell? ⟨b8, 3, none⟩ = some (.slice A3 t.f3.length c3) := (blk_cell H8.out 3).trans rfl
        have y8_3 := blk_frozen H8.out 3
        have z8_4 : W0.cell? ⟨b8, 4, none⟩ = some (.slice A4 t.f4.length c4) := (blk_cell H8.out 4).trans rfl
        have y8_4 := blk_frozen H8.out 4
        have z8_5 : W0.cell? ⟨b8, 5, none⟩ = some (.int .i64 t.f5) := (blk_cell H8.out 5).trans rfl
        have y8_5 := blk_frozen H8.out 5
        have z8_6 : W0.cell? ⟨b8, 6, none⟩ = some (.int .i64 t.f6) := (blk_cell H8.out 6).trans rfl
        have y8_6 := blk_frozen H8.out 6
        have z8_7 : W0.cell? ⟨b8, 7, none⟩ = some (.int .i64 t.f7) := (blk_cell H8.out 7).trans rfl
        have y8_7 := blk_frozen H8.out 7
        have z8_8 : W0.cell? ⟨b8, 8, none⟩ = some (.slice A8 t.f8.length c8) := (blk_cell H8.out 8).trans rfl
        have y8_8 := blk_frozen H8.out 8
        have z8_9 : W0.cell? ⟨b8, 9, none⟩ = some (.slice A9 t.f9.length c9) := (blk_cell H8.out 9).trans rfl
        have y8_9 := blk_frozen H8.out 9
        obtain ⟨r, hr, hp⟩ := kids_some t.f0 t.f1 t.f2 t.f3 t.f4 t.f5 t.f6 t.f7 t.f8 t.f9 i 2 2 (by omega)
        have HP := Aside0.mk hp
        have HK := Aside0.mk (cofferdamref15_kids.calls 200000 t.f0 t.f1 t.f2 A3 c3 t.f3 A4 c4 t.f4 t.f5 t.f6 t.f7 A8 c8 t.f8 A9 c9 t.f9 i 2 2 r W0 (Kd.C_below G3.out HB0.out) l3 (Kd.C_below G4.out HB0.out) l4 (Kd.C_below G8.out HB0.out) l8 (Kd.C_below G9.out HB0.out) l9 hr)
        clear hr hp
        have hk3 : t.f0 ≠ 3 := by omega
        have HN3 := Aside0.mk hk3
        have HF := Aside0.mk (show ∀ b : Bool, (b = true → r = true) → Fk L i t t.f3.length 0 b from fun b hb h h3 _ => ⟨fun h0 => absurd h0 hk3, fun _ => ⟨List.length_eq_zero_iff.1 h3, (HP.out (hb h)).1⟩⟩)
        clear hk hk3
        go_upto_if 102 with (go_at_call 23; (with_reducible refine HK.out.mono ?_); rintro e w5 ⟨rfl, hb5⟩; have HB5 := Aside0.mk hb5; have H3' := Aside0.mk (blk_below H3.out hb5); have H7' := Aside0.mk (blk_below H7.out hb5); have H8' := Aside0.mk (blk_below H8.out hb5); have HB1 := Aside0.mk (HB0.out.trans (hb5.mono HB0.out.size)); clear hb5 x3_0 x7_0 x7_1 x7_2 x7_3 x7_4 x7_5 x7_6 x7_7 x7_8 x7_9 z8_2 z8_3 z8_4 z8_5 z8_6 z8_7 z8_8 z8_9 y8_2 y8_3 y8_4 y8_5 y8_6 y8_7 y8_8 y8_9; have x3_0 : w5.cell? ⟨b3, 0, none⟩ = some (.slice (some ad) L.length c) := (blk_cell H3'.out 0).trans rfl; have x7_0 : w5.cell? ⟨b7, 0, none⟩ = some (.int .i64 t.f0) := (blk_cell H7'.out 0).trans rfl; have x7_1 : w5.cell? ⟨b7, 1, none⟩ = some (.int .i64 t.f1) := (blk_cell H7'.out 1).trans rfl; have x7_2 : w5.cell? ⟨b7, 2, none⟩ = some (.int .i64 t.f2) := (blk_cell H7'.out 2).trans rfl; have x7_3 : w5.cell? ⟨b7, 3, none⟩ = some (.slice A3 t.f3.length c3) := (blk_cell H7'.out 3).trans rfl; have x7_4 : w5.cell? ⟨b7, 4, none⟩ = some (.slice A4 t.f4.length c4) := (blk_cell H7'.out 4).trans rfl; have x7_5 : w5.cell? ⟨b7, 5, none⟩ = some (.int .i64 t.f5) := (blk_cell H7'.out 5).trans rfl; have x7_6 : w5.cell? ⟨b7, 6, none⟩ = some (.int .i64 t.f6) := (blk_cell H7'.out 6).trans rfl; have x7_7 : w5.cell? ⟨b7, 7, none⟩ = some (.int .i64 t.f7) := (blk_cell H7'.out 7).trans rfl; have x7_8 : w5.cell? ⟨b7, 8, none⟩ = some (.slice A8 t.f8.length c8) := (blk_cell H7'.out 8).trans rfl; have x7_9 : w5.cell? ⟨b7, 9, none⟩ = some (.slice A9 t.f9.length c9) := (blk_cell H7'.out 9).trans rfl; have z8_2 : w5.cell? ⟨b8, 2, none⟩ = some (.int .i64 t.f2) := (blk_cell H8'.out 2).trans rfl; have y8_2 := blk_frozen H8'.out 2; have z8_3 : w5.cell? ⟨b8, 3, none⟩ = some (.slice A3 t.f3.length c3) := (blk_cell H8'.out 3).trans rfl; have y8_3 := blk_frozen H8'.out 3; have z8_4 : w5.cell? ⟨b8, 4, none⟩ = some (.slice A4 t.f4.length c4) := (blk_cell H8'.out 4).trans rfl; have y8_4 := blk_frozen H8'.out 4; have z8_5 : w5.cell? ⟨b8, 5, none⟩ = some (.int .i64 t.f5) := (blk_cell H8'.out 5).trans rfl; have y8_5 := blk_frozen H8'.out 5; have z8_6 : w5.cell? ⟨b8, 6, none⟩ = some (.int .i64 t.f6) := (blk_cell H8'.out 6).trans rfl; have y8_6 := blk_frozen H8'.out 6; have z8_7 : w5.cell? ⟨b8, 7, none⟩ = some (.int .i64 t.f7) := (blk_cell H8'.out 7).trans rfl; have y8_7 := blk_frozen H8'.out 7; have z8_8 : w5.cell? ⟨b8, 8, none⟩ = some (.slice A8 t.f8.length c8) := (blk_cell H8'.out 8).trans rfl; have y8_8 := blk_frozen H8'.out 8; have z8_9 : w5.cell? ⟨b8, 9, none⟩ = some (.slice A9 t.f9.length c9) := (blk_cell H8'.out 9).trans rfl; have y8_9 := blk_frozen H8'.out 9)
        cases r with
        | false =>
          go_wp2
          repeat (go_quiet (fail); try go_wp2)
          go_meet
          case rel => exact ⟨false, t.f2, A3, t.f3.length, c3, none, 0, 0, 0, 0, 0, A8, t.f8.length, c8, A9, t.f9.length, c9, rfl, ⟨by simpa using (blk_set (blk_set (blk_set (blk_set (H8'.out) 4 (.slice none 0 0)) 5 (.int .i64 0)) 6 (.int .i64 0)) 7 (.int .i64 0))⟩, ⟨below_set (g := b8) (j := 7) (v := .int .i64 0) (below_set (g := b8) (j := 6) (v := .int .i64 0) (below_set (g := b8) (j := 5) (v := .int .i64 0) (below_set (g := b8) (j := 4) (v := .slice none 0 0) (HB1.out) HZ.out) HZ.out) HZ.out) HZ.out⟩, ⟨HF.out _ (fun h => h)⟩, ⟨fun h_ => absurd h_ HN3.out⟩, ⟨⟨fun _ h_ => by omega, fun _ h_ => by omega⟩⟩⟩
        | true =>
          obtain ⟨hin, hlo, hhi⟩ := HP.out rfl
          have hl1 : t.f4.length = 2 := by omega
          have hin0 := hin 0 (by omega)
          obtain ⟨a4_0, eA4, y0⟩ := Kd.at_int (Kd.C_below G4.out HB1.out) 0 (by omega) (by omega)
          subst eA4
          rw [show ((0 : Nat) : Int) = 0 from rfl] at hin0
          rw [show (0 : Int).toNat = 0 from rfl, adz0] at y0
          have hin1 := hin 1 (by omega)
          obtain ⟨a4_1, eA4, y1⟩ := Kd.at_int (Kd.C_below G4.out HB1.out) 1 (by omega) (by omega)
          injection eA4 with eA4
          subst eA4
          rw [show ((1 : Nat) : Int) = 1 from rfl] at hin1
          rw [show (1 : Int).toNat = 1 from rfl] at y1
          have y1 : w5.cell? ⟨a4_0.block, a4_0.off + 1, none⟩ = some (.int .i64 (rd t.f4 1)) := by simpa [Addr.add] using y1
          generalize rd t.f4 0 = k0k at *
          obtain ⟨_, _, _, _, _, _, _, _, _, eL, _, z0, _⟩ := at_T34 (Kd.C_below HA.out HB1.out) k0k hin0.1 (by omega)
          injection eL with eL
          subst eL
          have w1_0 : (0 ≤ k0k) = True := eq_true hin0.1
          have w2_0 : (k0k < (L.length : Int)) = True := eq_true (by omega)
          generalize rd t.f4 1 = k1k at *
          obtain ⟨_, _, _, _, _, _, _, _, _, eL, _, z1, _⟩ := at_T34 (Kd.C_below HA.out HB1.out) k1k hin1.1 (by omega)
          injection eL with eL
          subst eL
          have w1_1 : (0 ≤ k1k) = True := eq_true hin1.1
          have w2_1 : (k1k < (L.length : Int)) = True := eq_true (by omega)
          have w3 : (0 < t.f4.length) = True := eq_true (by omega)
          have w4 : ((0 : Int) < (t.f4.length : Int)) = True := eq_true (by omega)
          have w5_ : (1 < t.f4.length) = True := eq_true (by omega)
          have w6 : ((1 : Int) < (t.f4.length : Int)) = True := eq_true (by omega)
          clear hin hin0 hin1 hl1 hlo hhi
          generalize (rd_T34 L k0k).f1 = s0z at *
          generalize (rd_T34 L k1k).f1 = s1z at *
          obtain ⟨⟨g1, g2⟩, hg⟩ := store_some s1z t.f1 t.f5
          have HG := Aside0.mk (fun W : World => cofferdamref12_Store.calls 30000 s1z t.f1 t.f5 g1 g2 W hg)
          clear hg
          go_upto_region 24 with (fail)
          go_quiet ((go_at_call 24; exact quiet_of (HG.out _)))
          go_upto_region 25 with (fail)
          by_cases v4 : s0z = t.f1
          · have v4b : (s0z == t.f1) = true := beq_iff_eq.2 v4
            clear v4
            by_cases v3 : g2 > 0
            · have v3b : decide (g2 > 0) = true := decide_eq_true v3
              have v3c : decide (0 < g2) = true := decide_eq_true v3
              clear v3
              by_cases v2 : t.f6 = g1
              · have v2b : (t.f6 == g1) = true := beq_iff_eq.2 v2
                clear v2
                by_cases v1 : t.f7 = g2
                · have v1b : (t.f7 == g2) = true := beq_iff_eq.2 v1
                  clear v1
                  go_wp2
                  repeat (go_quiet (fail); try go_wp2)
                  go_meet
                  case rel => exact ⟨true, t.f2, A3, t.f3.length, c3, none, 0, 0, 0, 0, 0, A8, t.f8.length, c8, A9, t.f9.length, c9, rfl, ⟨by simpa using (blk_set (blk_set (blk_set (blk_set (blk_drewN H8'.out _) 4 (.slice none 0 0)) 5 (.int .i64 0)) 6 (.int .i64 0)) 7 (.int .i64 0))⟩, ⟨below_set (g := b8) (j := 7) (v := .int .i64 0) (below_set (g := b8) (j := 6) (v := .int .i64 0) (below_set (g := b8) (j := 5) (v := .int .i64 0) (below_set (g := b8) (j := 4) (v := .slice none 0 0) (pw_below_drewN HB1.out _) HZ.out) HZ.out) HZ.out) HZ.out⟩, ⟨by first | exact HF.out _ (fun _ => rfl) | exact HF.out _ (fun _ => trivial) | exact HF.out _⟩, ⟨fun h_ => absurd h_ HN3.out⟩, ⟨⟨fun _ h_ => by omega, fun _ h_ => by omega⟩⟩⟩
                · have v1b : (t.f7 == g2) = false := beq_eq_false_iff_ne.2 v1
                  clear v1
                  go_wp2
                  repeat (go_quiet (fail); try go_wp2)
                  go_meet
                  case rel => exact ⟨false, t.f2, A3, t.f3.length, c3, none, 0, 0, 0, 0, 0, A8, t.f8.length, c8, A9, t.f9.length, c9, rfl, ⟨by simpa using (blk_set (blk_set (blk_set (blk_set (blk_drewN H8'.out _) 4 (.slice none 0 0)) 5 (.int .i64 0)) 6 (.int .i64 0)) 7 (.int .i64 0))⟩, ⟨below_set (g := b8) (j := 7) (v := .int .i64 0) (below_set (g := b8) (j := 6) (v := .int .i64 0) (below_set (g := b8) (j := 5) (v := .int .i64 0) (below_set (g := b8) (j := 4) (v := .slice none 0 0) (pw_below_drewN HB1.out _) HZ.out) HZ.out) HZ.out) HZ.out⟩, ⟨by first | exact HF.out _ (fun _ => rfl) | exact HF.out _ (fun _ => trivial) | exact HF.out _⟩, ⟨fun h_ => absurd h_ HN3.out⟩, ⟨⟨fun _ h_ => by omega, fun _ h_ => by omega⟩⟩⟩
              · have v2b : (t.f6 == g1) = false := beq_eq_false_iff_ne.2 v2
                clear v2
                go_wp2
                repeat (go_quiet (fail); try go_wp2)
                go_meet
                case rel => exact ⟨false, t.f2, A3, t.f3.length, c3, none, 0, 0, 0, 0, 0, A8, t.f8.length, c8, A9, t.f9.length, c9, rfl, ⟨by simpa using (blk_set (blk_set (blk_set (blk_set (blk_drewN H8'.out _) 4 (.slice none 0 0)) 5 (.int .i64 0)) 6 (.int .i64 0)) 7 (.int .i64 0))⟩, ⟨below_set (g := b8) (j := 7) (v := .int .i64 0) (below_set (g := b8) (j := 6) (v := .int .i64 0) (below_set (g := b8) (j := 5) (v := .int .i64 0) (below_set (g := b8) (j := 4) (v := .slice none 0 0) (pw_below_drewN HB1.out _) HZ.out) HZ.out) HZ.out) HZ.out⟩, ⟨by first | exact HF.out _ (fun _ => rfl) | exact HF.out _ (fun _ => trivial) | exact HF.out _⟩, ⟨fun h_ => absurd h_ HN3.out⟩, ⟨⟨fun _ h_ => by omega, fun _ h_ => by omega⟩⟩⟩
            · have v3b : decide (g2 > 0) = false := decide_eq_false v3
              have v3c : decide (0 < g2) = false := decide_eq_false v3
              clear v3
              go_wp2
              repeat (go_quiet (fail); try go_wp2)
              go_meet
              case rel => exact ⟨false, t.f2, A3, t.f3.length, c3, none, 0, 0, 0, 0, 0, A8, t.f8.length, c8, A9, t.f9.length, c9, rfl, ⟨by simpa using (blk_set (blk_set (blk_set (blk_set (blk_drewN H8'.out _) 4 (.slice none 0 0)) 5 (.int .i64 0)) 6 (.int .i64 0)) 7 (.int .i64 0))⟩, ⟨below_set (g := b8) (j := 7) (v := .int .i64 0) (below_set (g := b8) (j := 6) (v := .int .i64 0) (below_set (g := b8) (j := 5) (v := .int .i64 0) (below_set (g := b8) (j := 4) (v := .slice none 0 0) (pw_below_drewN HB1.out _) HZ.out) HZ.out) HZ.out) HZ.out⟩, ⟨by first | exact HF.out _ (fun _ => rfl) | exact HF.out _ (fun _ => trivial) | exact HF.out _⟩, ⟨fun h_ => absurd h_ HN3.out⟩, ⟨⟨fun _ h_ => by omega, fun _ h_ => by omega⟩⟩⟩
          · have v4b : (s0z == t.f1) = false := beq_eq_false_iff_ne.2 v4
            clear v4
            go_wp2
            repeat (go_quiet (fail); try go_wp2)
            go_meet
            case rel => exact ⟨false, t.f2, A3, t.f3.length, c3, none, 0, 0, 0, 0, 0, A8, t.f8.length, c8, A9, t.f9.length, c9, rfl, ⟨by simpa using (blk_set (blk_set (blk_set (blk_set (blk_drewN H8'.out _) 4 (.slice none 0 0)) 5 (.int .i64 0)) 6 (.int .i64 0)) 7 (.int .i64 0))⟩, ⟨below_set (g := b8) (j := 7) (v := .int .i64 0) (below_set (g := b8) (j := 6) (v := .int .i64 0) (below_set (g := b8) (j := 5) (v := .int .i64 0) (below_set (g := b8) (j := 4) (v := .slice none 0 0) (pw_below_drewN HB1.out _) HZ.out) HZ.out) HZ.out) HZ.out⟩, ⟨by first | exact HF.out _ (fun _ => rfl) | exact HF.out _ (fun _ => trivial) | exact HF.out _⟩, ⟨fun h_ => absurd h_ HN3.out⟩, ⟨⟨fun _ h_ => by omega, fun _ h_ => by omega⟩⟩⟩
    have hn5 := hk
    clear hk
    by_cases hk : t.f0 = 6
    · as_aux_lemma =>
        have k1 : (t.f0 == (1 : Int)) = false := beq_eq_false_iff_ne.2 (by omega)
        have k3 : (t.f0 == (3 : Int)) = false := beq_eq_false_iff_ne.2 (by omega)
        have k4 : (t.f0 == (4 : Int)) = false := beq_eq_false_iff_ne.2 (by omega)
        have k5 : (t.f0 == (5 : Int)) = false := beq_eq_false_iff_ne.2 (by omega)
        have k6 : (t.f0 == (6 : Int)) = true := beq_iff_eq.2 hk
        have x3_0 : W0.cell? ⟨b3, 0, none⟩ = some (.slice (some ad) L.length c) := (blk_cell H3.out 0).trans rfl
        have x7_0 : W0.cell? ⟨b7, 0, none⟩ = some (.int .i64 t.f0) := (blk_cell H7.out 0).trans rfl
        have x7_1 : W0.cell? ⟨b7, 1, none⟩ = some (.int .i64 t.f1) := (blk_cell H7.out 1).trans rfl
        have x7_2 : W0.cell? ⟨b7, 2, none⟩ = some (.int .i64 t.f2) := (blk_cell H7.out 2).trans rfl
        have x7_3 : W0.cell? ⟨b7, 3, none⟩ = some (.slice A3 t.f3.length c3) := (blk_cell H7.out 3).trans rfl
        have x7_4 : W0.cell? ⟨b7, 4, none⟩ = some (.slice A4 t.f4.length c4) := (blk_cell H7.out 4).trans rfl
        have x7_5 : W0.cell? ⟨b7, 5, none⟩ = some (.int .i64 t.f5) := (blk_cell H7.out 5).trans rfl
        have x7_6 : W0.cell? ⟨b7, 6, none⟩ = some (.int .i64 t.f6) := (blk_cell H7.out 6).trans rfl
        have x7_7 : W0.cell? ⟨b7, 7, none⟩ = some (.int .i64 t.f7) := (blk_cell H7.out 7).trans rfl
        have x7_8 : W0.cell? ⟨b7, 8, none⟩ = some (.slice A8 t.f8.length c8) := (blk_cell H7.out 8).trans rfl
        have x7_9 : W0.cell? ⟨b7, 9, none⟩ = some (.slice A9 t.f9.length c9) := (blk_cell H7.out 9).trans rfl
        have z8_2 : W0.cell? ⟨b8, 2, none⟩ = some (.int .i64 t.f2) := (blk_cell H8.out 2).trans rfl
        have y8_2 := blk_frozen H8.out 2
        have z8_3 : W0.cell? ⟨b8, 3, none⟩ = some (.slice A3 t.f3.length c3) := (blk_cell H8.out 3).trans rfl
        have y8_3 := blk_frozen H8.out 3
        have z8_4 : W0.cell? ⟨b8, 4, none⟩ = some (.slice A4 t.f4.length c4) := (blk_cell H8.out 4).trans rfl
        have y8_4 := blk_frozen H8.out 4
        have z8_5 : W0.cell? ⟨b8, 5, none⟩ = some (.int .i64 t.f5) := (blk_cell H8.out 5).trans rfl
        have y8_5 := blk_frozen H8.out 5
        have z8_6 : W0.cell? ⟨b8, 6, none⟩ = some (.int .i64 t.f6) := (blk_cell H8.out 6).trans rfl
        have y8_6 := blk_frozen H8.out 6
        have z8_7 : W0.cell? ⟨b8, 7, none⟩ = some (.int .i64 t.f7) := (blk_cell H8.out 7).trans rfl
        have y8_7 := blk_frozen H8.out 7
        have z8_8 : W0.cell? ⟨b8, 8, none⟩ = some (.slice A8 t.f8.length c8) := (blk_cell H8.out 8).trans rfl
        have y8_8 := blk_frozen H8.out 8
        have z8_9 : W0.cell? ⟨b8, 9, none⟩ = some (.slice A9 t.f9.length c9) := (blk_cell H8.out 9).trans rfl
        have y8_9 := blk_frozen H8.out 9
        obtain ⟨r, hr, hp⟩ := kids_some t.f0 t.f1 t.f2 t.f3 t.f4 t.f5 t.f6 t.f7 t.f8 t.f9 i 1 1 (by omega)
        have HP := Aside0.mk hp
        have HK := Aside0.mk (cofferdamref15_kids.calls 200000 t.f0 t.f1 t.f2 A3 c3 t.f3 A4 c4 t.f4 t.f5 t.f6 t.f7 A8 c8 t.f8 A9 c9 t.f9 i 1 1 r W0 (Kd.C_below G3.out HB0.out) l3 (Kd.C_below G4.out HB0.out) l4 (Kd.C_below G8.out HB0.out) l8 (Kd.C_below G9.out HB0.out) l9 hr)
        clear hr hp
        have hk3 : t.f0 ≠ 3 := by omega
        have HN3 := Aside0.mk hk3
        have HF := Aside0.mk (show ∀ b : Bool, (b = true → r = true) → Fk L i t t.f3.length 0 b from fun b hb h h3 _ => ⟨fun h0 => absurd h0 hk3, fun _ => ⟨List.length_eq_zero_iff.1 h3, (HP.out (hb h)).1⟩⟩)
        clear hk hk3
        go_upto_region 32 with (go_at_call 23; (with_reducible refine HK.out.mono ?_); rintro e w5 ⟨rfl, hb5⟩; have HB5 := Aside0.mk hb5; have H3' := Aside0.mk (blk_below H3.out hb5); have H7' := Aside0.mk (blk_below H7.out hb5); have H8' := Aside0.mk (blk_below H8.out hb5); have HB1 := Aside0.mk (HB0.out.trans (hb5.mono HB0.out.size)); clear hb5 x3_0 x7_0 x7_1 x7_2 x7_3 x7_4 x7_5 x7_6 x7_7 x7_8 x7_9 z8_2 z8_3 z8_4 z8_5 z8_6 z8_7 z8_8 z8_9 y8_2 y8_3 y8_4 y8_5 y8_6 y8_7 y8_8 y8_9; have x3_0 : w5.cell? ⟨b3, 0, none⟩ = some (.slice (some ad) L.length c) := (blk_cell H3'.out 0).trans rfl; have x7_0 : w5.cell? ⟨b7, 0, none⟩ = some (.int .i64 t.f0) := (blk_cell H7'.out 0).trans rfl; have x7_1 : w5.cell? ⟨b7, 1, none⟩ = some (.int .i64 t.f1) := (blk_cell H7'.out 1).trans rfl; have x7_2 : w5.cell? ⟨b7, 2, none⟩ = some (.int .i64 t.f2) := (blk_cell H7'.out 2).trans rfl; have x7_3 : w5.cell? ⟨b7, 3, none⟩ = some (.slice A3 t.f3.length c3) := (blk_cell H7'.out 3).trans rfl; have x7_4 : w5.cell? ⟨b7, 4, none⟩ = some (.slice A4 t.f4.length c4) := (blk_cell H7'.out 4).trans rfl; have x7_5 : w5.cell? ⟨b7, 5, none⟩ = some (.int .i64 t.f5) := (blk_cell H7'.out 5).trans rfl; have x7_6 : w5.cell? ⟨b7, 6, none⟩ = some (.int .i64 t.f6) := (blk_cell H7'.out 6).trans rfl; have x7_7 : w5.cell? ⟨b7, 7, none⟩ = some (.int .i64 t.f7) := (blk_cell H7'.out 7).trans rfl; have x7_8 : w5.cell? ⟨b7, 8, none⟩ = some (.slice A8 t.f8.length c8) := (blk_cell H7'.out 8).trans rfl; have x7_9 : w5.cell? ⟨b7, 9, none⟩ = some (.slice A9 t.f9.length c9) := (blk_cell H7'.out 9).trans rfl; have z8_2 : w5.cell? ⟨b8, 2, none⟩ = some (.int .i64 t.f2) := (blk_cell H8'.out 2).trans rfl; have y8_2 := blk_frozen H8'.out 2; have z8_3 : w5.cell? ⟨b8, 3, none⟩ = some (.slice A3 t.f3.length c3) := (blk_cell H8'.out 3).trans rfl; have y8_3 := blk_frozen H8'.out 3; have z8_4 : w5.cell? ⟨b8, 4, none⟩ = some (.slice A4 t.f4.length c4) := (blk_cell H8'.out 4).trans rfl; have y8_4 := blk_frozen H8'.out 4; have z8_5 : w5.cell? ⟨b8, 5, none⟩ = some (.int .i64 t.f5) := (blk_cell H8'.out 5).trans rfl; have y8_5 := blk_frozen H8'.out 5; have z8_6 : w5.cell? ⟨b8, 6, none⟩ = some (.int .i64 t.f6) := (blk_cell H8'.out 6).trans rfl; have y8_6 := blk_frozen H8'.out 6; have z8_7 : w5.cell? ⟨b8, 7, none⟩ = some (.int .i64 t.f7) := (blk_cell H8'.out 7).trans rfl; have y8_7 := blk_frozen H8'.out 7; have z8_8 : w5.cell? ⟨b8, 8, none⟩ = some (.slice A8 t.f8.length c8) := (blk_cell H8'.out 8).trans rfl; have y8_8 := blk_frozen H8'.out 8; have z8_9 : w5.cell? ⟨b8, 9, none⟩ = some (.slice A9 t.f9.length c9) := (blk_cell H8'.out 9).trans rfl; have y8_9 := blk_frozen H8'.out 9)
        cases r with
        | false =>
          go_wp2
          repeat (go_quiet (fail); try go_wp2)
          go_meet
          case rel => exact ⟨false, t.f2, A3, t.f3.length, c3, none, 0, 0, t.f5, t.f6, t.f7, none, 0, 0, A9, t.f9.length, c9, rfl, ⟨by simpa using (blk_set (blk_set (blk_drewN H8'.out _) 4 (.slice none 0 0)) 8 (.slice none 0 0))⟩, ⟨below_set (g := b8) (j := 8) (v := .slice none 0 0) (below_set (g := b8) (j := 4) (v := .slice none 0 0) (pw_below_drewN HB1.out _) HZ.out) HZ.out⟩, ⟨HF.out _ (fun h => h)⟩, ⟨fun h_ => absurd h_ HN3.out⟩, ⟨⟨fun h_ _ => absurd h_ Bool.false_ne_true, fun _ h_ => by omega⟩⟩⟩
        | true =>
          obtain ⟨hin, hlo, hhi⟩ := HP.out rfl
          have hl1 : t.f4.length = 1 := by omega
          have hin0 := hin 0 (by omega)
          obtain ⟨a4_0, eA4, y0⟩ := Kd.at_int (Kd.C_below G4.out HB1.out) 0 (by omega) (by omega)
          subst eA4
          rw [show ((0 : Nat) : Int) = 0 from rfl] at hin0
          rw [show (0 : Int).toNat = 0 from rfl, adz0] at y0
          generalize rd t.f4 0 = k0k at *
          obtain ⟨_, _, _, _, _, _, _, _, _, eL, _, z0, _⟩ := at_T34 (Kd.C_below HA.out HB1.out) k0k hin0.1 (by omega)
          injection eL with eL
          subst eL
          have w1_0 : (0 ≤ k0k) = True := eq_true hin0.1
          have w2_0 : (k0k < (L.length : Int)) = True := eq_true (by omega)
          have w3 : (0 < t.f4.length) = True := eq_true (by omega)
          have w4 : ((0 : Int) < (t.f4.length : Int)) = True := eq_true (by omega)
          clear hin hin0 hl1 hlo hhi
          generalize (rd_T34 L k0k).f1 = s0z at *
          by_cases v3 : s0z = t.f1
          · have v3b : (s0z == t.f1) = true := beq_iff_eq.2 v3
            clear v3
            by_cases v2 : t.f8.length = 32
            · have v2b : ((t.f8.length : Int) == 32) = true := by rw [v2]; rfl
              have v2c : (t.f8.length == 32) = true := by rw [v2]; rfl
              have v2d := Aside0.mk v2
              clear v2
              obtain ⟨ad8, rfl⟩ : ∃ ad8, A8 = some ad8 := (G8.out.2.2 (by have := v2d.out; omega)).imp fun _ h_ => h_.1
              have hv := v2d.out
              have u0 : ∀ m : Nat, (convert 32 9 (.slice (some ad8) 16 c8)).run Try.prog (w5.drewN m) = .ok (.string (strOfNums (t.f8.take 16))) (w5.drewN m) := fun m => by
                have h_ := Kd.C_string (P := Try.prog) (A := some ad8) (c := c8) Try.underlying32 Try.underlying5 Try.underlying9 (Kd.C_below (Kd.C_take G8.out (m := 16) (by omega)) (pw_below_drewN HB1.out m))
                rw [List.length_take, Nat.min_eq_left (by omega)] at h_
                exact h_
              have u1 : ∀ m : Nat, (convert 32 9 (.slice (some ⟨ad8.block, ad8.off + 16, none⟩) 16 (c8 - 16))).run Try.prog (w5.drewN m) = .ok (.string (strOfNums (t.f8.drop 16))) (w5.drewN m) := fun m => by
                have h_ := Kd.C_string (P := Try.prog) (c := c8 - 16) Try.underlying32 Try.underlying5 Try.underlying9 (Kd.C_below (Kd.C_drop G8.out (m := 16) (c := c8) (by omega) l8) (pw_below_drewN HB1.out m))
                rw [if_neg (by omega), List.length_drop, hv] at h_
                exact h_
              have u2 : (16 ≤ t.f8.length) = True := eq_true (by omega)
              have u3 : (16 ≤ c8) = True := eq_true (by omega)
              have u4 : (t.f8.length ≤ c8) = True := eq_true l8
              by_cases v9 : (strOfNums (t.f8.take 16)).toList = (strOfNums (t.f8.drop 16)).toList
              · have v9b : ((strOfNums (t.f8.take 16)).toList == (strOfNums (t.f8.drop 16)).toList) = true := beq_iff_eq.2 v9
                have v9c : ((strOfNums (t.f8.take 16)).toList != (strOfNums (t.f8.drop 16)).toList) = false := bne_eq_false_iff_eq.2 v9
                clear v9
                go_wp2
                repeat (go_quiet (fail); try go_wp2)
                go_meet
                case rel => exact ⟨false, t.f2, A3, t.f3.length, c3, none, 0, 0, t.f5, t.f6, t.f7, none, 0, 0, A9, t.f9.length, c9, rfl, ⟨by simpa using (blk_set (blk_set (blk_drewN H8'.out _) 4 (.slice none 0 0)) 8 (.slice none 0 0))⟩, ⟨below_set (g := b8) (j := 8) (v := .slice none 0 0) (below_set (g := b8) (j := 4) (v := .slice none 0 0) (pw_below_drewN HB1.out _) HZ.out) HZ.out⟩, ⟨by first | exact HF.out _ (fun _ => rfl) | exact HF.out _ (fun _ => trivial) | exact HF.out _⟩, ⟨fun h_ => absurd h_ HN3.out⟩, ⟨⟨fun h_ _ => absurd h_ Bool.false_ne_true, fun _ h_ => by omega⟩⟩⟩
              · have v9b : ((strOfNums (t.f8.take 16)).toList == (strOfNums (t.f8.drop 16)).toList) = false := beq_eq_false_iff_ne.2 v9
                have v9c : ((strOfNums (t.f8.take 16)).toList != (strOfNums (t.f8.drop 16)).toList) = true := bne_iff_ne.2 v9
                clear v9
                go_wp2
                repeat (go_quiet (fail); try go_wp2)
                go_meet
                case rel => exact ⟨true, t.f2, A3, t.f3.length, c3, none, 0, 0, t.f5, t.f6, t.f7, none, 0, 0, A9, t.f9.length, c9, rfl, ⟨by simpa using (blk_set (blk_set (blk_drewN H8'.out _) 4 (.slice none 0 0)) 8 (.slice none 0 0))⟩, ⟨below_set (g := b8) (j := 8) (v := .slice none 0 0) (below_set (g := b8) (j := 4) (v := .slice none 0 0) (pw_below_drewN HB1.out _) HZ.out) HZ.out⟩, ⟨by first | exact HF.out _ (fun _ => rfl) | exact HF.out _ (fun _ => trivial) | exact HF.out _⟩, ⟨fun h_ => absurd h_ HN3.out⟩, ⟨⟨fun _ _ => by have := v2d.out; omega, fun _ h_ => by omega⟩⟩⟩
            · have v2b : ((t.f8.length : Int) == 32) = false := beq_eq_false_iff_ne.2 (by omega)
              have v2c : (t.f8.length == 32) = false := beq_eq_false_iff_ne.2 v2
              clear v2
              go_wp2
              repeat (go_quiet (fail); try go_wp2)
              go_meet
              case rel => exact ⟨false, t.f2, A3, t.f3.length, c3, none, 0, 0, t.f5, t.f6, t.f7, none, 0, 0, A9, t.f9.length, c9, rfl, ⟨by simpa using (blk_set (blk_set (blk_drewN H8'.out _) 4 (.slice none 0 0)) 8 (.slice none 0 0))⟩, ⟨below_set (g := b8) (j := 8) (v := .slice none 0 0) (below_set (g := b8) (j := 4) (v := .slice none 0 0) (pw_below_drewN HB1.out _) HZ.out) HZ.out⟩, ⟨by first | exact HF.out _ (fun _ => rfl) | exact HF.out _ (fun _ => trivial) | exact HF.out _⟩, ⟨fun h_ => absurd h_ HN3.out⟩, ⟨⟨fun h_ _ => absurd h_ Bool.false_ne_true, fun _ h_ => by omega⟩⟩⟩
          · have v3b : (s0z == t.f1) = false := beq_eq_false_iff_ne.2 v3
            clear v3
            go_wp2
            repeat (go_quiet (fail); try go_wp2)
            go_meet
            case rel => exact ⟨false, t.f2, A3, t.f3.length, c3, none, 0, 0, t.f5, t.f6, t.f7, none, 0, 0, A9, t.f9.length, c9, rfl, ⟨by simpa using (blk_set (blk_set (blk_drewN H8'.out _) 4 (.slice none 0 0)) 8 (.slice none 0 0))⟩, ⟨below_set (g := b8) (j := 8) (v := .slice none 0 0) (below_set (g := b8) (j := 4) (v := .slice none 0 0) (pw_below_drewN HB1.out _) HZ.out) HZ.out⟩, ⟨by first | exact HF.out _ (fun _ => rfl) | exact HF.out _ (fun _ => trivial) | exact HF.out _⟩, ⟨fun h_ => absurd h_ HN3.out⟩, ⟨⟨fun h_ _ => absurd h_ Bool.false_ne_true, fun _ h_ => by omega⟩⟩⟩
    have hn6 := hk
    clear hk
    by_cases hk : t.f0 = 7
    · as_aux_lemma =>
        have k1 : (t.f0 == (1 : Int)) = false := beq_eq_false_iff_ne.2 (by omega)
        have k3 : (t.f0 == (3 : Int)) = false := beq_eq_false_iff_ne.2 (by omega)
        have k4 : (t.f0 == (4 : Int)) = false := beq_eq_false_iff_ne.2 (by omega)
        have k5 : (t.f0 == (5 : Int)) = false := beq_eq_false_iff_ne.2 (by omega)
        have k6 : (t.f0 == (6 : Int)) = false := beq_eq_false_iff_ne.2 (by omega)
        have k7 : (t.f0 == (7 : Int)) = true := beq_iff_eq.2 hk
        have x3_0 : W0.cell? ⟨b3, 0, none⟩ = some (.slice (some ad) L.length c) := (blk_cell H3.out 0).trans rfl
        have x7_0 : W0.cell? ⟨b7, 0, none⟩ = some (.int .i64 t.f0) := (blk_cell H7.out 0).trans rfl
        have x7_1 : W0.cell? ⟨b7, 1, none⟩ = some (.int .i64 t.f1) := (blk_cell H7.out 1).trans rfl
        have x7_2 : W0.cell? ⟨b7, 2, none⟩ = some (.int .i64 t.f2) := (blk_cell H7.out 2).trans rfl
        have x7_3 : W0.cell? ⟨b7, 3, none⟩ = some (.slice A3 t.f3.length c3) := (blk_cell H7.out 3).trans rfl
        have x7_4 : W0.cell? ⟨b7, 4, none⟩ = some (.slice A4 t.f4.length c4) := (blk_cell H7.out 4).trans rfl
        have x7_5 : W0.cell? ⟨b7, 5, none⟩ = some (.int .i64 t.f5) := (blk_cell H7.out 5).trans rfl
        have x7_6 : W0.cell? ⟨b7, 6, none⟩ = some (.int .i64 t.f6) := (blk_cell H7.out 6).trans rfl
        have x7_7 : W0.cell? ⟨b7, 7, none⟩ = some (.int .i64 t.f7) := (blk_cell H7.out 7).trans rfl
        have x7_8 : W0.cell? ⟨b7, 8, none⟩ = some (.slice A8 t.f8.length c8) := (blk_cell H7.out 8).trans rfl
        have x7_9 : W0.cell? ⟨b7, 9, none⟩ = some (.slice A9 t.f9.length c9) := (blk_cell H7.out 9).trans rfl
        have z8_2 : W0.cell? ⟨b8, 2, none⟩ = some (.int .i64 t.f2) := (blk_cell H8.out 2).trans rfl
        have y8_2 := blk_frozen H8.out 2
        have z8_3 : W0.cell? ⟨b8, 3, none⟩ = some (.slice A3 t.f3.length c3) := (blk_cell H8.out 3).trans rfl
        have y8_3 := blk_frozen H8.out 3
        have z8_4 : W0.cell? ⟨b8, 4, none⟩ = some (.slice A4 t.f4.length c4) := (blk_cell H8.out 4).trans rfl
        have y8_4 := blk_frozen H8.out 4
        have z8_5 : W0.cell? ⟨b8, 5, none⟩ = some (.int .i64 t.f5) := (blk_cell H8.out 5).trans rfl
        have y8_5 := blk_frozen H8.out 5
        have z8_6 : W0.cell? ⟨b8, 6, none⟩ = some (.int .i64 t.f6) := (blk_cell H8.out 6).trans rfl
        have y8_6 := blk_frozen H8.out 6
        have z8_7 : W0.cell? ⟨b8, 7, none⟩ = some (.int .i64 t.f7) := (blk_cell H8.out 7).trans rfl
        have y8_7 := blk_frozen H8.out 7
        have z8_8 : W0.cell? ⟨b8, 8, none⟩ = some (.slice A8 t.f8.length c8) := (blk_cell H8.out 8).trans rfl
        have y8_8 := blk_frozen H8.out 8
        have z8_9 : W0.cell? ⟨b8, 9, none⟩ = some (.slice A9 t.f9.length c9) := (blk_cell H8.out 9).trans rfl
        have y8_9 := blk_frozen H8.out 9
        obtain ⟨r, hr, hp⟩ := kids_some t.f0 t.f1 t.f2 t.f3 t.f4 t.f5 t.f6 t.f7 t.f8 t.f9 i 1 1 (by omega)
        have HP := Aside0.mk hp
        have HK := Aside0.mk (cofferdamref15_kids.calls 200000 t.f0 t.f1 t.f2 A3 c3 t.f3 A4 c4 t.f4 t.f5 t.f6 t.f7 A8 c8 t.f8 A9 c9 t.f9 i 1 1 r W0 (Kd.C_below G3.out HB0.out) l3 (Kd.C_below G4.out HB0.out) l4 (Kd.C_below G8.out HB0.out) l8 (Kd.C_below G9.out HB0.out) l9 hr)
        clear hr hp
        have hk3 : t.f0 ≠ 3 := by omega
        have HN3 := Aside0.mk hk3
        have HF := Aside0.mk (show ∀ b : Bool, (b = true → r = true) → Fk L i t t.f3.length 0 b from fun b hb h h3 _ => ⟨fun h0 => absurd h0 hk3, fun _ => ⟨List.length_eq_zero_iff.1 h3, (HP.out (hb h)).1⟩⟩)
        clear hk hk3
        go_upto_if 196 with (go_at_call 23; (with_reducible refine HK.out.mono ?_); rintro e w5 ⟨rfl, hb5⟩; have HB5 := Aside0.mk hb5; have H3' := Aside0.mk (blk_below H3.out hb5); have H7' := Aside0.mk (blk_below H7.out hb5); have H8' := Aside0.mk (blk_below H8.out hb5); have HB1 := Aside0.mk (HB0.out.trans (hb5.mono HB0.out.size)); clear hb5 x3_0 x7_0 x7_1 x7_2 x7_3 x7_4 x7_5 x7_6 x7_7 x7_8 x7_9 z8_2 z8_3 z8_4 z8_5 z8_6 z8_7 z8_8 z8_9 y8_2 y8_3 y8_4 y8_5 y8_6 y8_7 y8_8 y8_9; have x3_0 : w5.cell? ⟨b3, 0, none⟩ = some (.slice (some ad) L.length c) := (blk_cell H3'.out 0).trans rfl; have x7_0 : w5.cell? ⟨b7, 0, none⟩ = some (.int .i64 t.f0) := (blk_cell H7'.out 0).trans rfl; have x7_1 : w5.cell? ⟨b7, 1, none⟩ = some (.int .i64 t.f1) := (blk_cell H7'.out 1).trans rfl; have x7_2 : w5.cell? ⟨b7, 2, none⟩ = some (.int .i64 t.f2) := (blk_cell H7'.out 2).trans rfl; have x7_3 : w5.cell? ⟨b7, 3, none⟩ = some (.slice A3 t.f3.length c3) := (blk_cell H7'.out 3).trans rfl; have x7_4 : w5.cell? ⟨b7, 4, none⟩ = some (.slice A4 t.f4.length c4) := (blk_cell H7'.out 4).trans rfl; have x7_5 : w5.cell? ⟨b7, 5, none⟩ = some (.int .i64 t.f5) := (blk_cell H7'.out 5).trans rfl; have x7_6 : w5.cell? ⟨b7, 6, none⟩ = some (.int .i64 t.f6) := (blk_cell H7'.out 6).trans rfl; have x7_7 : w5.cell? ⟨b7, 7, none⟩ = some (.int .i64 t.f7) := (blk_cell H7'.out 7).trans rfl; have x7_8 : w5.cell? ⟨b7, 8, none⟩ = some (.slice A8 t.f8.length c8) := (blk_cell H7'.out 8).trans rfl; have x7_9 : w5.cell? ⟨b7, 9, none⟩ = some (.slice A9 t.f9.length c9) := (blk_cell H7'.out 9).trans rfl; have z8_2 : w5.cell? ⟨b8, 2, none⟩ = some (.int .i64 t.f2) := (blk_cell H8'.out 2).trans rfl; have y8_2 := blk_frozen H8'.out 2; have z8_3 : w5.cell? ⟨b8, 3, none⟩ = some (.slice A3 t.f3.length c3) := (blk_cell H8'.out 3).trans rfl; have y8_3 := blk_frozen H8'.out 3; have z8_4 : w5.cell? ⟨b8, 4, none⟩ = some (.slice A4 t.f4.length c4) := (blk_cell H8'.out 4).trans rfl; have y8_4 := blk_frozen H8'.out 4; have z8_5 : w5.cell? ⟨b8, 5, none⟩ = some (.int .i64 t.f5) := (blk_cell H8'.out 5).trans rfl; have y8_5 := blk_frozen H8'.out 5; have z8_6 : w5.cell? ⟨b8, 6, none⟩ = some (.int .i64 t.f6) := (blk_cell H8'.out 6).trans rfl; have y8_6 := blk_frozen H8'.out 6; have z8_7 : w5.cell? ⟨b8, 7, none⟩ = some (.int .i64 t.f7) := (blk_cell H8'.out 7).trans rfl; have y8_7 := blk_frozen H8'.out 7; have z8_8 : w5.cell? ⟨b8, 8, none⟩ = some (.slice A8 t.f8.length c8) := (blk_cell H8'.out 8).trans rfl; have y8_8 := blk_frozen H8'.out 8; have z8_9 : w5.cell? ⟨b8, 9, none⟩ = some (.slice A9 t.f9.length c9) := (blk_cell H8'.out 9).trans rfl; have y8_9 := blk_frozen H8'.out 9)
        cases r with
        | false =>
          go_wp2
          repeat (go_quiet (fail); try go_wp2)
          go_meet
          case rel => exact ⟨false, t.f2, A3, t.f3.length, c3, none, 0, 0, t.f5, t.f6, t.f7, none, 0, 0, A9, t.f9.length, c9, rfl, ⟨by simpa using (blk_set (blk_set (H8'.out) 4 (.slice none 0 0)) 8 (.slice none 0 0))⟩, ⟨below_set (g := b8) (j := 8) (v := .slice none 0 0) (below_set (g := b8) (j := 4) (v := .slice none 0 0) (HB1.out) HZ.out) HZ.out⟩, ⟨HF.out _ (fun h => h)⟩, ⟨fun h_ => absurd h_ HN3.out⟩, ⟨⟨fun h_ _ => absurd h_ Bool.false_ne_true, fun _ h_ => by omega⟩⟩⟩
        | true =>
          obtain ⟨hin, hlo, hhi⟩ := HP.out rfl
          have hl1 : t.f4.length = 1 := by omega
          have hin0 := hin 0 (by omega)
          obtain ⟨a4_0, eA4, y0⟩ := Kd.at_int (Kd.C_below G4.out HB1.out) 0 (by omega) (by omega)
          subst eA4
          rw [show ((0 : Nat) : Int) = 0 from rfl] at hin0
          rw [show (0 : Int).toNat = 0 from rfl, adz0] at y0
          generalize rd t.f4 0 = k0k at *
          obtain ⟨_, _, _, _, _, _, _, _, _, eL, _, z0, _⟩ := at_T34 (Kd.C_below HA.out HB1.out) k0k hin0.1 (by omega)
          injection eL with eL
          subst eL
          have w1_0 : (0 ≤ k0k) = True := eq_true hin0.1
          have w2_0 : (k0k < (L.length : Int)) = True := eq_true (by omega)
          have w3 : (0 < t.f4.length) = True := eq_true (by omega)
          have w4 : ((0 : Int) < (t.f4.length : Int)) = True := eq_true (by omega)
          clear hin hin0 hl1 hlo hhi
          generalize (rd_T34 L k0k).f1 = s0z at *
          obtain ⟨⟨g1, g2⟩, hg⟩ := integ_some s0z
          have HG := Aside0.mk (fun W : World => cofferdamref12_Integrity.calls 30000 s0z g1 g2 W hg)
          clear hg
          go_upto_region 38 with (fail)
          go_quiet ((go_at_call 25; exact quiet_of (HG.out _)))
          go_upto_region 39 with (fail)
          by_cases v2 : t.f1 = g1
          · have v2b : (t.f1 == g1) = true := beq_iff_eq.2 v2
            clear v2
            by_cases v1 : t.f8.length = 32
            · have v1b : ((t.f8.length : Int) == 32) = true := by rw [v1]; rfl
              have v1c : (t.f8.length == 32) = true := by rw [v1]; rfl
              have v1d := Aside0.mk v1
              clear v1
              go_wp2
              repeat (go_quiet (fail); try go_wp2)
              go_meet
              case rel => exact ⟨true, t.f2, A3, t.f3.length, c3, none, 0, 0, t.f5, t.f6, t.f7, none, 0, 0, A9, t.f9.length, c9, rfl, ⟨by simpa using (blk_set (blk_set (blk_drewN H8'.out _) 4 (.slice none 0 0)) 8 (.slice none 0 0))⟩, ⟨below_set (g := b8) (j := 8) (v := .slice none 0 0) (below_set (g := b8) (j := 4) (v := .slice none 0 0) (pw_below_drewN HB1.out _) HZ.out) HZ.out⟩, ⟨by first | exact HF.out _ (fun _ => rfl) | exact HF.out _ (fun _ => trivial) | exact HF.out _⟩, ⟨fun h_ => absurd h_ HN3.out⟩, ⟨⟨fun _ _ => by have := v1d.out; omega, fun _ h_ => by omega⟩⟩⟩
            · have v1b : ((t.f8.length : Int) == 32) = false := beq_eq_false_iff_ne.2 (by omega)
              have v1c : (t.f8.length == 32) = false := beq_eq_false_iff_ne.2 v1
              clear v1
              go_wp2
              repeat (go_quiet (fail); try go_wp2)
              go_meet
              case rel => exact ⟨false, t.f2, A3, t.f3.length, c3, none, 0, 0, t.f5, t.f6, t.f7, none, 0, 0, A9, t.f9.length, c9, rfl, ⟨by simpa using (blk_set (blk_set (blk_drewN H8'.out _) 4 (.slice none 0 0)) 8 (.slice none 0 0))⟩, ⟨below_set (g := b8) (j := 8) (v := .slice none 0 0) (below_set (g := b8) (j := 4) (v := .slice none 0 0) (pw_below_drewN HB1.out _) HZ.out) HZ.out⟩, ⟨by first | exact HF.out _ (fun _ => rfl) | exact HF.out _ (fun _ => trivial) | exact HF.out _⟩, ⟨fun h_ => absurd h_ HN3.out⟩, ⟨⟨fun h_ _ => absurd h_ Bool.false_ne_true, fun _ h_ => by omega⟩⟩⟩
          · have v2b : (t.f1 == g1) = false := beq_eq_false_iff_ne.2 v2
            clear v2
            go_wp2
            repeat (go_quiet (fail); try go_wp2)
            go_meet
            case rel => exact ⟨false, t.f2, A3, t.f3.length, c3, none, 0, 0, t.f5, t.f6, t.f7, none, 0, 0, A9, t.f9.length, c9, rfl, ⟨by simpa using (blk_set (blk_set (blk_drewN H8'.out _) 4 (.slice none 0 0)) 8 (.slice none 0 0))⟩, ⟨below_set (g := b8) (j := 8) (v := .slice none 0 0) (below_set (g := b8) (j := 4) (v := .slice none 0 0) (pw_below_drewN HB1.out _) HZ.out) HZ.out⟩, ⟨by first | exact HF.out _ (fun _ => rfl) | exact HF.out _ (fun _ => trivial) | exact HF.out _⟩, ⟨fun h_ => absurd h_ HN3.out⟩, ⟨⟨fun h_ _ => absurd h_ Bool.false_ne_true, fun _ h_ => by omega⟩⟩⟩
    have hn7 := hk
    clear hk
    by_cases hk : t.f0 = 8
    · as_aux_lemma =>
        have k1 : (t.f0 == (1 : Int)) = false := beq_eq_false_iff_ne.2 (by omega)
        have k3 : (t.f0 == (3 : Int)) = false := beq_eq_false_iff_ne.2 (by omega)
        have k4 : (t.f0 == (4 : Int)) = false := beq_eq_false_iff_ne.2 (by omega)
        have k5 : (t.f0 == (5 : Int)) = false := beq_eq_false_iff_ne.2 (by omega)
        have k6 : (t.f0 == (6 : Int)) = false := beq_eq_false_iff_ne.2 (by omega)
        have k7 : (t.f0 == (7 : Int)) = false := beq_eq_false_iff_ne.2 (by omega)
        have k8 : (t.f0 == (8 : Int)) = true := beq_iff_eq.2 hk
        have x3_0 : W0.cell? ⟨b3, 0, none⟩ = some (.slice (some ad) L.length c) := (blk_cell H3.out 0).trans rfl
        have x7_0 : W0.cell? ⟨b7, 0, none⟩ = some (.int .i64 t.f0) := (blk_cell H7.out 0).trans rfl
        have x7_1 : W0.cell? ⟨b7, 1, none⟩ = some (.int .i64 t.f1) := (blk_cell H7.out 1).trans rfl
        have x7_2 : W0.cell? ⟨b7, 2, none⟩ = some (.int .i64 t.f2) := (blk_cell H7.out 2).trans rfl
        have x7_3 : W0.cell? ⟨b7, 3, none⟩ = some (.slice A3 t.f3.length c3) := (blk_cell H7.out 3).trans rfl
        have x7_4 : W0.cell? ⟨b7, 4, none⟩ = some (.slice A4 t.f4.length c4) := (blk_cell H7.out 4).trans rfl
        have x7_5 : W0.cell? ⟨b7, 5, none⟩ = some (.int .i64 t.f5) := (blk_cell H7.out 5).trans rfl
        have x7_6 : W0.cell? ⟨b7, 6, none⟩ = some (.int .i64 t.f6) := (blk_cell H7.out 6).trans rfl
        have x7_7 : W0.cell? ⟨b7, 7, none⟩ = some (.int .i64 t.f7) := (blk_cell H7.out 7).trans rfl
        have x7_8 : W0.cell? ⟨b7, 8, none⟩ = some (.slice A8 t.f8.length c8) := (blk_cell H7.out 8).trans rfl
        have x7_9 : W0.cell? ⟨b7, 9, none⟩ = some (.slice A9 t.f9.length c9) := (blk_cell H7.out 9).trans rfl
        have z8_2 : W0.cell? ⟨b8, 2, none⟩ = some (.int .i64 t.f2) := (blk_cell H8.out 2).trans rfl
        have y8_2 := blk_frozen H8.out 2
        have z8_3 : W0.cell? ⟨b8, 3, none⟩ = some (.slice A3 t.f3.length c3) := (blk_cell H8.out 3).trans rfl
        have y8_3 := blk_frozen H8.out 3
        have z8_4 : W0.cell? ⟨b8, 4, none⟩ = some (.slice A4 t.f4.length c4) := (blk_cell H8.out 4).trans rfl
        have y8_4 := blk_frozen H8.out 4
        have z8_5 : W0.cell? ⟨b8, 5, none⟩ = some (.int .i64 t.f5) := (blk_cell H8.out 5).trans rfl
        have y8_5 := blk_frozen H8.out 5
        have z8_6 : W0.cell? ⟨b8, 6, none⟩ = some (.int .i64 t.f6) := (blk_cell H8.out 6).trans rfl
        have y8_6 := blk_frozen H8.out 6
        have z8_7 : W0.cell? ⟨b8, 7, none⟩ = some (.int .i64 t.f7) := (blk_cell H8.out 7).trans rfl
        have y8_7 := blk_frozen H8.out 7
        have z8_8 : W0.cell? ⟨b8, 8, none⟩ = some (.slice A8 t.f8.length c8) := (blk_cell H8.out 8).trans rfl
        have y8_8 := blk_frozen H8.out 8
        have z8_9 : W0.cell? ⟨b8, 9, none⟩ = some (.slice A9 t.f9.length c9) := (blk_cell H8.out 9).trans rfl
        have y8_9 := blk_frozen H8.out 9
        obtain ⟨r, hr, hp⟩ := kids_some t.f0 t.f1 t.f2 t.f3 t.f4 t.f5 t.f6 t.f7 t.f8 t.f9 i 1 1 (by omega)
        have HP := Aside0.mk hp
        have HK := Aside0.mk (cofferdamref15_kids.calls 200000 t.f0 t.f1 t.f2 A3 c3 t.f3 A4 c4 t.f4 t.f5 t.f6 t.f7 A8 c8 t.f8 A9 c9 t.f9 i 1 1 r W0 (Kd.C_below G3.out HB0.out) l3 (Kd.C_below G4.out HB0.out) l4 (Kd.C_below G8.out HB0.out) l8 (Kd.C_below G9.out HB0.out) l9 hr)
        clear hr hp
        have hk3 : t.f0 ≠ 3 := by omega
        have HN3 := Aside0.mk hk3
        have HF := Aside0.mk (show ∀ b : Bool, (b = true → r = true) → Fk L i t t.f3.length 0 b from fun b hb h h3 _ => ⟨fun h0 => absurd h0 hk3, fun _ => ⟨List.length_eq_zero_iff.1 h3, (HP.out (hb h)).1⟩⟩)
        clear hk hk3
        go_upto_if 227 with (go_at_call 23; (with_reducible refine HK.out.mono ?_); rintro e w5 ⟨rfl, hb5⟩; have HB5 := Aside0.mk hb5; have H3' := Aside0.mk (blk_below H3.out hb5); have H7' := Aside0.mk (blk_below H7.out hb5); have H8' := Aside0.mk (blk_below H8.out hb5); have HB1 := Aside0.mk (HB0.out.trans (hb5.mono HB0.out.size)); clear hb5 x3_0 x7_0 x7_1 x7_2 x7_3 x7_4 x7_5 x7_6 x7_7 x7_8 x7_9 z8_2 z8_3 z8_4 z8_5 z8_6 z8_7 z8_8 z8_9 y8_2 y8_3 y8_4 y8_5 y8_6 y8_7 y8_8 y8_9; have x3_0 : w5.cell? ⟨b3, 0, none⟩ = some (.slice (some ad) L.length c) := (blk_cell H3'.out 0).trans rfl; have x7_0 : w5.cell? ⟨b7, 0, none⟩ = some (.int .i64 t.f0) := (blk_cell H7'.out 0).trans rfl; have x7_1 : w5.cell? ⟨b7, 1, none⟩ = some (.int .i64 t.f1) := (blk_cell H7'.out 1).trans rfl; have x7_2 : w5.cell? ⟨b7, 2, none⟩ = some (.int .i64 t.f2) := (blk_cell H7'.out 2).trans rfl; have x7_3 : w5.cell? ⟨b7, 3, none⟩ = some (.slice A3 t.f3.length c3) := (blk_cell H7'.out 3).trans rfl; have x7_4 : w5.cell? ⟨b7, 4, none⟩ = some (.slice A4 t.f4.length c4) := (blk_cell H7'.out 4).trans rfl; have x7_5 : w5.cell? ⟨b7, 5, none⟩ = some (.int .i64 t.f5) := (blk_cell H7'.out 5).trans rfl; have x7_6 : w5.cell? ⟨b7, 6, none⟩ = some (.int .i64 t.f6) := (blk_cell H7'.out 6).trans rfl; have x7_7 : w5.cell? ⟨b7, 7, none⟩ = some (.int .i64 t.f7) := (blk_cell H7'.out 7).trans rfl; have x7_8 : w5.cell? ⟨b7, 8, none⟩ = some (.slice A8 t.f8.length c8) := (blk_cell H7'.out 8).trans rfl; have x7_9 : w5.cell? ⟨b7, 9, none⟩ = some (.slice A9 t.f9.length c9) := (blk_cell H7'.out 9).trans rfl; have z8_2 : w5.cell? ⟨b8, 2, none⟩ = some (.int .i64 t.f2) := (blk_cell H8'.out 2).trans rfl; have y8_2 := blk_frozen H8'.out 2; have z8_3 : w5.cell? ⟨b8, 3, none⟩ = some (.slice A3 t.f3.length c3) := (blk_cell H8'.out 3).trans rfl; have y8_3 := blk_frozen H8'.out 3; have z8_4 : w5.cell? ⟨b8, 4, none⟩ = some (.slice A4 t.f4.length c4) := (blk_cell H8'.out 4).trans rfl; have y8_4 := blk_frozen H8'.out 4; have z8_5 : w5.cell? ⟨b8, 5, none⟩ = some (.int .i64 t.f5) := (blk_cell H8'.out 5).trans rfl; have y8_5 := blk_frozen H8'.out 5; have z8_6 : w5.cell? ⟨b8, 6, none⟩ = some (.int .i64 t.f6) := (blk_cell H8'.out 6).trans rfl; have y8_6 := blk_frozen H8'.out 6; have z8_7 : w5.cell? ⟨b8, 7, none⟩ = some (.int .i64 t.f7) := (blk_cell H8'.out 7).trans rfl; have y8_7 := blk_frozen H8'.out 7; have z8_8 : w5.cell? ⟨b8, 8, none⟩ = some (.slice A8 t.f8.length c8) := (blk_cell H8'.out 8).trans rfl; have y8_8 := blk_frozen H8'.out 8; have z8_9 : w5.cell? ⟨b8, 9, none⟩ = some (.slice A9 t.f9.length c9) := (blk_cell H8'.out 9).trans rfl; have y8_9 := blk_frozen H8'.out 9)
        cases r with
        | false =>
          go_wp2
          repeat (go_quiet (fail); try go_wp2)
          go_meet
          case rel => exact ⟨false, t.f2, A3, t.f3.length, c3, none, 0, 0, t.f5, t.f6, t.f7, A8, t.f8.length, c8, none, 0, 0, rfl, ⟨by simpa using (blk_set (blk_set (H8'.out) 4 (.slice none 0 0)) 9 (.slice none 0 0))⟩, ⟨below_set (g := b8) (j := 9) (v := .slice none 0 0) (below_set (g := b8) (j := 4) (v := .slice none 0 0) (HB1.out) HZ.out) HZ.out⟩, ⟨HF.out _ (fun h => h)⟩, ⟨fun h_ => absurd h_ HN3.out⟩, ⟨⟨fun _ h_ => by omega, fun h_ _ => absurd h_ Bool.false_ne_true⟩⟩⟩
        | true =>
          obtain ⟨hin, hlo, hhi⟩ := HP.out rfl
          have hl1 : t.f4.length = 1 := by omega
          have hin0 := hin 0 (by omega)
          obtain ⟨a4_0, eA4, y0⟩ := Kd.at_int (Kd.C_below G4.out HB1.out) 0 (by omega) (by omega)
          subst eA4
          rw [show ((0 : Nat) : Int) = 0 from rfl] at hin0
          rw [show (0 : Int).toNat = 0 from rfl, adz0] at y0
          generalize rd t.f4 0 = k0k at *
          obtain ⟨_, _, _, _, _, _, _, _, _, eL, _, z0, _⟩ := at_T34 (Kd.C_below HA.out HB1.out) k0k hin0.1 (by omega)
          injection eL with eL
          subst eL
          have w1_0 : (0 ≤ k0k) = True := eq_true hin0.1
          have w2_0 : (k0k < (L.length : Int)) = True := eq_true (by omega)
          have w3 : (0 < t.f4.length) = True := eq_true (by omega)
          have w4 : ((0 : Int) < (t.f4.length : Int)) = True := eq_true (by omega)
          clear hin hin0 hl1 hlo hhi
          generalize (rd_T34 L k0k).f1 = s0z at *
          obtain ⟨⟨g1, g2⟩, hg⟩ := ver_some s0z
          have HG := Aside0.mk (fun W : World => cofferdamref12_Verity.calls 30000 s0z g1 g2 W hg)
          clear hg
          go_upto_region 45 with (fail)
          refine start_ (n := 15) (S := fun w' => w'.cell? ⟨b3, 0, none⟩ = some (.slice (some ad) L.length c) ∧ w'.cell? ⟨b7, 4, none⟩ = some (.slice (some a4_0) t.f4.length c4) ∧ w'.cell? a4_0 = some (.int .i64 k0k) ∧ w'.cell? ⟨(ad.add (k0k.toNat * 10)).block, (ad.add (k0k.toNat * 10)).off + 1, none⟩ = some (.int .i64 s0z)) (ds := []) #[false, false, false, false, false, false, false, false, false, false, false, false, false, false, false] (by kernel_rfl) rfl rfl ?hS (fun hHeld => ?_)
          case hS => exact ⟨x3_0, x7_4, y0, z0⟩
          refine pure_ (i := 0) (N := some 229) (v := ?_) (a' := ?_) #[true, false, false, false, false, false, false, false, false, false, false, false, false, false, false] rfl rfl (by kernel_rfl) (fun _ _ _ h => h) (Or.inl ⟨by rfl, ?_⟩) ?_ ?_
          rotate_left
          · intro w'
            go_simp
            with_reducible rfl
          rotate_left
          · simp only [Act.put, List.setIfInBounds_toArray, List.set_cons_zero, List.set_cons_succ, i64_w, i32_w]
            rfl
          refine pure_ (i := 2) (N := some 231) (v := ?_) (a' := ?_) #[true, false, true, false, false, false, false, false, false, false, false, false, false, false, false] rfl rfl (by kernel_rfl) (fun _ _ _ h => h) (Or.inl ⟨by rfl, ?_⟩) ?_ ?_
          rotate_left
          · intro w'
            go_simp
            with_reducible rfl
          rotate_left
          · simp only [Act.put, List.setIfInBounds_toArray, List.set_cons_zero, List.set_cons_succ, i64_w, i32_w]
            rfl
          refine take_ (i := 1) (N := some 230) (v := ?_) (a' := ?_) #[true, true, true, false, false, false, false, false, false, false, false, false, false, false, false] rfl rfl (by kernel_rfl) (fun _ _ _ h => h) (Or.inl ⟨by rfl, ?_⟩) hHeld ?_ ?_
          rotate_left
          · rintro w' ⟨s0, s1, s2, s3⟩
            go_simp
            with_reducible rfl
          rotate_left
          · simp only [Act.put, List.setIfInBounds_toArray, List.set_cons_zero, List.set_cons_succ, i64_w, i32_w]
            rfl
          refine take_ (i := 3) (N := some 232) (v := ?_) (a' := ?_) #[true, true, true, true, false, false, false, false, false, false, false, false, false, false, false] rfl rfl (by kernel_rfl) (fun _ _ _ h => h) (Or.inl ⟨by rfl, ?_⟩) hHeld ?_ ?_
          rotate_left
          · rintro w' ⟨s0, s1, s2, s3⟩
            go_simp
            with_reducible rfl
          rotate_left
          · simp only [Act.put, List.setIfInBounds_toArray, List.set_cons_zero, List.set_cons_succ, i64_w, i32_w]
            rfl
          refine pure_ (i := 4) (N := some 233) (v := ?_) (a' := ?_) #[true, true, true, true, true, false, false, false, false, false, false, false, false, false, false] rfl rfl (by kernel_rfl) (fun _ _ _ h => h) (Or.inl ⟨by rfl, ?_⟩) ?_ ?_
          rotate_left
          · intro w'
            go_simp
            with_reducible rfl
          rotate_left
          · simp only [Act.put, List.setIfInBounds_toArray, List.set_cons_zero, List.set_cons_succ, i64_w, i32_w]
            rfl
          refine take_ (i := 5) (N := some 234) (v := ?_) (a' := ?_) #[true, true, true, true, true, true, false, false, false, false, false, false, false, false, false] rfl rfl (by kernel_rfl) (fun _ _ _ h => h) (Or.inl ⟨by rfl, ?_⟩) hHeld ?_ ?_
          rotate_left
          · rintro w' ⟨s0, s1, s2, s3⟩
            go_simp
            with_reducible rfl
          rotate_left
          · simp only [Act.put, List.setIfInBounds_toArray, List.set_cons_zero, List.set_cons_succ, i64_w, i32_w]
            rfl
          refine pure_ (i := 6) (N := some 235) (v := ?_) (a' := ?_) #[true, true, true, true, true, true, true, false, false, false, false, false, false, false, false] rfl rfl (by kernel_rfl) (fun _ _ _ h => h) (Or.inl ⟨by rfl, ?_⟩) ?_ ?_
          rotate_left
          · intro w'
            go_simp
            with_reducible rfl
          rotate_left
          · simp only [Act.put, List.setIfInBounds_toArray, List.set_cons_zero, List.set_cons_succ, i64_w, i32_w]
            rfl
          refine pure_ (i := 7) (N := some 236) (v := ?_) (a' := ?_) #[true, true, true, true, true, true, true, true, false, false, false, false, false, false, false] rfl rfl (by kernel_rfl) (fun _ _ _ h => h) (Or.inl ⟨by rfl, ?_⟩) ?_ ?_
          rotate_left
          · intro w'
            go_simp
            with_reducible rfl
          rotate_left
          · simp only [Act.put, List.setIfInBounds_toArray, List.set_cons_zero, List.set_cons_succ, i64_w, i32_w]
            rfl
          refine take_ (i := 8) (N := some 237) (v := ?_) (a' := ?_) #[true, true, true, true, true, true, true, true, true, false, false, false, false, false, false] rfl rfl (by kernel_rfl) (fun _ _ _ h => h) (Or.inl ⟨by rfl, ?_⟩) hHeld ?_ ?_
          rotate_left
          · rintro w' ⟨s0, s1, s2, s3⟩
            go_simp
            with_reducible rfl
          rotate_left
          · simp only [Act.put, List.setIfInBounds_toArray, List.set_cons_zero, List.set_cons_succ, i64_w, i32_w]
            rfl
          refine one_ (i := 9) (N := some 238) #[true, true, true, true, true, true, true, true, true, true, false, false, false, false, false] rfl rfl (by kernel_rfl) (by decide) (fun K hK => ?_)
          refine goes_ Try.func26 (by kernel_rfl) rfl #[.int .i64 s0z] (by rfl) rfl rfl (by first | rfl | (simp [Act.eval]; done) | (go_simp; done)) ?_
          refine (HG.out _).mono ?_
          rintro e w6 ⟨rfl, hb6⟩
          have HB6 := Aside0.mk (show Below w5.heap.size w5 w6 from (below_drew (Below.refl _ _)).trans hb6)
          have ky := (HB6.out.cell (World.block_lt_of_cell? _ _ y0)).trans y0
          have kz := (HB6.out.cell (World.block_lt_of_cell? _ _ z0)).trans z0
          have H3q := Aside0.mk (blk_below H3'.out HB6.out)
          have H7q := Aside0.mk (blk_below H7'.out HB6.out)
          have H8q := Aside0.mk (blk_below H8'.out HB6.out)
          have HBq := Aside0.mk (HB1.out.trans (HB6.out.mono HB1.out.size))
          clear x3_0 x7_0 x7_1 x7_2 x7_3 x7_4 x7_5 x7_6 x7_7 x7_8 x7_9 z8_2 z8_3 z8_4 z8_5 z8_6 z8_7 z8_8 z8_9 y8_2 y8_3 y8_4 y8_5 y8_6 y8_7 y8_8 y8_9
          have x3_0 : w6.cell? ⟨b3, 0, none⟩ = some (.slice (some ad) L.length c) := (blk_cell H3q.out 0).trans rfl
          have x7_0 : w6.cell? ⟨b7, 0, none⟩ = some (.int .i64 t.f0) := (blk_cell H7q.out 0).trans rfl
          have x7_1 : w6.cell? ⟨b7, 1, none⟩ = some (.int .i64 t.f1) := (blk_cell H7q.out 1).trans rfl
          have x7_2 : w6.cell? ⟨b7, 2, none⟩ = some (.int .i64 t.f2) := (blk_cell H7q.out 2).trans rfl
          have x7_3 : w6.cell? ⟨b7, 3, none⟩ = some (.slice A3 t.f3.length c3) := (blk_cell H7q.out 3).trans rfl
          have x7_4 : w6.cell? ⟨b7, 4, none⟩ = some (.slice (some a4_0) t.f4.length c4) := (blk_cell H7q.out 4).trans rfl
          have x7_5 : w6.cell? ⟨b7, 5, none⟩ = some (.int .i64 t.f5) := (blk_cell H7q.out 5).trans rfl
          have x7_6 : w6.cell? ⟨b7, 6, none⟩ = some (.int .i64 t.f6) := (blk_cell H7q.out 6).trans rfl
          have x7_7 : w6.cell? ⟨b7, 7, none⟩ = some (.int .i64 t.f7) := (blk_cell H7q.out 7).trans rfl
          have x7_8 : w6.cell? ⟨b7, 8, none⟩ = some (.slice A8 t.f8.length c8) := (blk_cell H7q.out 8).trans rfl
          have x7_9 : w6.cell? ⟨b7, 9, none⟩ = some (.slice A9 t.f9.length c9) := (blk_cell H7q.out 9).trans rfl
          have z8_2 : w6.cell? ⟨b8, 2, none⟩ = some (.int .i64 t.f2) := (blk_cell H8q.out 2).trans rfl
          have y8_2 := blk_frozen H8q.out 2
          have z8_3 : w6.cell? ⟨b8, 3, none⟩ = some (.slice A3 t.f3.length c3) := (blk_cell H8q.out 3).trans rfl
          have y8_3 := blk_frozen H8q.out 3
          have z8_4 : w6.cell? ⟨b8, 4, none⟩ = some (.slice (some a4_0) t.f4.length c4) := (blk_cell H8q.out 4).trans rfl
          have y8_4 := blk_frozen H8q.out 4
          have z8_5 : w6.cell? ⟨b8, 5, none⟩ = some (.int .i64 t.f5) := (blk_cell H8q.out 5).trans rfl
          have y8_5 := blk_frozen H8q.out 5
          have z8_6 : w6.cell? ⟨b8, 6, none⟩ = some (.int .i64 t.f6) := (blk_cell H8q.out 6).trans rfl
          have y8_6 := blk_frozen H8q.out 6
          have z8_7 : w6.cell? ⟨b8, 7, none⟩ = some (.int .i64 t.f7) := (blk_cell H8q.out 7).trans rfl
          have y8_7 := blk_frozen H8q.out 7
          have z8_8 : w6.cell? ⟨b8, 8, none⟩ = some (.slice A8 t.f8.length c8) := (blk_cell H8q.out 8).trans rfl
          have y8_8 := blk_frozen H8q.out 8
          have z8_9 : w6.cell? ⟨b8, 9, none⟩ = some (.slice A9 t.f9.length c9) := (blk_cell H8q.out 9).trans rfl
          have y8_9 := blk_frozen H8q.out 9
          refine ⟨_, rfl, ?_⟩
          refine hK.out _ _ ⟨x3_0, x7_4, ky, kz⟩ (fun hHeld2 => ?_)
          clear hK K hHeld hHeld2 ky kz hb6 y0 z0
          refine norm_ (a' := ?_) ?_ ?_
          rotate_left
          · simp only [Act.put, List.setIfInBounds_toArray, List.set_cons_zero, List.set_cons_succ]
            rfl
          refine pure_ (i := 10) (N := some 228) (v := ?_) (a' := ?_) #[true, true, true, true, true, true, true, true, true, true, true, false, false, false, false] rfl rfl (by kernel_rfl) (fun _ _ _ h => h) (Or.inl ⟨by rfl, ?_⟩) ?_ ?_
          rotate_left
          · intro w'
            go_simp
            with_reducible rfl
          rotate_left
          · simp only [Act.put, List.setIfInBounds_toArray, List.set_cons_zero, List.set_cons_succ, i64_w, i32_w]
            rfl
          refine pure_ (i := 11) (N := some 239) (v := ?_) (a' := ?_) #[true, true, true, true, true, true, true, true, true, true, true, true, false, false, false] rfl rfl (by kernel_rfl) (fun _ _ _ h => h) (Or.inl ⟨by rfl, ?_⟩) ?_ ?_
          rotate_left
          · intro w'
            go_simp
            with_reducible rfl
          rotate_left
          · simp only [Act.put, List.setIfInBounds_toArray, List.set_cons_zero, List.set_cons_succ, i64_w, i32_w]
            rfl
          refine pure_ (i := 12) (N := some 240) (v := ?_) (a' := ?_) #[true, true, true, true, true, true, true, true, true, true, true, true, true, false, false] rfl rfl (by kernel_rfl) (fun _ _ _ h => h) (Or.inl ⟨by rfl, ?_⟩) ?_ ?_
          rotate_left
          · intro w'
            go_simp
            with_reducible rfl
          rotate_left
          · simp only [Act.put, List.setIfInBounds_toArray, List.set_cons_zero, List.set_cons_succ, i64_w, i32_w]
            rfl
          refine pure_ (i := 13) (N := some 15) (v := ?_) (a' := ?_) #[true, true, true, true, true, true, true, true, true, true, true, true, true, true, false] rfl rfl (by kernel_rfl) (fun _ _ _ h => h) (Or.inl ⟨by rfl, ?_⟩) ?_ ?_
          rotate_left
          · intro w'
            go_simp
            with_reducible rfl
          rotate_left
          · simp only [Act.put, List.setIfInBounds_toArray, List.set_cons_zero, List.set_cons_succ, i64_w, i32_w]
            rfl
          refine pure_ (i := 14) (N := some 16) (v := ?_) (a' := ?_) #[true, true, true, true, true, true, true, true, true, true, true, true, true, true, true] rfl rfl (by kernel_rfl) (fun _ _ _ h => h) (Or.inl ⟨by rfl, ?_⟩) ?_ ?_
          rotate_left
          · intro w'
            go_simp
            with_reducible rfl
          rotate_left
          · simp only [Act.put, List.setIfInBounds_toArray, List.set_cons_zero, List.set_cons_succ, i64_w, i32_w]
            rfl
          refine done_ (by kernel_rfl) ?_
          go_upto_region 46 with (fail)
          by_cases v2 : t.f1 = g1
          · have v2b : (t.f1 == g1) = true := beq_iff_eq.2 v2
            clear v2
            by_cases v1 : t.f9.length = 32
            · have v1b : ((t.f9.length : Int) == 32) = true := by rw [v1]; rfl
              have v1c : (t.f9.length == 32) = true := by rw [v1]; rfl
              have v1d := Aside0.mk v1
              clear v1
              go_wp2
              repeat (go_quiet (fail); try go_wp2)
              go_meet
              case rel => exact ⟨true, t.f2, A3, t.f3.length, c3, none, 0, 0, t.f5, t.f6, t.f7, A8, t.f8.length, c8, none, 0, 0, rfl, ⟨by simpa using (blk_set (blk_set (H8q.out) 4 (.slice none 0 0)) 9 (.slice none 0 0))⟩, ⟨below_set (g := b8) (j := 9) (v := .slice none 0 0) (below_set (g := b8) (j := 4) (v := .slice none 0 0) (HBq.out) HZ.out) HZ.out⟩, ⟨by first | exact HF.out _ (fun _ => rfl) | exact HF.out _ (fun _ => trivial) | exact HF.out _⟩, ⟨fun h_ => absurd h_ HN3.out⟩, ⟨⟨fun _ h_ => by omega, fun _ _ => by have := v1d.out; omega⟩⟩⟩
            · have v1b : ((t.f9.length : Int) == 32) = false := beq_eq_false_iff_ne.2 (by omega)
              have v1c : (t.f9.length == 32) = false := beq_eq_false_iff_ne.2 v1
              clear v1
              go_wp2
              repeat (go_quiet (fail); try go_wp2)
              go_meet
              case rel => exact ⟨false, t.f2, A3, t.f3.length, c3, none, 0, 0, t.f5, t.f6, t.f7, A8, t.f8.length, c8, none, 0, 0, rfl, ⟨by simpa using (blk_set (blk_set (H8q.out) 4 (.slice none 0 0)) 9 (.slice none 0 0))⟩, ⟨below_set (g := b8) (j := 9) (v := .slice none 0 0) (below_set (g := b8) (j := 4) (v := .slice none 0 0) (HBq.out) HZ.out) HZ.out⟩, ⟨by first | exact HF.out _ (fun _ => rfl) | exact HF.out _ (fun _ => trivial) | exact HF.out _⟩, ⟨fun h_ => absurd h_ HN3.out⟩, ⟨⟨fun _ h_ => by omega, fun h_ _ => absurd h_ Bool.false_ne_true⟩⟩⟩
          · have v2b : (t.f1 == g1) = false := beq_eq_false_iff_ne.2 v2
            clear v2
            go_wp2
            repeat (go_quiet (fail); try go_wp2)
            go_meet
            case rel => exact ⟨false, t.f2, A3, t.f3.length, c3, none, 0, 0, t.f5, t.f6, t.f7, A8, t.f8.length, c8, none, 0, 0, rfl, ⟨by simpa using (blk_set (blk_set (H8q.out) 4 (.slice none 0 0)) 9 (.slice none 0 0))⟩, ⟨below_set (g := b8) (j := 9) (v := .slice none 0 0) (below_set (g := b8) (j := 4) (v := .slice none 0 0) (HBq.out) HZ.out) HZ.out⟩, ⟨by first | exact HF.out _ (fun _ => rfl) | exact HF.out _ (fun _ => trivial) | exact HF.out _⟩, ⟨fun h_ => absurd h_ HN3.out⟩, ⟨⟨fun _ h_ => by omega, fun h_ _ => absurd h_ Bool.false_ne_true⟩⟩⟩
    have hn8 := hk
    clear hk
    have k1 : (t.f0 == (1 : Int)) = false := beq_eq_false_iff_ne.2 hn1
    have k3 : (t.f0 == (3 : Int)) = false := beq_eq_false_iff_ne.2 hn3
    have k4 : (t.f0 == (4 : Int)) = false := beq_eq_false_iff_ne.2 hn4
    have k5 : (t.f0 == (5 : Int)) = false := beq_eq_false_iff_ne.2 hn5
    have k6 : (t.f0 == (6 : Int)) = false := beq_eq_false_iff_ne.2 hn6
    have k7 : (t.f0 == (7 : Int)) = false := beq_eq_false_iff_ne.2 hn7
    have k8 : (t.f0 == (8 : Int)) = false := beq_eq_false_iff_ne.2 hn8
    have x3_0 : W0.cell? ⟨b3, 0, none⟩ = some (.slice (some ad) L.length c) := (blk_cell H3.out 0).trans rfl
    have x7_0 : W0.cell? ⟨b7, 0, none⟩ = some (.int .i64 t.f0) := (blk_cell H7.out 0).trans rfl
    have x7_1 : W0.cell? ⟨b7, 1, none⟩ = some (.int .i64 t.f1) := (blk_cell H7.out 1).trans rfl
    have x7_2 : W0.cell? ⟨b7, 2, none⟩ = some (.int .i64 t.f2) := (blk_cell H7.out 2).trans rfl
    have x7_3 : W0.cell? ⟨b7, 3, none⟩ = some (.slice A3 t.f3.length c3) := (blk_cell H7.out 3).trans rfl
    have x7_4 : W0.cell? ⟨b7, 4, none⟩ = some (.slice A4 t.f4.length c4) := (blk_cell H7.out 4).trans rfl
    have x7_5 : W0.cell? ⟨b7, 5, none⟩ = some (.int .i64 t.f5) := (blk_cell H7.out 5).trans rfl
    have x7_6 : W0.cell? ⟨b7, 6, none⟩ = some (.int .i64 t.f6) := (blk_cell H7.out 6).trans rfl
    have x7_7 : W0.cell? ⟨b7, 7, none⟩ = some (.int .i64 t.f7) := (blk_cell H7.out 7).trans rfl
    have x7_8 : W0.cell? ⟨b7, 8, none⟩ = some (.slice A8 t.f8.length c8) := (blk_cell H7.out 8).trans rfl
    have x7_9 : W0.cell? ⟨b7, 9, none⟩ = some (.slice A9 t.f9.length c9) := (blk_cell H7.out 9).trans rfl
    have z8_2 : W0.cell? ⟨b8, 2, none⟩ = some (.int .i64 t.f2) := (blk_cell H8.out 2).trans rfl
    have y8_2 := blk_frozen H8.out 2
    have z8_3 : W0.cell? ⟨b8, 3, none⟩ = some (.slice A3 t.f3.length c3) := (blk_cell H8.out 3).trans rfl
    have y8_3 := blk_frozen H8.out 3
    have z8_4 : W0.cell? ⟨b8, 4, none⟩ = some (.slice A4 t.f4.length c4) := (blk_cell H8.out 4).trans rfl
    have y8_4 := blk_frozen H8.out 4
    have z8_5 : W0.cell? ⟨b8, 5, none⟩ = some (.int .i64 t.f5) := (blk_cell H8.out 5).trans rfl
    have y8_5 := blk_frozen H8.out 5
    have z8_6 : W0.cell? ⟨b8, 6, none⟩ = some (.int .i64 t.f6) := (blk_cell H8.out 6).trans rfl
    have y8_6 := blk_frozen H8.out 6
    have z8_7 : W0.cell? ⟨b8, 7, none⟩ = some (.int .i64 t.f7) := (blk_cell H8.out 7).trans rfl
    have y8_7 := blk_frozen H8.out 7
    have z8_8 : W0.cell? ⟨b8, 8, none⟩ = some (.slice A8 t.f8.length c8) := (blk_cell H8.out 8).trans rfl
    have y8_8 := blk_frozen H8.out 8
    have z8_9 : W0.cell? ⟨b8, 9, none⟩ = some (.slice A9 t.f9.length c9) := (blk_cell H8.out 9).trans rfl
    have y8_9 := blk_frozen H8.out 9
    have HN3 := Aside0.mk hn3
    clear hn1 hn3 hn4 hn5 hn6 hn7 hn8
    go_wp2
    go_meet
    case rel => exact ⟨false, t.f2, A3, t.f3.length, c3, A4, t.f4.length, c4, t.f5, t.f6, t.f7, A8, t.f8.length, c8, A9, t.f9.length, c9, rfl, ⟨by simpa using (H8.out)⟩, ⟨HB0.out⟩, ⟨fun h => by cases h⟩, ⟨fun h_ => absurd h_ HN3.out⟩, ⟨⟨fun _ h_ => by omega, fun _ h_ => by omega⟩⟩⟩
  case rest =>
    clear H3 H7 H8 HB0
    obtain ⟨ok, q2, B3, m3, d3, B4, m4, d4, q5, q6, q7, B8, m8, d8, B9, m9, d9, rfl, H8, HBW, HF, HX, HY⟩ := hcut
    have z8_2 : wc.cell? ⟨b8, 2, none⟩ = some (.int .i64 q2) := (blk_cell H8.out 2).trans rfl
    have z8_3 : wc.cell? ⟨b8, 3, none⟩ = some (.slice B3 m3 d3) := (blk_cell H8.out 3).trans rfl
    have z8_4 : wc.cell? ⟨b8, 4, none⟩ = some (.slice B4 m4 d4) := (blk_cell H8.out 4).trans rfl
    have z8_5 : wc.cell? ⟨b8, 5, none⟩ = some (.int .i64 q5) := (blk_cell H8.out 5).trans rfl
    have z8_6 : wc.cell? ⟨b8, 6, none⟩ = some (.int .i64 q6) := (blk_cell H8.out 6).trans rfl
    have z8_7 : wc.cell? ⟨b8, 7, none⟩ = some (.int .i64 q7) := (blk_cell H8.out 7).trans rfl
    have z8_8 : wc.cell? ⟨b8, 8, none⟩ = some (.slice B8 m8 d8) := (blk_cell H8.out 8).trans rfl
    have z8_9 : wc.cell? ⟨b8, 9, none⟩ = some (.slice B9 m9 d9) := (blk_cell H8.out 9).trans rfl
    cases ok with
    | false =>
      as_aux_lemma =>
        go_wp2
        repeat (go_quiet (fail); try go_wp2)
        first | go_end0 | ((try simp only [Exit.inBlock, Exit.then]); refine bodyPost_ret (results_tmp rfl _ _ _) rfl ?_)
        exact ⟨.no rfl, HBW.out⟩
    | true =>
      as_aux_lemma =>
        by_cases v9 : q2 = 0
        · have v9b : (q2 == 0) = true := beq_iff_eq.2 v9
          have v9e := Aside0.mk v9
          clear v9
          by_cases v8 : ((m3 : Nat) : Int) = 0
          · have v8b : (((m3 : Nat) : Int) == 0) = true := beq_iff_eq.2 v8
            have v8e := Aside0.mk v8
            have v8c : (m3 == 0) = true := beq_iff_eq.2 (by omega)
            clear v8
            by_cases v7 : ((m4 : Nat) : Int) = 0
            · have v7b : (((m4 : Nat) : Int) == 0) = true := beq_iff_eq.2 v7
              have v7e := Aside0.mk v7
              have v7c : (m4 == 0) = true := beq_iff_eq.2 (by omega)
              clear v7
              by_cases v6 : q5 = 0
              · have v6b : (q5 == 0) = true := beq_iff_eq.2 v6
                have v6e := Aside0.mk v6
                clear v6
                by_cases v5 : q6 = 0
                · have v5b : (q6 == 0) = true := beq_iff_eq.2 v5
                  have v5e := Aside0.mk v5
                  clear v5
                  by_cases v4 : q7 = 0
                  · have v4b : (q7 == 0) = true := beq_iff_eq.2 v4
                    have v4e := Aside0.mk v4
                    clear v4
                    by_cases v3 : ((m8 : Nat) : Int) = 0
                    · have v3b : (((m8 : Nat) : Int) == 0) = true := beq_iff_eq.2 v3
                      have v3e := Aside0.mk v3
                      have v3c : (m8 == 0) = true := beq_iff_eq.2 (by omega)
                      clear v3
                      by_cases v2 : ((m9 : Nat) : Int) = 0
                      · have v2b : (((m9 : Nat) : Int) == 0) = true := beq_iff_eq.2 v2
                        have v2e := Aside0.mk v2
                        have v2c : (m9 == 0) = true := beq_iff_eq.2 (by omega)
                        clear v2
                        go_wp2
                        repeat (go_quiet (fail); try go_wp2)
                        first | go_end0 | ((try simp only [Exit.inBlock, Exit.then]); refine bodyPost_ret (results_tmp rfl _ _ _) rfl ?_)
                        exact ⟨⟨true, rfl, fun _ => Fk_St HT.out HS.out HF.out HX.out (by first | exact HY.out | exact ⟨fun _ => HY.out.1 trivial, fun _ => HY.out.2 trivial⟩ | exact ⟨fun _ => HY.out.1, fun _ => HY.out.2⟩) v9e.out v8e.out v7e.out v6e.out v5e.out v4e.out v3e.out v2e.out⟩, HBW.out⟩
                      · have v2b : (((m9 : Nat) : Int) == 0) = false := beq_eq_false_iff_ne.2 v2
                        have v2c : (m9 == 0) = false := beq_eq_false_iff_ne.2 (by omega)
                        clear v2
                        go_wp2
                        repeat (go_quiet (fail); try go_wp2)
                        first | go_end0 | ((try simp only [Exit.inBlock, Exit.then]); refine bodyPost_ret (results_tmp rfl _ _ _) rfl ?_)
                        exact ⟨.no rfl, HBW.out⟩
                    · have v3b : (((m8 : Nat) : Int) == 0) = false := beq_eq_false_iff_ne.2 v3
                      have v3c : (m8 == 0) = false := beq_eq_false_iff_ne.2 (by omega)
                      clear v3
                      go_wp2
                      repeat (go_quiet (fail); try go_wp2)
                      first | go_end0 | ((try simp only [Exit.inBlock, Exit.then]); refine bodyPost_ret (results_tmp rfl _ _ _) rfl ?_)
                      exact ⟨.no rfl, HBW.out⟩
                  · have v4b : (q7 == 0) = false := beq_eq_false_iff_ne.2 v4
                    clear v4
                    go_wp2
                    repeat (go_quiet (fail); try go_wp2)
                    first | go_end0 | ((try simp only [Exit.inBlock, Exit.then]); refine bodyPost_ret (results_tmp rfl _ _ _) rfl ?_)
                    exact ⟨.no rfl, HBW.out⟩
                · have v5b : (q6 == 0) = false := beq_eq_false_iff_ne.2 v5
                  clear v5
                  go_wp2
                  repeat (go_quiet (fail); try go_wp2)
                  first | go_end0 | ((try simp only [Exit.inBlock, Exit.then]); refine bodyPost_ret (results_tmp rfl _ _ _) rfl ?_)
                  exact ⟨.no rfl, HBW.out⟩
              · have v6b : (q5 == 0) = false := beq_eq_false_iff_ne.2 v6
                clear v6
                go_wp2
                repeat (go_quiet (fail); try go_wp2)
                first | go_end0 | ((try simp only [Exit.inBlock, Exit.then]); refine bodyPost_ret (results_tmp rfl _ _ _) rfl ?_)
                exact ⟨.no rfl, HBW.out⟩
            · have v7b : (((m4 : Nat) : Int) == 0) = false := beq_eq_false_iff_ne.2 v7
              have v7c : (m4 == 0) = false := beq_eq_false_iff_ne.2 (by omega)
              clear v7
              go_wp2
              repeat (go_quiet (fail); try go_wp2)
              first | go_end0 | ((try simp only [Exit.inBlock, Exit.then]); refine bodyPost_ret (results_tmp rfl _ _ _) rfl ?_)
              exact ⟨.no rfl, HBW.out⟩
          · have v8b : (((m3 : Nat) : Int) == 0) = false := beq_eq_false_iff_ne.2 v8
            have v8c : (m3 == 0) = false := beq_eq_false_iff_ne.2 (by omega)
            clear v8
            go_wp2
            repeat (go_quiet (fail); try go_wp2)
            first | go_end0 | ((try simp only [Exit.inBlock, Exit.then]); refine bodyPost_ret (results_tmp rfl _ _ _) rfl ?_)
            exact ⟨.no rfl, HBW.out⟩
        · have v9b : (q2 == 0) = false := beq_eq_false_iff_ne.2 v9
          clear v9
          go_wp2
          repeat (go_quiet (fail); try go_wp2)
          first | go_end0 | ((try simp only [Exit.inBlock, Exit.then]); refine bodyPost_ret (results_tmp rfl _ _ _) rfl ?_)
          exact ⟨.no rfl, HBW.out⟩
end Go.Proofs.Ytneglmnffdmbiaa.P
