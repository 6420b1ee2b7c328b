/- Proved here: of any plan that may be, of at most 60 steps of at most 60 extents, nothing is left to do on what it becomes, it has no more steps, and done again nothing changes. No condition. -/
import Derived.Test.YtneglmnffdmbiaaRows
import Derived.Test.YtneglmnffdmbiaaOptTi
import Derived.Test.YtneglmnffdmbiaaOptQ
import Derived.Test.YtneglmnffdmbiaaOptAlive
import Derived.Test.YtneglmnffdmbiaaOptSame
import Derived.Test.YtneglmnffdmbiaaOptOpen
import Derived.Test.YtneglmnffdmbiaaAgain
import Derived.WalkKit
import Derived.ProofKit
import Derived.OpenShut
import Derived.ShutString
import Derived.ChangeOld
import Derived.Below
import Derived.SizedLaws
namespace Go.Proofs.Ytneglmnffdmbiaa.P
open Go.RowKit Go.Proofs.YtneglmnffdmbiaaW.PrintWords Go.Proofs.YtneglmnffdmbiaaW.PrintLast Go.Proofs.YtneglmnffdmbiaaW.PrintMore
set_option linter.unusedVariables false
set_option linter.unusedSimpArgs false

set_option maxHeartbeats 64000000 in
set_option maxRecDepth 100000 in
theorem optTight_calls (A : Option Addr) (c : Nat) (L : List S34) (root : Int) (ro : Bool) (D : Option Addr) (cd : Nat) (dv : List Int) (w : World) (hA : Kd.C k34 w A L.length L) (hc : L.length ≤ c) (hD : Kd.C (Kd.int .i64) w D dv.length dv) (hcd : dv.length ≤ cd) (hdl : dv.length ≤ 9223372036854775807) :
    Calls Try.prog 4 #[.agg #[.slice A L.length c, .int .i64 root, .bool ro], .slice D dv.length cd] w fun e w' => e = .returned (.bool true) ∧ Below w.heap.size w w' := by
  have HA := Aside0.mk hA
  have HD := Aside0.mk hD
  clear hA hD
  go_enter Try.func4, Try.ntmps4
  go_upto_region 1 with (fail)
  have h3 := blk_new w (.cells #[.slice A L.length c, .int .i64 root, .bool ro] 24 (0, 0))
  have hb0 := below_alloc (Below.refl w.heap.size w) (.cells #[.slice A L.length c, .int .i64 root, .bool ro] 24 (0, 0))
  have H3 := Aside0.mk h3
  have HB0 := Aside0.mk hb0
  clear h3 hb0
  generalize w.alloc (.cells #[.slice A L.length c, .int .i64 root, .bool ro] 24 (0, 0)) = W0 at *
  obtain ⟨b3, hb3⟩ : ∃ b, b = w.heap.size := ⟨_, rfl⟩
  rw [← hb3] at H3 ⊢
  clear hb3
  have x0 : W0.cell? ⟨b3, 0, none⟩ = some (.slice A L.length c) := (blk_cell H3.out 0).trans rfl
  have x1 : W0.cell? ⟨b3, 1, none⟩ = some (.int .i64 root) := (blk_cell H3.out 1).trans rfl
  have x2 : W0.cell? ⟨b3, 2, none⟩ = some (.bool ro) := (blk_cell H3.out 2).trans rfl
  have HBD := Aside0.mk (bound_calls A c L root ro D cd dv W0 (Kd.C_below HA.out HB0.out) hc (Kd.C_below HD.out HB0.out) hcd hdl)
  go_upto_if 16 with (go_at_call 6; (with_reducible refine HBD.out.mono ?_); rintro e w5 ⟨⟨b, rfl, hb⟩, hb5⟩; have HB5 := Aside0.mk (HB0.out.trans (hb5.mono HB0.out.size)); have HBY := Aside0.mk hb; have H35 := Aside0.mk (blk_below H3.out hb5); clear hb hb5)
  clear x0 x1 x2
  cases b with
  | false =>
    go_wp2_with (go_at_call 7; (with_reducible refine (alive_calls _).mono ?_); rintro e w6 ⟨rfl, hb6⟩; have HB6 := Aside0.mk (HB5.out.trans (hb6.mono HB5.out.size)); clear hb6)
    first | go_end0 | ((try simp only [Exit.inBlock, Exit.then]); refine bodyPost_ret (results_tmp rfl _ _ _) rfl ?_)
    exact ⟨rfl, HB6.out⟩
  | true =>
    have hok : BdOk L root := HBY.out rfl
    have HOK := Aside0.mk hok
    have hl60 := hok.1
    have HPO := Aside0.mk (planOk (.of hok))
    obtain ⟨hq, hql⟩ := q_ok hok
    have HQ := Aside0.mk hq
    clear hok HBD hq
    have x0 : w5.cell? ⟨b3, 0, none⟩ = some (.slice A L.length c) := (blk_cell H35.out 0).trans rfl
    have x1 : w5.cell? ⟨b3, 1, none⟩ = some (.int .i64 root) := (blk_cell H35.out 1).trans rfl
    have x2 : w5.cell? ⟨b3, 2, none⟩ = some (.bool ro) := (blk_cell H35.out 2).trans rfl
    have HCP := Aside0.mk (fun (W : World) (hW : Kd.C k34 W A L.length L) => cofferdamlaw16_copied.calls 2000 A c L root ro L root ro W hW hc (copied_same L root ro (.of HOK.out)))
    have HOP := Aside0.mk (fun (A8 : Option Addr) (c8 : Nat) (W : World) (hW : Kd.C k34 W A8 L.length L) (h8 : L.length ≤ c8) => optimize_calls A8 c8 L root ro W hW h8 HPO.out)
    generalize optL L root = q at *
    generalize optR L root = qr at *
    go_upto_region 5 with (first | (go_at_call 8; (with_reducible refine (HCP.out _ (Kd.C_below HA.out HB5.out)).mono ?_); rintro e w6 ⟨v0, rfl, hS, hb6⟩; obtain ⟨Av, cv, rfl, hlv, hCv⟩ := Kd.N_reads (Kd.S_N hS); have HCv := Aside0.mk hCv; have HB6 := Aside0.mk (HB5.out.trans (hb6.mono HB5.out.size)); have H36 := Aside0.mk (blk_below H35.out hb6); clear hS hb6 hCv x0 x1 x2) | (go_at_call 9; (with_reducible refine (HOP.out _ _ _ HCv.out hlv).mono ?_); rintro e w7 ⟨v7, rfl, ⟨A7, c7, rfl, hl7, hC7⟩, hb7⟩; have HC7' := Aside0.mk hC7; have HB7 := Aside0.mk (HB6.out.trans (hb7.mono HB6.out.size)); have H37 := Aside0.mk (blk_below H36.out hb7); clear hb7 hC7))
    have ha := below_alloc (Below.refl w7.heap.size w7) (.cells #[.slice A7 q.length c7, .int .i64 qr, .bool ro] 24 (0, 0))
    have H6 := Aside0.mk (blk_new w7 (.cells #[.slice A7 q.length c7, .int .i64 qr, .bool ro] 24 (0, 0)))
    have H38 := Aside0.mk (blk_below H37.out ha)
    have HC7 := Aside0.mk (Kd.C_below HC7'.out ha)
    have HB8 := Aside0.mk (HB7.out.trans (ha.mono HB7.out.size))
    clear ha
    generalize w7.alloc (.cells #[.slice A7 q.length c7, .int .i64 qr, .bool ro] 24 (0, 0)) = W8 at *
    obtain ⟨b6, hb6⟩ : ∃ b, b = w7.heap.size := ⟨_, rfl⟩
    rw [← hb6] at H6 ⊢
    clear hb6
    have z0 : W8.cell? ⟨b6, 0, none⟩ = some (.slice A7 q.length c7) := (blk_cell H6.out 0).trans rfl
    have z1 : W8.cell? ⟨b6, 1, none⟩ = some (.int .i64 qr) := (blk_cell H6.out 1).trans rfl
    have z2 : W8.cell? ⟨b6, 2, none⟩ = some (.bool ro) := (blk_cell H6.out 2).trans rfl
    have y0 : W8.cell? ⟨b3, 0, none⟩ = some (.slice A L.length c) := (blk_cell H38.out 0).trans rfl
    obtain ⟨qn0, qn1, qr0, qr1⟩ := (show 1 ≤ q.length ∧ q.length ≤ 1000 ∧ 0 ≤ qr ∧ qr < (q.length : Int) from ⟨HQ.out.n0, HQ.out.n1, HQ.out.r0, HQ.out.r1⟩)
    have d1 : ((q.length : Int) == 0) = false := beq_eq_false_iff_ne.2 (by omega)
    have d1' : (q.length == 0) = false := beq_eq_false_iff_ne.2 (by omega)
    have d2 : decide ((q.length : Int) > (L.length : Int)) = false := decide_eq_false (by omega)
    have d2' : decide ((L.length : Int) < (q.length : Int)) = false := decide_eq_false (by omega)
    have d2'' : decide (L.length < q.length) = false := decide_eq_false (by omega)
    have d3 : decide (qr < 0) = false := decide_eq_false (by omega)
    have d4 : decide (qr ≥ (q.length : Int)) = false := decide_eq_false (by omega)
    have d4' : decide ((q.length : Int) ≤ qr) = false := decide_eq_false (by omega)
    go_upto_block 0 with (fail)
    clear d1 d1' d2 d2' d2'' d3 d4 d4' y0 z0 z1 z2
    go_wp2_with (fail)
    go_loopg [7] (q.length + 1) (fun kx v7 wr => ∃ i : Nat, i ≤ q.length ∧ q.length - i + 1 ≤ kx ∧ v7 = .int .i64 i ∧ Aside0 (Below W8.heap.size W8 wr))
    case atStart => exact ⟨0, Nat.zero_le _, by omega, rfl, ⟨Below.refl _ _⟩⟩
    case round =>
      obtain ⟨i, hi, hg, rfl, BW⟩ := hrel
      have z0 : wr.cell? ⟨b6, 0, none⟩ = some (.slice A7 q.length c7) := (blk_cell (blk_below H6.out BW.out) 0).trans rfl
      by_cases hlt : i < q.length
      · have e1 : decide ((i : Int) < (q.length : Int)) = true := decide_eq_true (by omega)
        have q3 : (0 : Int) ≤ (i : Int) := by omega
        have HGI := Aside0.mk (HQ.out.g (i : Int) q3 (by omega))
        have HK4 := Aside0.mk (show ∀ j : Nat, j < (rd_T34 q (i : Int)).f4.length → 0 ≤ rd (rd_T34 q (i : Int)).f4 (j : Int) ∧ rd (rd_T34 q (i : Int)).f4 (j : Int) < (i : Int) from fun j hj => HQ.out.g.down (i : Int) q3 (by omega) _ (.inl ⟨j, hj, rfl⟩))
        have HK3 := Aside0.mk (show ∀ j : Nat, j < (rd_T34 q (i : Int)).f3.length → 0 ≤ (rd_T36 (rd_T34 q (i : Int)).f3 (j : Int)).f2 ∧ (rd_T36 (rd_T34 q (i : Int)).f3 (j : Int)).f2 < (i : Int) from fun j hj => HQ.out.g.down (i : Int) q3 (by omega) _ (.inr ⟨j, hj, rfl⟩))
        have n4 := HGI.out.l4
        have n3 := HQ.out.g.l3 (i : Int)
        obtain ⟨ad, A3, c3, A4, c4, A8, c8, A9, c9, rfl, f0, f1, f2, f3, f4, f5, f6, f7, f8, f9, l3, g3, l4, g4, l8, g8, l9, g9⟩ := at_T34 HC7.out (i : Int) q3 (by omega)
        rw [Int.toNat_natCast] at f3 f4
        generalize rd_T34 q (i : Int) = t at *
        have G3 := Aside0.mk g3
        have G4 := Aside0.mk g4
        have F3 := Aside0.mk f3
        have F4 := Aside0.mk f4
        clear f0 f1 f2 f3 f4 f5 f6 f7 f8 f9 l3 g3 l4 g4 l8 g8 l9 g9 HGI
        go_wp2
        go_loopg [8] (t.f4.length + 1) (fun kx v8 wr => ∃ k : Nat, k ≤ t.f4.length ∧ t.f4.length - k + 1 ≤ kx ∧ v8 = .int .i64 k ∧ Aside0 (Below W8.heap.size W8 wr))
        case atStart => exact ⟨0, Nat.zero_le _, by omega, rfl, BW⟩
        case round =>
          clear BW z0 e1
          obtain ⟨k, hk, hgk, rfl, BK⟩ := hrel
          have z0 : wr.cell? ⟨b6, 0, none⟩ = some (.slice (some ad) q.length c7) := (blk_cell (blk_below H6.out BK.out) 0).trans rfl
          have f4 := (BK.out.cell (World.block_lt_of_cell? _ _ F4.out)).trans F4.out
          by_cases hkl : k < t.f4.length
          · have e2 : decide ((k : Int) < (t.f4.length : Int)) = true := decide_eq_true (by omega)
            have qk : (0 : Int) ≤ (k : Int) := by omega
            obtain ⟨a4, rfl, y0⟩ := Kd.at_int (Kd.C_below G4.out BK.out) (k : Int) qk (by omega)
            rw [Int.toNat_natCast] at y0
            obtain ⟨h0, h1⟩ := HK4.out k hkl
            generalize rd t.f4 (k : Int) = kk at *
            have d5 : decide (kk < 0) = false := decide_eq_false (by omega)
            have d6 : decide (kk ≥ (i : Int)) = false := decide_eq_false (by omega)
            have d6' : decide ((i : Int) ≤ kk) = false := decide_eq_false (by omega)
            clear h0 h1
            go_wp2
            repeat (go_quiet (fail); try go_wp2)
            go_roundg (t.f4.length - (k + 1) + 1)
            case rel => exact ⟨k + 1, by omega, by omega, by go_num, ⟨by first | exact BK.out | exact pw_below_drewN BK.out _⟩⟩
            case measure => omega
          · have e2 : decide ((k : Int) < (t.f4.length : Int)) = false := decide_eq_false (by omega)
            obtain rfl : k = t.f4.length := by omega
            obtain ⟨W9, hW9⟩ : ∃ W9, W9 = wr := ⟨_, rfl⟩
            subst hW9
            go_wp2
            go_loopg [9] (t.f3.length + 1) (fun kx v9 wr => ∃ k : Nat, k ≤ t.f3.length ∧ t.f3.length - k + 1 ≤ kx ∧ v9 = .int .i64 k ∧ Aside0 (Below W8.heap.size W8 wr))
            case atStart => exact ⟨0, Nat.zero_le _, by omega, rfl, BK⟩
            case round =>
              clear BK z0 f4 e2
              obtain ⟨k, hk, hgk, rfl, BK⟩ := hrel
              have z0 : wr.cell? ⟨b6, 0, none⟩ = some (.slice (some ad) q.length c7) := (blk_cell (blk_below H6.out BK.out) 0).trans rfl
              have f3 := (BK.out.cell (World.block_lt_of_cell? _ _ F3.out)).trans F3.out
              by_cases hkl : k < t.f3.length
              · have e2 : decide ((k : Int) < (t.f3.length : Int)) = true := decide_eq_true (by omega)
                have qk : (0 : Int) ≤ (k : Int) := by omega
                obtain ⟨a3, rfl, y0, y1, y2, y3⟩ := at_T36 (Kd.C_below G3.out BK.out) (k : Int) qk (by omega)
                rw [Int.toNat_natCast] at y2
                clear y0 y1 y3
                obtain ⟨h0, h1⟩ := HK3.out k hkl
                generalize (rd_T36 t.f3 (k : Int)).f2 = kk at *
                have d5 : decide (kk < 0) = false := decide_eq_false (by omega)
                have d6 : decide (kk ≥ (i : Int)) = false := decide_eq_false (by omega)
                have d6' : decide ((i : Int) ≤ kk) = false := decide_eq_false (by omega)
                clear h0 h1
                go_wp2
                repeat (go_quiet (fail); try go_wp2)
                go_roundg (t.f3.length - (k + 1) + 1)
                case rel => exact ⟨k + 1, by omega, by omega, by go_num, ⟨by first | exact BK.out | exact pw_below_drewN BK.out _⟩⟩
                case measure => omega
              · have e2 : decide ((k : Int) < (t.f3.length : Int)) = false := decide_eq_false (by omega)
                obtain rfl : k = t.f3.length := by omega
                go_wp2
                go_roundg (q.length - (i + 1) + 1)
                case rel => exact ⟨i + 1, by omega, by omega, by go_num, BK⟩
                case measure => omega
      · have e1 : decide ((i : Int) < (q.length : Int)) = false := decide_eq_false (by omega)
        obtain rfl : i = q.length := by omega
        obtain ⟨W9, hW9⟩ : ∃ W9, W9 = wr := ⟨_, rfl⟩
        subst hW9
        have z1 : W9.cell? ⟨b6, 1, none⟩ = some (.int .i64 qr) := (blk_cell (blk_below H6.out BW.out) 1).trans rfl
        have z2 : W9.cell? ⟨b6, 2, none⟩ = some (.bool ro) := (blk_cell (blk_below H6.out BW.out) 2).trans rfl
        have HTI := Aside0.mk (tight_calls A7 c7 q qr ro W9 (Kd.C_below HC7.out BW.out) hl7 qn0 qn1 HQ.out.g HQ.out.f HQ.out.p)
        go_upto_region 21 with (go_at_call 12; (with_reducible refine HTI.out.mono ?_); rintro e w10 ⟨rfl, hb10⟩; have BWT := Aside0.mk (BW.out.trans (hb10.mono BW.out.size)); clear hb10)
        have H6_w10 := Aside0.mk (blk_below H6.out BWT.out)
        have HB_w10 := Aside0.mk (HB8.out.trans (BWT.out.mono HB8.out.size))
        have HC_w10 := Aside0.mk (Kd.C_below HC7.out BWT.out)
        have HCQ := Aside0.mk (fun (W : World) (hW : Kd.C k34 W A7 q.length q) => cofferdamlaw16_copied.calls 2000 A7 c7 q qr ro q qr ro W hW hl7 (copied_same q qr ro (again_lens HQ.out)))
        have HOQ := Aside0.mk (show ∀ (A8 : Option Addr) (c8 : Nat) (W : World), Kd.C k34 W A8 q.length q → q.length ≤ c8 → Calls Try.prog 9 #[.agg #[.slice A8 q.length c8, .int .i64 qr, .bool ro]] W fun e w' => ∃ v, e = .returned (.agg #[v, .int .i64 qr, .bool ro]) ∧ (∃ A c, v = .slice A q.length c ∧ q.length ≤ c ∧ Kd.C k34 w' A q.length q) ∧ Below W.heap.size W w' from fun A8 c8 W hW h8 => by
          have h_ := optimize_calls A8 c8 q qr ro W hW h8 (again_ok HQ.out)
          rw [(again_L HQ.out).1, (again_L HQ.out).2] at h_
          exact h_)
        clear z0 z1 z2
        refine start_ (n := 6) (S := fun w' => w'.cell? ⟨b6, 0, none⟩ = some (.slice A7 q.length c7) ∧ w'.cell? ⟨b6, 1, none⟩ = some (.int .i64 qr) ∧ w'.cell? ⟨b6, 2, none⟩ = some (.bool ro)) (ds := []) #[false, false, false, false, false, false] (by kernel_rfl) rfl rfl ?hS (fun hHeld => ?_)
        case hS => exact ⟨(blk_cell H6_w10.out 0).trans rfl, (blk_cell H6_w10.out 1).trans rfl, (blk_cell H6_w10.out 2).trans rfl⟩
        have HB_W3 := Aside0.mk (show Below w.heap.size w w10.drew from below_drew HB_w10.out)
        have H6_W3 := Aside0.mk (blk_drew H6_w10.out)
        have HC_W3 : Aside0 (Kd.C k34 w10.drew A7 q.length q) := ⟨Kd.C_below HC_w10.out (below_drew (Below.refl _ _))⟩
        refine take_ (i := 0) (N := some 126) (v := ?_) (a' := ?_) #[true, false, false, false, false, false] rfl rfl (by kernel_rfl) (fun _ _ _ h => h) (Or.inl ⟨by rfl, ?_⟩) hHeld ?_ ?_
        rotate_left
        · rintro w' ⟨s0, s1, s2⟩
          go_simp
          with_reducible rfl
        rotate_left
        · simp only [Act.put, List.setIfInBounds_toArray, List.set_cons_zero, List.set_cons_succ]
          rfl
        refine take_ (i := 3) (N := some 129) (v := ?_) (a' := ?_) #[true, false, false, true, false, false] rfl rfl (by kernel_rfl) (fun _ _ _ h => h) (Or.inl ⟨by rfl, ?_⟩) hHeld ?_ ?_
        rotate_left
        · rintro w' ⟨s0, s1, s2⟩
          go_simp
          with_reducible rfl
        rotate_left
        · simp only [Act.put, List.setIfInBounds_toArray, List.set_cons_zero, List.set_cons_succ]
          rfl
        refine one_ (i := 1) (N := some 127) #[true, true, false, true, false, false] rfl rfl (by kernel_rfl) (by decide) (fun K hK => ?_)
        refine goes_ Try.func8 (by kernel_rfl) rfl #[.agg #[.slice A7 q.length c7, .int .i64 qr, .bool ro]] (by rfl) rfl rfl (by first | rfl | (simp [Act.eval]; done) | (go_simp; done)) ?_
        refine (HCQ.out _ HC_W3.out).mono ?_
        rintro e w11 ⟨v8, rfl, hS8, hb_⟩
        obtain ⟨A8, c8, rfl, l8, C8⟩ := Kd.N_reads (Kd.S_N hS8)
        have HC8 := Aside0.mk C8
        clear C8 hS8
        have HB_w11 := Aside0.mk (HB_W3.out.trans (hb_.mono HB_W3.out.size))
        have H6_w11 := Aside0.mk (blk_below H6_W3.out hb_)
        have HC_w11 := Aside0.mk (Kd.C_below HC_W3.out hb_)
        refine ⟨_, rfl, ?_⟩
        refine hK.out _ _ ⟨(blk_cell H6_w11.out 0).trans rfl, (blk_cell H6_w11.out 1).trans rfl, (blk_cell H6_w11.out 2).trans rfl⟩ (fun hHeld => ?_)
        clear hK K
        refine norm_ (a' := ?_) ?_ ?_
        rotate_left
        · simp only [Act.put, List.setIfInBounds_toArray, List.set_cons_zero, List.set_cons_succ]
          rfl
        refine one_ (i := 2) (N := some 128) #[true, true, true, true, false, false] rfl rfl (by kernel_rfl) (by decide) (fun K hK => ?_)
        refine goes_ Try.func9 (by kernel_rfl) rfl #[.agg #[.slice A8 q.length c8, .int .i64 qr, .bool ro]] (by rfl) rfl rfl (by first | rfl | (simp [Act.eval]; done) | (go_simp; done)) ?_
        refine (HOQ.out A8 c8 w11 HC8.out l8).mono ?_
        rintro e w12 ⟨v9, rfl, ⟨A9, c9, rfl, l9, C9⟩, hb_⟩
        have HC9 := Aside0.mk C9
        clear C9
        have HB_w12 := Aside0.mk (HB_w11.out.trans (hb_.mono HB_w11.out.size))
        have H6_w12 := Aside0.mk (blk_below H6_w11.out hb_)
        have HC_w12 := Aside0.mk (Kd.C_below HC_w11.out hb_)
        refine ⟨_, rfl, ?_⟩
        refine hK.out _ _ ⟨(blk_cell H6_w12.out 0).trans rfl, (blk_cell H6_w12.out 1).trans rfl, (blk_cell H6_w12.out 2).trans rfl⟩ (fun hHeld => ?_)
        clear hK K
        refine norm_ (a' := ?_) ?_ ?_
        rotate_left
        · simp only [Act.put, List.setIfInBounds_toArray, List.set_cons_zero, List.set_cons_succ]
          rfl
        refine one_ (i := 4) (N := some 130) #[true, true, true, true, true, false] rfl rfl (by kernel_rfl) (by decide) (fun K hK => ?_)
        refine goes_ Try.func10 (by kernel_rfl) rfl #[.agg #[.slice A9 q.length c9, .int .i64 qr, .bool ro], .agg #[.slice A7 q.length c7, .int .i64 qr, .bool ro]] (by rfl) rfl rfl (by first | rfl | (simp [Act.eval]; done) | (go_simp; done)) ?_
        refine (same_calls A9 c9 A7 c7 q qr ro w12 HC9.out HC_w12.out l9 hl7 (by omega) (fun p => Nat.le_trans (HQ.out.g.l3 p) (by omega)) (fun p => Nat.le_trans (HQ.out.g.l4 p) (by omega))).mono ?_
        rintro e w13 ⟨rfl, hb_⟩
        have HB_w13 := Aside0.mk (HB_w12.out.trans (hb_.mono HB_w12.out.size))
        have H6_w13 := Aside0.mk (blk_below H6_w12.out hb_)
        have HC_w13 := Aside0.mk (Kd.C_below HC_w12.out hb_)
        refine ⟨_, rfl, ?_⟩
        refine hK.out _ _ ⟨(blk_cell H6_w13.out 0).trans rfl, (blk_cell H6_w13.out 1).trans rfl, (blk_cell H6_w13.out 2).trans rfl⟩ (fun hHeld => ?_)
        clear hK K
        refine norm_ (a' := ?_) ?_ ?_
        rotate_left
        · simp only [Act.put, List.setIfInBounds_toArray, List.set_cons_zero, List.set_cons_succ]
          rfl
        refine pure_ (i := 5) (N := some 11) (v := ?_) (a' := ?_) #[true, true, true, true, true, true] rfl rfl (by kernel_rfl) (fun _ _ _ h => h) (Or.inl ⟨by rfl, ?_⟩) ?_ ?_
        rotate_left
        · intro w'
          go_simp
          with_reducible rfl
        rotate_left
        · simp only [Act.put, List.setIfInBounds_toArray, List.set_cons_zero, List.set_cons_succ]
          rfl
        refine done_ (by kernel_rfl) ?_
        go_wp2_with (go_at_call 7; (with_reducible refine (alive_calls _).mono ?_); rintro e w14 ⟨rfl, hb14⟩; have HB14 := Aside0.mk (HB_w13.out.trans (hb14.mono HB_w13.out.size)); clear hb14)
        repeat (go_quiet (fail); try go_wp2)
        first | go_end0 | ((try simp only [Exit.inBlock, Exit.then]); refine bodyPost_ret (results_tmp rfl _ _ _) rfl ?_)
        exact ⟨rfl, HB14.out⟩
end Go.Proofs.Ytneglmnffdmbiaa.P
namespace Go.Proofs.Ytneglmnffdmbiaa.optTight
open Go.ChangeShapes Go.WideShapes Go.ChangeAt Go.RowKit
set_option linter.unusedVariables false
theorem own : ownKnob Try.prog.godebug = none := by kernel_rfl
set_option maxRecDepth 100000 in
theorem lifted (os : Os) (started : os.Started) (H : Type) (enc : TypeId × Value → H) :
    ReturnsInHanded {} Try.checked os 4 .any (Rows.optTightSpec.pre6 enc Try.prog Try.f4 Rows.optTightRow.domain false) (Rows.optTightSpec.post enc Try.prog Try.f4 false true false false) := by
  refine returnsInHanded_of_change_sized (C := Try.checked) own started (by kernel_rfl) Try.func4
    (ChangeSpec.witness6 (enc := enc) (C := Try.checked) false ⟨#[], #[.agg #[.slice none 0 0, .int .i64 0, .bool false], .slice none 0 0], []⟩ 8 (by kernel_rfl) (by kernel_rfl) (by kernel_rfl) (by kernel_rfl)) ?_
  intro W base args ds gs before hval0 hW hcnd hsz0 _
  have hval : ∀ (j : Nat) t v, Try.f4.params[j]? = some t → args[j]? = some v → Value.okWide Try.prog W .any base t v := hval0
  have hW' := hW
  obtain ⟨p, q, hA0, hV, rfl, hfz, hnd⟩ := hW
  have hA : DataW.TrodAll enc Try.prog W 0 (fun _ => true) true Try.f4.params.toList args.toList ds p := hA0
  have hT : ∀ t ∈ Try.f4.params.toList, t < Try.prog.types.size := of_decide_eq_true (by kernel_rfl)
  have hAk := fun (W' : World) (hb : Below W.heap.size W W') => Rd.again hT hA hb
  rw [Try.params4] at hA hval
  obtain ⟨v0, vs0, d0, ds0, p0, q0, hargs, rfl, rfl, h0, r0⟩ := trodAll_cons hA
  obtain ⟨v1, vs1, d1, ds1, p1, q1, rfl, rfl, rfl, h1, r1⟩ := trodAll_cons r0
  obtain ⟨rfl, rfl, rfl⟩ := trodAll_nil r1
  obtain rfl : args = #[v0, v1] := by cases args; simp_all
  obtain ⟨rfl, rfl⟩ := trodVars_none hV
  obtain ⟨cs0, e0, _⟩ := okWide_struct Try.underlying24 (hval 0 24 v0 rfl rfl)
  obtain ⟨A1, n1, c1, e1⟩ := okWide_slice Try.underlying25 (hval 1 25 v1 rfl rfl)
  obtain ⟨A, c, L, root, ro, g0, hc, hC⟩ := P.open_plan h0 ⟨cs0, e0⟩
  obtain ⟨D, cd, dv, g1, hcd, hcd2, hD⟩ := P.open_ints h1 ⟨A1, n1, c1, e1⟩
  clear hA0 hval0 hsz0 e0 e1 hval
  subst g0 g1
  refine (P.optTight_calls A c L root ro D cd dv W hC hc hD hcd (Nat.le_trans hcd hcd2)).mono fun e W' ⟨he, bel⟩ => ?_
  subst he
  exact ⟨_, rfl, _, _, _, [], _, [], hW', trodAll_mk1 (shut_bool Try.underlying4 _), hAk W' bel, rfl, bel.frame _, fun h => by cases h⟩
theorem over : Rows.optTightRow.holds Try.pinned (OpenSpec.ofChange Rows.optTightSpec) :=
  OpenClaim.holds_of_wide 4 Try.f4 rfl rfl rfl rfl rfl rfl rfl ⟨rfl, rfl, rfl, rfl, rfl⟩ rfl rfl rfl rfl rfl (by kernel_rfl) Try.func4 (by kernel_rfl)
    (of_decide_eq_true (by kernel_rfl)) (by unfold Func.isWrapper; first | (rw [if_pos (by decide +kernel)]; kernel_rfl) | (rw [if_neg (by decide +kernel)]; exact ⟨rfl, rfl⟩))
    (fun os started H enc _ => lifted os started H enc)
theorem proved : Rows.OptTightSaid := over
#print axioms proved
end Go.Proofs.Ytneglmnffdmbiaa.optTight
namespace Go.Proofs.Ytneglmnffdmbiaa
/-- The row, under a short name, for the claim. -/
theorem optTight_holds : Rows.OptTightSaid := optTight.proved
end Go.Proofs.Ytneglmnffdmbiaa
