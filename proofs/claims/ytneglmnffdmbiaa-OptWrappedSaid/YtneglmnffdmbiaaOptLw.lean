import Derived.Test.YtneglmnffdmbiaaOptCp
import Derived.Test.YtneglmnffdmbiaaOptAlive
import Derived.Test.YtneglmnffdmbiaaOptSame
namespace Go.Proofs.Ytneglmnffdmbiaa.P
open Go.RowKit Go.Proofs.YtneglmnffdmbiaaW.PrintWords Go.Proofs.YtneglmnffdmbiaaW.PrintLast Go.Proofs.YtneglmnffdmbiaaW.PrintMore
set_option linter.unusedVariables false
set_option linter.unusedSimpArgs false

theorem wrap_FK {W : World} {base g : Nat} {n root cut : Int} (he : W.ownsRow base 36 4 (.slice (some ⟨g, 0, none⟩) (wrapE n root cut).length (wrapE n root cut).length) (wrapE n root cut).length (ec (wrapE n root cut))) :
    Kd.FK k34 W (fun k => k = g) (wrapT n root cut) [.int .i64 3, .int .i64 n, .int .i64 0, .slice (some ⟨g, 0, none⟩) (wrapE n root cut).length (wrapE n root cut).length, .slice none 0 0, .int .i64 0, .int .i64 0, .int .i64 0, .slice none 0 0, .slice none 0 0] := fun W' hW => by
  have he' := own_move he (fun k hk => hW k (by have : some g = some k := hk; injection this with h; exact h.symm) (own_lt he k hk))
  obtain ⟨A3, c3, e3, l3, g3⟩ := Kd.R_reads (R36 (ok := fun _ => True) he' (fun _ _ => trivial))
  injection e3 with h1 h2 h3
  subst h1 h3
  exact k34_mk W' (wrapT n root cut) l3 g3 (Nat.le_refl 0) ⟨rfl, by simp [wrapT], fun h => absurd h (Nat.lt_irrefl 0)⟩ (Nat.le_refl 0) (C8_nil W') (Nat.le_refl 0) (C8_nil W')
theorem wrapE_pos (n root cut : Int) : 0 < (wrapE n root cut).length := by unfold wrapE; split <;> simp
theorem n3_all {L : List S34} {m : Nat} (h : ∀ p : Int, 0 ≤ p → p < (L.length : Int) → (rd_T34 L p).f3.length ≤ m) (p : Int) : (rd_T34 L p).f3.length ≤ m := by
  rw [rdT_nat]
  by_cases hp : p.toNat < L.length
  · exact h _ (by omega) (by omega)
  · rw [rdT_out L _ (by omega)]
    simp [z34]
theorem n4_all {L : List S34} {m : Nat} (h : ∀ p : Int, 0 ≤ p → p < (L.length : Int) → (rd_T34 L p).f4.length ≤ m) (p : Int) : (rd_T34 L p).f4.length ≤ m := by
  rw [rdT_nat]
  by_cases hp : p.toNat < L.length
  · exact h _ (by omega) (by omega)
  · rw [rdT_out L _ (by omega)]
    simp [z34]
theorem optL_lens {L : List S34} {root : Int} (hb : Pk L root) : (optL L root).length ≤ 1000000 ∧ (∀ p : Int, (rd_T34 (optL L root) p).f3.length ≤ 10000000000) ∧ (∀ p : Int, (rd_T34 (optL L root) p).f4.length ≤ 10000000000) := by
  have hI := Inv.all hb L.length (Nat.le_refl _)
  rw [List.take_length] at hI
  have hlen : (optL L root).length ≤ L.length := by
    unfold optL optG
    rw [List.length_map, idxV_len, hI.lm]
    exact cnt_le _ _
  have hmem : ∀ p : Int, rd_T34 (optL L root) p = z34 ∨ ∃ i : Nat, rd_T34 (optL L root) p = ren (optV L root) (rd_T34 (opt1 L).1 (i : Int)) := by
    intro p
    rw [rdT_nat]
    by_cases hp : p.toNat < (optL L root).length
    · right
      have hm : rd_T34 (optL L root) ((p.toNat : Nat) : Int) ∈ optL L root := by
        have e : rd_T34 (optL L root) ((p.toNat : Nat) : Int) = (optL L root)[p.toNat] := by
          unfold rd_T34
          rw [Int.toNat_natCast, List.getD_eq_getElem?_getD, List.getElem?_eq_getElem hp]
          rfl
        rw [e]
        exact List.getElem_mem hp
      obtain ⟨i, _, hi⟩ := List.mem_map.1 (show _ ∈ optG _ _ from hm)
      exact ⟨i, hi.symm⟩
    · left
      exact rdT_out _ _ (by omega)
  refine ⟨by have := hb.1; omega, fun p => ?_, fun p => ?_⟩
  · rcases hmem p with h | ⟨i, h⟩
    · rw [h]; simp [z34]
    · rw [h]
      show ((rd_T34 (opt1 L).1 (i : Int)).f3.map _).length ≤ _
      rw [List.length_map]
      exact Nat.le_trans (hI.g.l3 _) (by omega)
  · rcases hmem p with h | ⟨i, h⟩
    · rw [h]; simp [z34]
    · rw [h]
      show ((rd_T34 (opt1 L).1 (i : Int)).f4.map _).length ≤ _
      rw [List.length_map]
      exact Nat.le_trans (hI.g.l4 _) (by omega)
set_option maxHeartbeats 64000000 in
set_option maxRecDepth 100000 in
theorem wrapped_calls (A : Option Addr) (c : Nat) (L : List S34) (root : Int) (ro : Bool) (D : Option Addr) (cd : Nat) (dv : List Int) (cut : Int) (w : World) (hA : Kd.C k34 w A L.length L) (hc : L.length ≤ c) (hD : Kd.C (Kd.int .i64) w D dv.length dv) (hcd : dv.length ≤ cd) (hdl : dv.length ≤ 9223372036854775807) (hcut : (Lit.int .i64 cut).wf = true) :
    Calls Try.prog 5 #[.agg #[.slice A L.length c, .int .i64 root, .bool ro], .slice D dv.length cd, .int .i64 cut] w fun e w' => e = .returned (.bool true) ∧ Below w.heap.size w w' := by
  have hct : -9223372036854775808 ≤ cut ∧ cut ≤ 9223372036854775807 := by
    have e1 : IntKind.i64.min = -9223372036854775808 := by decide
    have e2 : IntKind.i64.max = 9223372036854775807 := by decide
    simp only [Lit.wf, e1, e2, Bool.and_eq_true, decide_eq_true_eq] at hcut
    omega
  have HCT := Aside0.mk hct
  have HA := Aside0.mk hA
  have HD := Aside0.mk hD
  clear hA hD hcut hct
  go_enter Try.func5, Try.ntmps5
  go_upto_region 1 with (fail)
  have h3 := blk_new w (.cells #[.slice A L.length c, .int .i64 root, .bool ro] 24 (0, 0))
  have hb0 := below_alloc (Below.refl w.heap.size w) (.cells #[.slice A L.length c, .int .i64 root, .bool ro] 24 (0, 0))
  have H3 := Aside0.mk h3
  have HB0 := Aside0.mk hb0
  clear h3 hb0
  generalize w.alloc (.cells #[.slice A L.length c, .int .i64 root, .bool ro] 24 (0, 0)) = W0 at *
  obtain ⟨b3, hb3⟩ : ∃ b, b = w.heap.size := ⟨_, rfl⟩
  rw [← hb3] at H3 ⊢
  clear hb3
  have x0 : W0.cell? ⟨b3, 0, none⟩ = some (.slice A L.length c) := (blk_cell H3.out 0).trans rfl
  have x1 : W0.cell? ⟨b3, 1, none⟩ = some (.int .i64 root) := (blk_cell H3.out 1).trans rfl
  have x2 : W0.cell? ⟨b3, 2, none⟩ = some (.bool ro) := (blk_cell H3.out 2).trans rfl
  have HBD := Aside0.mk (bound_calls A c L root ro D cd dv W0 (Kd.C_below HA.out HB0.out) hc (Kd.C_below HD.out HB0.out) hcd hdl)
  go_upto_if 17 with (go_at_call 6; (with_reducible refine HBD.out.mono ?_); rintro e w5 ⟨⟨b, rfl, hb⟩, hb5⟩; have HB5 := Aside0.mk (HB0.out.trans (hb5.mono HB0.out.size)); have HBY := Aside0.mk hb; have H35 := Aside0.mk (blk_below H3.out hb5); clear hb hb5)
  clear x0 x1 x2
  cases b with
  | false =>
    go_wp2_with (go_at_call 7; (with_reducible refine (alive_calls _).mono ?_); rintro e w6 ⟨rfl, hb6⟩; have HB6 := Aside0.mk (HB5.out.trans (hb6.mono HB5.out.size)); clear hb6)
    first | go_end0 | ((try simp only [Exit.inBlock, Exit.then]); refine bodyPost_ret (results_tmp rfl _ _ _) rfl ?_)
    exact ⟨rfl, HB6.out⟩
  | true =>
    have hok : BdOk L root := HBY.out rfl
    have HOK := Aside0.mk hok
    obtain ⟨r0, r1⟩ := (show 0 ≤ root ∧ root < (L.length : Int) from ⟨hok.2.2.2.1, hok.2.2.2.2.1⟩)
    have hn := (hok.2.2.2.2.2 root r0 r1).1
    have hl60 := hok.1
    clear hok HBD
    obtain ⟨ad, A3, c3, A4, c4, A8, c8, A9, c9, rfl, f0, f1, f2, f3, f4, f5, f6, f7, f8, f9, l3, g3, l4, g4, l8, g8, l9, g9⟩ := at_T34 (Kd.C_below HA.out HB5.out) root r0 r1
    clear f0 f2 f3 f4 f5 f6 f7 f8 f9 l3 g3 l4 g4 l8 g8 l9 g9
    have q0 : (0 ≤ root) = True := eq_true r0
    have q1 : (root < (L.length : Int)) = True := eq_true r1
    have x0 : w5.cell? ⟨b3, 0, none⟩ = some (.slice (some ad) L.length c) := (blk_cell H35.out 0).trans rfl
    have x1 : w5.cell? ⟨b3, 1, none⟩ = some (.int .i64 root) := (blk_cell H35.out 1).trans rfl
    have x2 : w5.cell? ⟨b3, 2, none⟩ = some (.bool ro) := (blk_cell H35.out 2).trans rfl
    generalize hnn : (rd_T34 L root).f1 = n at *
    have HNN := Aside0.mk hnn
    clear hnn
    go_upto_if 27 with (fail)
    go_cut [2] (fun v2 wc => ∃ c1 : Int, v2 = .int .i64 c1 ∧ 0 ≤ c1 ∧ Aside0 (wc = w5))
    case first =>
      by_cases hcn : cut < 0
      · have d : decide (cut < 0) = true := decide_eq_true hcn
        have w1 : IntKind.i64.wrap (cut + 1) = cut + 1 := by have := HCT.out; rw [i64_w]; unfold wrap64; omega
        have w2 : IntKind.i64.wrap (-(cut + 1)) = -(cut + 1) := by have := HCT.out; rw [i64_w]; unfold wrap64; omega
        have w3 : 0 ≤ -(cut + 1) := by omega
        have W3 := Aside0.mk w3
        clear w3 hcn
        rw [d]
        go_wp2
        go_meet
        case rel => exact ⟨-(cut + 1), rfl, W3.out, ⟨rfl⟩⟩
      · have d : decide (cut < 0) = false := decide_eq_false hcn
        have W3 := Aside0.mk (show 0 ≤ cut by omega)
        clear hcn
        rw [d]
        go_wp2
        go_meet
        case rel => exact ⟨cut, rfl, W3.out, ⟨rfl⟩⟩
    case rest =>
      obtain ⟨c1, rfl, hc1, hw⟩ := hcut
      obtain rfl := hw.out
      have hz : ¬ n = 0 := by omega
      have hz2 : (n == 0) = false := beq_eq_false_iff_ne.2 hz
      have hm0 : 0 ≤ c1 % n := Int.emod_nonneg c1 hz
      have hm1 : c1 % n < n := Int.emod_lt_of_pos c1 (by omega)
      have hm3 : Int.tmod c1 n = c1 % n := Int.tmod_eq_emod_of_nonneg hc1
      have hm2 : IntKind.i64.wrap (c1 % n) = c1 % n := wrap_small (by omega) (by omega)
      have HM := Aside0.mk (And.intro hm0 hm1)
      clear hm0 hm1
      have HCP := Aside0.mk (fun (W : World) (hW : Kd.C k34 W (some ad) L.length L) => cofferdamlaw16_copied.calls 2000 (some ad) c L root ro L root ro W hW hc (copied_same L root ro (.of HOK.out)))
      go_upto_region 9 with (go_at_call 8; (with_reducible refine (HCP.out _ (Kd.C_below HA.out HB5.out)).mono ?_); rintro e w6 ⟨v0, rfl, hS, hb6⟩; obtain ⟨Av, cv, rfl⟩ := Kd.N_slice (Kd.S_N hS); have HS := Aside0.mk (Kd.S_N hS); have HB6 := Aside0.mk hb6; clear hS hb6)
      have h9 := blk_new w6 (.cells #[.slice Av L.length cv, .int .i64 root, .bool ro] 24 (0, 0))
      have HN := Aside0.mk (Kd.N_below (Kd.N_elderB HS.out w6.heap.size (Nat.le_refl _)) (below_alloc (Below.refl w6.heap.size w6) (.cells #[.slice Av L.length cv, .int .i64 root, .bool ro] 24 (0, 0))))
      have H9 := Aside0.mk h9
      have H39 := Aside0.mk (blk_alloc (blk_below H35.out HB6.out) (.cells #[.slice Av L.length cv, .int .i64 root, .bool ro] 24 (0, 0)))
      have HB9 := Aside0.mk (below_alloc (HB5.out.trans (HB6.out.mono HB5.out.size)) (.cells #[.slice Av L.length cv, .int .i64 root, .bool ro] 24 (0, 0)))
      have HZ9 := Aside0.mk (show w6.heap.size < (w6.alloc (.cells #[.slice Av L.length cv, .int .i64 root, .bool ro] 24 (0, 0))).heap.size by rw [World.size_alloc]; omega)
      have HZ5 := Aside0.mk HB6.out.size
      have HZw := Aside0.mk HB5.out.size
      clear h9 x0 x1 x2 f1
      obtain ⟨b9, hb9⟩ : ∃ b, b = w6.heap.size := ⟨_, rfl⟩
      rw [← hb9] at H9 HN HZ9 HZ5
      rw [← hb9]
      generalize w6.alloc (.cells #[.slice Av L.length cv, .int .i64 root, .bool ro] 24 (0, 0)) = W9 at *
      clear hb9
      have x1 : W9.cell? ⟨b3, 1, none⟩ = some (.int .i64 root) := (blk_cell H39.out 1).trans rfl
      clear hm3
      generalize hc2 : c1 % n = c2 at *
      clear hc2
      go_upto_if 43 with (fail)
      have ho1 := World.ownsRow_lit (base := W9.heap.size) (e := 36) (size := 4) (W9.alloc (.cells #[.int .i64 0, .int .i64 n, .int .i64 root, .int .i64 0] 36 (0, 0))) #[.int .i64 0, .int .i64 n, .int .i64 root, .int .i64 0] 1 (by simp) (by decide) (by simp)
      rw [World.size_alloc] at ho1
      have hb1 := below_alloc (below_alloc (Below.refl W9.heap.size W9) (.cells #[.int .i64 0, .int .i64 n, .int .i64 root, .int .i64 0] 36 (0, 0))) (.cells #[.int .i64 0, .int .i64 n, .int .i64 root, .int .i64 0] 36 (0, 0))
      have x1' : ((W9.alloc (.cells #[.int .i64 0, .int .i64 n, .int .i64 root, .int .i64 0] 36 (0, 0))).alloc (.cells #[.int .i64 0, .int .i64 n, .int .i64 root, .int .i64 0] 36 (0, 0))).cell? ⟨b3, 1, none⟩ = some (.int .i64 root) := (hb1.cell (World.block_lt_of_cell? _ _ x1)).trans x1
      have HO1 := Aside0.mk ho1
      have HB1 := Aside0.mk hb1
      have HZ1 := Aside0.mk (show ((W9.alloc (.cells #[.int .i64 0, .int .i64 n, .int .i64 root, .int .i64 0] 36 (0, 0))).alloc (.cells #[.int .i64 0, .int .i64 n, .int .i64 root, .int .i64 0] 36 (0, 0))).heap.size = W9.heap.size + 2 by simp)
      clear ho1 hb1 x1
      generalize (W9.alloc (.cells #[.int .i64 0, .int .i64 n, .int .i64 root, .int .i64 0] 36 (0, 0))).alloc (.cells #[.int .i64 0, .int .i64 n, .int .i64 root, .int .i64 0] 36 (0, 0)) = W1 at *
      go_cut [11] (fun v11 wc => ∃ g : Nat, v11 = .slice (some ⟨g, 0, none⟩) (wrapE n root c2).length (wrapE n root c2).length ∧ Aside0 (wc.ownsRow W9.heap.size 36 4 (.slice (some ⟨g, 0, none⟩) (wrapE n root c2).length (wrapE n root c2).length) (wrapE n root c2).length (ec (wrapE n root c2))) ∧ Aside0 (Below W9.heap.size W9 wc))
      case first =>
        by_cases hcc : c2 > 0
        · have d : decide (c2 > 0) = true := decide_eq_true hcc
          have d' : decide (0 < c2) = true := decide_eq_true hcc
          have hE : wrapE n root c2 = [⟨0, c2, root, 0⟩, ⟨c2, n - c2, root, c2⟩] := by unfold wrapE; rw [if_pos hcc]
          have w4 : IntKind.i64.wrap (n - c2) = n - c2 := by have := HM.out; rw [i64_w]; unfold wrap64; omega
          have HE := Aside0.mk hE
          clear hE hcc
          first | rw [d'] | rw [d]
          go_wp2
          go_meet
          case rel => exact ⟨W1.heap.size, by rw [HE.out]; rfl, ⟨by rw [HE.out]; exact World.ownsRow_lit (base := W9.heap.size) (e := 36) (size := 4) W1 #[.int .i64 0, .int .i64 c2, .int .i64 root, .int .i64 0, .int .i64 c2, .int .i64 (n - c2), .int .i64 root, .int .i64 c2] 2 HB1.out.size (by decide) (by simp)⟩, ⟨below_alloc HB1.out _⟩⟩
        · have d : decide (c2 > 0) = false := decide_eq_false hcc
          have d' : decide (0 < c2) = false := decide_eq_false hcc
          have hE : wrapE n root c2 = [⟨0, n, root, 0⟩] := by unfold wrapE; rw [if_neg hcc]
          have HE := Aside0.mk hE
          clear hE hcc
          first | rw [d'] | rw [d]
          go_wp2
          go_meet
          case rel => exact ⟨W9.heap.size + 1, by rw [HE.out]; rfl, ⟨by rw [HE.out]; exact HO1.out⟩, ⟨HB1.out⟩⟩
      case rest =>
        obtain ⟨g, rfl, HOE, HBC⟩ := hcut
        clear x1' HO1 HB1 HZ1
        have HNC := Aside0.mk (Kd.N_below HN.out HBC.out)
        have H9C := Aside0.mk (blk_below H9.out HBC.out)
        have H3C := Aside0.mk (blk_below H39.out HBC.out)
        have HBw := Aside0.mk (HB9.out.trans (HBC.out.mono HB9.out.size))
        have HFK := Aside0.mk (wrap_FK HOE.out)
        have HGB := Aside0.mk (own_base HOE.out g rfl)
        obtain ⟨cg, hcg⟩ := own_typed HOE.out g rfl
        have hln := wrapE_pos n root c2
        have HZC := Aside0.mk (show b9 < wc.heap.size by have := HBC.out.size; have := HZ9.out; omega)
        have y0 : wc.cell? ⟨b9, 0, none⟩ = some (.slice Av L.length cv) := (blk_cell H9C.out 0).trans rfl
        have hgne : some g ≠ (Value.slice Av L.length cv).ownBlock := Kd.N_ne HNC.out hcg (by decide)
        have HGN := Aside0.mk hgne
        clear hgne hcg
        generalize hwl : (wrapE n root c2).length = wl at *
        have HWL := Aside0.mk hwl
        clear hwl
        have hwr : IntKind.i64.wrap (L.length : Int) = (L.length : Int) := wrap_small (by omega) (by omega)
        go_upto_region 14 with ((with_reducible refine gate_builtin (b := .append) (xs := #[.tmp 58, .tmp 62]) rfl ?_); (try (refine gate_guard (by rfl) ?_; dsimp only)); at_builtin; refine Kd.N_append k34 (w0 := w) w.heap.size rfl (.tmp 58) (.tmp 62) 22 34 _ 144 rfl Try.underlying22 info34 rfl (by decide) (by decide) (.slice Av L.length cv) L (wrapT n root c2) [.int .i64 3, .int .i64 n, .int .i64 0, .slice (some ⟨g, 0, none⟩) wl wl, .slice none 0 0, .int .i64 0, .int .i64 0, .int .i64 0, .slice none 0 0, .slice none 0 0] (fun k => True ∧ k ≠ b9) (fun k => k = g) rfl ?aX ?aP ?aK ?aF ?aO ?aB ?aS ?aL ?_; (case aX => first | rfl | (simp [World.size_alloc, Act.eval]; done)); (case aP => exact HFK.out); (case aK => rintro k rfl; exact ⟨⟨trivial, fun e_ => by have h1_ := HGB.out; have h2_ := HZ9.out; omega⟩, HGN.out⟩); (case aF => intro k hk; exact ⟨trivial, fun e_ => by have h2_ := HZC.out; omega⟩); (case aO => exact Kd.N_lower HNC.out HZw.out); (case aB => exact HBw.out); (case aS => exact HBw.out.size); (case aL => omega); intro v1 w1 hn1 hb1 hg1 hat1; obtain ⟨Av1, cv1, ev1⟩ := Kd.N_slice hn1; rw [List.length_append, List.length_singleton] at ev1; subst ev1; have HN1 := Aside0.mk hn1; have HB1 := Aside0.mk hb1; have H91 := Aside0.mk (blk_grown H9C.out hg1 (Kd.N_ne HNC.out H9C.out (by decide))); have H31 := Aside0.mk (blk_grown H3C.out hg1 (Kd.N_ne HNC.out H3C.out (by decide))); have y91 : w1.cell? ⟨b9, 0, none⟩ = some (.slice Av L.length cv) := (blk_cell H91.out 0).trans rfl; have f91 := blk_frozen H91.out 0; clear hn1 hb1 hg1 hat1)
        have HNE := Aside0.mk (show b9 ≠ b3 from fun e_ => by
          have h1_ := H35.out
          have h2_ := blk_lt h1_
          have h3_ := HZ5.out
          omega)
        have h92 := blk_set H91.out 0 (.slice Av1 (L.length + 1) cv1)
        have h32 := blk_far H31.out (p := ⟨b9, 0, none⟩) (fun e_ => HNE.out e_.symm) (.slice Av1 (L.length + 1) cv1)
        have hn2 := Kd.N_far HN1.out (p := ⟨b9, 0, none⟩) (fun k hk => hk.2) (.slice Av1 (L.length + 1) cv1)
        have hb2 := below_set (g := b9) (j := 0) (v := .slice Av1 (L.length + 1) cv1) HB1.out (by have h1_ := HZ5.out; have h2_ := HZw.out; omega)
        have H92 := Aside0.mk h92
        have H32 := Aside0.mk h32
        have HN2 := Aside0.mk hn2
        have HB2 := Aside0.mk hb2
        clear h92 h32 hn2 hb2 y91 f91 y0
        generalize w1.setCell ⟨b9, 0, none⟩ (.slice Av1 (L.length + 1) cv1) = W2 at *
        have y2 : W2.cell? ⟨b9, 0, none⟩ = some (.slice Av1 (L.length + 1) cv1) := (blk_cell H92.out 0).trans rfl
        have y21 : W2.cell? ⟨b9, 1, none⟩ = some (.int .i64 root) := (blk_cell H92.out 1).trans rfl
        have f21 := blk_frozen H92.out 1
        go_upto_region 15 with (fail)
        have h93 := blk_set H92.out 1 (.int .i64 (L.length : Int))
        have h33 := blk_far H32.out (p := ⟨b9, 1, none⟩) (fun e_ => HNE.out e_.symm) (.int .i64 (L.length : Int))
        have hn3 := Kd.N_far HN2.out (p := ⟨b9, 1, none⟩) (fun k hk => hk.2) (.int .i64 (L.length : Int))
        have hb3 := below_set (g := b9) (j := 1) (v := .int .i64 (L.length : Int)) HB2.out (by have h1_ := HZ5.out; have h2_ := HZw.out; omega)
        have H93 := Aside0.mk h93
        have H33 := Aside0.mk h33
        have HN3 := Aside0.mk hn3
        have HB3 := Aside0.mk hb3
        clear h93 h33 hn3 hb3 y2 y21 f21
        generalize W2.setCell ⟨b9, 1, none⟩ (.int .i64 (L.length : Int)) = W3 at *
        have HCQ := Aside0.mk (show Kd.C k34 W3.drew Av1 (L.length + 1) (L ++ [wrapT n root c2]) from by
          have h_ := (Kd.N_reads' HN3.out).2.2
          rw [List.length_append, List.length_singleton] at h_
          exact h_)
        have HLQ := Aside0.mk (show L.length + 1 ≤ cv1 from (Kd.N_reads' HN3.out).2.1)
        have HOQ := Aside0.mk (show Calls Try.prog 9 #[.agg #[.slice Av1 (L.length + 1) cv1, .int .i64 (L.length : Int), .bool ro]] W3.drew fun e w' => ∃ v, e = .returned (.agg #[v, .int .i64 (optR L root), .bool ro]) ∧ (∃ A c, v = .slice A (optL L root).length c ∧ (optL L root).length ≤ c ∧ Kd.C k34 w' A (optL L root).length (optL L root)) ∧ Below W3.drew.heap.size W3.drew w' from by
          have hw_ := wrap_same HOK.out n c2 HNN.out.symm HM.out.1 HM.out.2
          have h_ := optimize_calls Av1 cv1 (L ++ [wrapT n root c2]) (L.length : Int) ro W3.drew (by rw [List.length_append, List.length_singleton]; exact HCQ.out) (by rw [List.length_append, List.length_singleton]; exact HLQ.out) (planOk (wrap_pk HOK.out n c2 HNN.out.symm HM.out.1 HM.out.2))
          rw [hw_.1, hw_.2, List.length_append, List.length_singleton] at h_
          exact h_)
        refine start_ (n := 7) (S := fun w' => w'.cell? ⟨b9, 0, none⟩ = some (.slice Av1 (L.length + 1) cv1) ∧ w'.cell? ⟨b9, 1, none⟩ = some (.int .i64 (L.length : Int)) ∧ w'.cell? ⟨b9, 2, none⟩ = some (.bool ro) ∧ w'.cell? ⟨b3, 0, none⟩ = some (.slice (some ad) L.length c) ∧ w'.cell? ⟨b3, 1, none⟩ = some (.int .i64 root) ∧ w'.cell? ⟨b3, 2, none⟩ = some (.bool ro)) (ds := []) #[false, false, false, false, false, false, false] (by kernel_rfl) rfl rfl ?hS (fun hHeld => ?_)
        case hS => exact ⟨(blk_cell H93.out 0).trans rfl, (blk_cell H93.out 1).trans rfl, (blk_cell H93.out 2).trans rfl, (blk_cell H33.out 0).trans rfl, (blk_cell H33.out 1).trans rfl, (blk_cell H33.out 2).trans rfl⟩
        have HB_W3 := Aside0.mk (show Below w.heap.size w W3.drew from below_drew HB3.out)
        have H9_W3 := Aside0.mk (blk_drew H93.out)
        have H3_W3 := Aside0.mk (blk_drew H33.out)
        refine take_ (i := 0) (N := some 70) (v := ?_) (a' := ?_) #[true, false, false, false, false, false, false] rfl rfl (by kernel_rfl) (fun _ _ _ h => h) (Or.inl ⟨by rfl, ?_⟩) hHeld ?_ ?_
        rotate_left
        · rintro w' ⟨s0, s1, s2, s3, s4, s5⟩
          go_simp
          with_reducible rfl
        rotate_left
        · simp only [Act.put, List.setIfInBounds_toArray, List.set_cons_zero, List.set_cons_succ]
          rfl
        refine take_ (i := 2) (N := some 72) (v := ?_) (a' := ?_) #[true, false, true, false, false, false, false] rfl rfl (by kernel_rfl) (fun _ _ _ h => h) (Or.inl ⟨by rfl, ?_⟩) hHeld ?_ ?_
        rotate_left
        · rintro w' ⟨s0, s1, s2, s3, s4, s5⟩
          go_simp
          with_reducible rfl
        rotate_left
        · simp only [Act.put, List.setIfInBounds_toArray, List.set_cons_zero, List.set_cons_succ]
          rfl
        refine one_ (i := 1) (N := some 71) #[true, true, true, false, false, false, false] rfl rfl (by kernel_rfl) (by decide) (fun K hK => ?_)
        refine goes_ Try.func9 (by kernel_rfl) rfl #[.agg #[.slice Av1 (L.length + 1) cv1, .int .i64 (L.length : Int), .bool ro]] (by rfl) rfl rfl (by first | rfl | (simp [Act.eval]; done) | (go_simp; done)) ?_
        refine (HOQ.out).mono ?_
        rintro e w7 ⟨v7, rfl, ⟨A7, c7, rfl, l7, C7⟩, hb_⟩
        have HC7 := Aside0.mk C7
        clear C7
        have HB_w7 := Aside0.mk (HB_W3.out.trans (hb_.mono HB_W3.out.size))
        have H9_w7 := Aside0.mk (blk_below H9_W3.out hb_)
        have H3_w7 := Aside0.mk (blk_below H3_W3.out hb_)
        refine ⟨_, rfl, ?_⟩
        refine hK.out _ _ ⟨(blk_cell H9_w7.out 0).trans rfl, (blk_cell H9_w7.out 1).trans rfl, (blk_cell H9_w7.out 2).trans rfl, (blk_cell H3_w7.out 0).trans rfl, (blk_cell H3_w7.out 1).trans rfl, (blk_cell H3_w7.out 2).trans rfl⟩ (fun hHeld => ?_)
        clear hK K
        refine norm_ (a' := ?_) ?_ ?_
        rotate_left
        · simp only [Act.put, List.setIfInBounds_toArray, List.set_cons_zero, List.set_cons_succ]
          rfl
        refine one_ (i := 3) (N := some 73) #[true, true, true, true, false, false, false] rfl rfl (by kernel_rfl) (by decide) (fun K hK => ?_)
        refine goes_ Try.func8 (by kernel_rfl) rfl #[.agg #[.slice (some ad) L.length c, .int .i64 root, .bool ro]] (by rfl) rfl rfl (by first | rfl | (simp [Act.eval]; done) | (go_simp; done)) ?_
        refine (HCP.out w7 (Kd.C_below HA.out HB_w7.out)).mono ?_
        rintro e w8 ⟨v8, rfl, hS8, hb_⟩
        obtain ⟨A8, c8, rfl, l8, C8⟩ := Kd.N_reads (Kd.S_N hS8)
        have HC8 := Aside0.mk C8
        have HC7' := Aside0.mk (Kd.C_below HC7.out hb_)
        clear C8 hS8
        have HB_w8 := Aside0.mk (HB_w7.out.trans (hb_.mono HB_w7.out.size))
        have H9_w8 := Aside0.mk (blk_below H9_w7.out hb_)
        have H3_w8 := Aside0.mk (blk_below H3_w7.out hb_)
        refine ⟨_, rfl, ?_⟩
        refine hK.out _ _ ⟨(blk_cell H9_w8.out 0).trans rfl, (blk_cell H9_w8.out 1).trans rfl, (blk_cell H9_w8.out 2).trans rfl, (blk_cell H3_w8.out 0).trans rfl, (blk_cell H3_w8.out 1).trans rfl, (blk_cell H3_w8.out 2).trans rfl⟩ (fun hHeld => ?_)
        clear hK K
        refine norm_ (a' := ?_) ?_ ?_
        rotate_left
        · simp only [Act.put, List.setIfInBounds_toArray, List.set_cons_zero, List.set_cons_succ]
          rfl
        refine one_ (i := 4) (N := some 74) #[true, true, true, true, true, false, false] rfl rfl (by kernel_rfl) (by decide) (fun K hK => ?_)
        refine goes_ Try.func9 (by kernel_rfl) rfl #[.agg #[.slice A8 L.length c8, .int .i64 root, .bool ro]] (by rfl) rfl rfl (by first | rfl | (simp [Act.eval]; done) | (go_simp; done)) ?_
        refine (optimize_calls A8 c8 L root ro w8 HC8.out l8 (planOk (.of HOK.out))).mono ?_
        rintro e w9 ⟨v9, rfl, ⟨A9, c9, rfl, l9, C9⟩, hb_⟩
        have HC9 := Aside0.mk C9
        have HC7'' := Aside0.mk (Kd.C_below HC7'.out hb_)
        clear C9
        have HB_w9 := Aside0.mk (HB_w8.out.trans (hb_.mono HB_w8.out.size))
        have H9_w9 := Aside0.mk (blk_below H9_w8.out hb_)
        have H3_w9 := Aside0.mk (blk_below H3_w8.out hb_)
        refine ⟨_, rfl, ?_⟩
        refine hK.out _ _ ⟨(blk_cell H9_w9.out 0).trans rfl, (blk_cell H9_w9.out 1).trans rfl, (blk_cell H9_w9.out 2).trans rfl, (blk_cell H3_w9.out 0).trans rfl, (blk_cell H3_w9.out 1).trans rfl, (blk_cell H3_w9.out 2).trans rfl⟩ (fun hHeld => ?_)
        clear hK K
        refine norm_ (a' := ?_) ?_ ?_
        rotate_left
        · simp only [Act.put, List.setIfInBounds_toArray, List.set_cons_zero, List.set_cons_succ]
          rfl
        refine one_ (i := 5) (N := some 75) #[true, true, true, true, true, true, false] rfl rfl (by kernel_rfl) (by decide) (fun K hK => ?_)
        refine goes_ Try.func10 (by kernel_rfl) rfl #[.agg #[.slice A7 (optL L root).length c7, .int .i64 (optR L root), .bool ro], .agg #[.slice A9 (optL L root).length c9, .int .i64 (optR L root), .bool ro]] (by rfl) rfl rfl (by first | rfl | (simp [Act.eval]; done) | (go_simp; done)) ?_
        refine (same_calls A7 c7 A9 c9 (optL L root) (optR L root) ro w9 HC7''.out HC9.out l7 l9 (optL_lens (.of HOK.out)).1 (optL_lens (.of HOK.out)).2.1 (optL_lens (.of HOK.out)).2.2).mono ?_
        rintro e w10 ⟨rfl, hb_⟩
        have HB_w10 := Aside0.mk (HB_w9.out.trans (hb_.mono HB_w9.out.size))
        have H9_w10 := Aside0.mk (blk_below H9_w9.out hb_)
        have H3_w10 := Aside0.mk (blk_below H3_w9.out hb_)
        refine ⟨_, rfl, ?_⟩
        refine hK.out _ _ ⟨(blk_cell H9_w10.out 0).trans rfl, (blk_cell H9_w10.out 1).trans rfl, (blk_cell H9_w10.out 2).trans rfl, (blk_cell H3_w10.out 0).trans rfl, (blk_cell H3_w10.out 1).trans rfl, (blk_cell H3_w10.out 2).trans rfl⟩ (fun hHeld => ?_)
        clear hK K
        refine norm_ (a' := ?_) ?_ ?_
        rotate_left
        · simp only [Act.put, List.setIfInBounds_toArray, List.set_cons_zero, List.set_cons_succ]
          rfl
        refine pure_ (i := 6) (N := some 12) (v := ?_) (a' := ?_) #[true, true, true, true, true, true, true] rfl rfl (by kernel_rfl) (fun _ _ _ h => h) (Or.inl ⟨by rfl, ?_⟩) ?_ ?_
        rotate_left
        · intro w'
          go_simp
          with_reducible rfl
        rotate_left
        · simp only [Act.put, List.setIfInBounds_toArray, List.set_cons_zero, List.set_cons_succ]
          rfl
        refine done_ (by kernel_rfl) ?_
        go_wp2_with (go_at_call 7; (with_reducible refine (alive_calls _).mono ?_); rintro e w11 ⟨rfl, hb11⟩; have HB11 := Aside0.mk (HB_w10.out.trans (hb11.mono HB_w10.out.size)); clear hb11)
        repeat (go_quiet (fail); try go_wp2)
        first | go_end0 | ((try simp only [Exit.inBlock, Exit.then]); refine bodyPost_ret (results_tmp rfl _ _ _) rfl ?_)
        exact ⟨rfl, HB11.out⟩
end Go.Proofs.Ytneglmnffdmbiaa.P
