import Derived.Test.YtneglmnffdmbiaaOptRq
namespace Go.Proofs.Ytneglmnffdmbiaa.P
open Go.RowKit Go.Proofs.YtneglmnffdmbiaaW.PrintWords Go.Proofs.YtneglmnffdmbiaaW.PrintLast Go.Proofs.YtneglmnffdmbiaaW.PrintMore
set_option linter.unusedVariables false
set_option linter.unusedSimpArgs false

set_option maxHeartbeats 32000000 in
set_option maxRecDepth 100000 in
theorem refopt_calls (A0 : Option Addr) (c0 : Nat) (L0 : List S34) (root : Int) (ro : Bool) (w : World) (hC : Kd.C k34 w A0 L0.length L0) (hc : L0.length ≤ c0) (ok : RefOk L0 root) :
    Calls Try.prog 11 #[.agg #[.slice A0 L0.length c0, .int .i64 root, .bool ro]] w fun e w' => ∃ v, e = .returned (.agg #[v, .int .i64 (optR L0 root), .bool ro]) ∧ (∃ A c, v = .slice A (optL L0 root).length c ∧ (optL L0 root).length ≤ c ∧ Kd.C k34 w' A (optL L0 root).length (optL L0 root)) ∧ Below w.heap.size w w' := by
  have OK := Aside0.mk ok
  have HC := Aside0.mk hC
  have N0 := ok.ok.n
  clear ok hC
  go_enter Try.func11, Try.ntmps11
  go_wp2
  have bz : Below w.heap.size w ((w.alloc (Obj.cells #[Value.slice A0 L0.length c0, Value.int IntKind.i64 root, Value.bool ro] 24)).alloc (Obj.cells #[Value.slice none 0 0, Value.int IntKind.i64 0, Value.bool false] 24)) :=
    below_alloc (below_alloc (Below.refl _ _) _) _
  have y0 := blk_new w (.cells #[Value.slice A0 L0.length c0, Value.int IntKind.i64 root, Value.bool ro] 24 (0, 0))
  have y1 := blk_new (w.alloc (.cells #[Value.slice A0 L0.length c0, Value.int IntKind.i64 root, Value.bool ro] 24 (0, 0))) (Obj.cells #[Value.slice none 0 0, Value.int IntKind.i64 0, Value.bool false] 24 (0, 0))
  replace y0 := blk_alloc y0 (Obj.cells #[Value.slice none 0 0, Value.int IntKind.i64 0, Value.bool false] 24 (0, 0))
  rw [World.size_alloc] at y1
  generalize ((w.alloc (Obj.cells #[Value.slice A0 L0.length c0, Value.int IntKind.i64 root, Value.bool ro] 24)).alloc (Obj.cells #[Value.slice none 0 0, Value.int IntKind.i64 0, Value.bool false] 24)) = W0 at *
  have FR := Aside0.mk (show F1 w W0 A0 L0.length c0 root ro from ⟨y0, y1⟩)
  have OS := Aside0.mk (show R1 w W0 [] [] (.slice none 0 0) (.slice none 0 0) from ⟨OwnRow.none_ _ _ _ _ _, own_nil _ _ _ _, StepsW.nil _ _, fun p hp => absurd hp (by simp), fun p hp => absurd hp (by simp), bz⟩)
  clear y0 y1 bz
  go_loopg [3, 4, 5] (L0.length + 1) (fun kx v3 v4 v5 wr => ∃ (i : Nat) (ps : List (S34 × Lie)) (P : List Int), i ≤ L0.length ∧ L0.length - i + 1 ≤ kx ∧ v5 = .int .i64 i ∧ Aside0 (F1 w wr A0 L0.length c0 root ro) ∧ Aside0 (R1 w wr ps P v3 v4) ∧ Aside0 (opt1 (L0.take i) = (ps.map Prod.fst, P)))
  case atStart => exact ⟨0, [], [], Nat.zero_le _, by omega, rfl, FR, OS, ⟨rfl⟩⟩
  case round =>
    clear FR OS
    obtain ⟨i, ps, P, hi, hg, rfl, FF, RR, EE⟩ := hrel
    by_cases hlt : i < L0.length
    · have hd : decide ((i : Int) < (L0.length : Int)) = true := decide_eq_true (by omega)
      have q3 : (0 : Int) ≤ (i : Int) := by omega
      obtain ⟨ad, A3, c3, A4, c4, A8, c8, A9, c9, rfl, f0, f1, f2, f3, f4, f5, f6, f7, f8, f9, l3, g3, l4, g4, l8, g8, l9, g9⟩ := at_T34 HC.out (i : Int) q3 (by omega)
      have hok := OK.out.ok.add i hlt
      have hfl := OK.out.fl i hlt
      have hsn := opt1_snoc L0 i hlt
      generalize rd_T34 L0 (i : Int) = t at *
      have HB := RR.out.bel
      replace f0 := (HB.cell (World.block_lt_of_cell? w _ f0)).trans f0
      replace f1 := (HB.cell (World.block_lt_of_cell? w _ f1)).trans f1
      replace f2 := (HB.cell (World.block_lt_of_cell? w _ f2)).trans f2
      replace f3 := (HB.cell (World.block_lt_of_cell? w _ f3)).trans f3
      replace f4 := (HB.cell (World.block_lt_of_cell? w _ f4)).trans f4
      replace f5 := (HB.cell (World.block_lt_of_cell? w _ f5)).trans f5
      replace f6 := (HB.cell (World.block_lt_of_cell? w _ f6)).trans f6
      replace f7 := (HB.cell (World.block_lt_of_cell? w _ f7)).trans f7
      replace f8 := (HB.cell (World.block_lt_of_cell? w _ f8)).trans f8
      replace f9 := (HB.cell (World.block_lt_of_cell? w _ f9)).trans f9
      rw [Int.toNat_natCast] at f0 f1 f2 f3 f4 f5 f6 f7 f8 f9
      have hlen := opt1_len (L0.take i)
      rw [List.length_take, Nat.min_eq_left hi, EE.out] at hlen
      have hps : ps.length = i := by rw [List.length_map] at hlen; exact hlen.1
      rw [EE.out] at hok hsn hfl
      have hPl : P.length = i := hlen.2
      simp only at hok hfl
      have HOK := Aside0.mk hok
      have HFL := Aside0.mk hfl
      have HSN := Aside0.mk hsn
      have HPS := Aside0.mk hps
      have HPL := Aside0.mk hPl
      have xp0 : wr.cell? ⟨w.heap.size, 0, none⟩ = some (.slice (some ad) L0.length c0) := (blk_cell FF.out.p 0).trans rfl
      have BA := Aside0.mk (below_alloc (Below.refl _ wr) (.cells #[.int .i64 t.f0, .int .i64 t.f1, .int .i64 t.f2, .slice A3 t.f3.length c3, .slice A4 t.f4.length c4, .int .i64 t.f5, .int .i64 t.f6, .int .i64 t.f7, .slice A8 t.f8.length c8, .slice A9 t.f9.length c9] 34 (0, 0)))
      have HOB := Aside0.mk (blk_new wr (.cells #[.int .i64 t.f0, .int .i64 t.f1, .int .i64 t.f2, .slice A3 t.f3.length c3, .slice A4 t.f4.length c4, .int .i64 t.f5, .int .i64 t.f6, .int .i64 t.f7, .slice A8 t.f8.length c8, .slice A9 t.f9.length c9] 34 (0, 0)))
      have hsz := World.size_alloc wr (.cells #[.int .i64 t.f0, .int .i64 t.f1, .int .i64 t.f2, .slice A3 t.f3.length c3, .slice A4 t.f4.length c4, .int .i64 t.f5, .int .i64 t.f6, .int .i64 t.f7, .slice A8 t.f8.length c8, .slice A9 t.f9.length c9] 34 (0, 0))
      have HSZ := Aside0.mk hsz
      have hl4 := HOK.out.l4
      clear hok hfl hsn hPl hlen hps HB hsz
      go_wp2
      obtain ⟨Wr, hWr⟩ : ∃ W, W = wr := ⟨_, rfl⟩
      subst hWr
      generalize Wr.alloc (.cells #[.int .i64 t.f0, .int .i64 t.f1, .int .i64 t.f2, .slice A3 t.f3.length c3, .slice A4 t.f4.length c4, .int .i64 t.f5, .int .i64 t.f6, .int .i64 t.f7, .slice A8 t.f8.length c8, .slice A9 t.f9.length c9] 34 (0, 0)) = W1 at *
      clear f0 f1 f2 f3 f4 f5 f6 f7 f8 f9 xp0
      have G3 := Aside0.mk g3
      have G4 := Aside0.mk g4
      have G8 := Aside0.mk g8
      have G9 := Aside0.mk g9
      clear g3 g4 g8 g9
      go_loopg [7, 8] (t.f4.length + 1) (fun kx v7 v8 wr => ∃ k : Nat, k ≤ t.f4.length ∧ t.f4.length - k + 1 ≤ kx ∧ v8 = .int .i64 k ∧ Aside0 (Kd.R (Kd.int .i64) 3 wr W1.heap.size (fun _ => True) v7 ((t.f4.take k).map (rd P))) ∧ Aside0 (Below W1.heap.size W1 wr))
      case atStart => exact ⟨0, Nat.zero_le _, by omega, rfl, ⟨Kd.R_nil _ _ _ _ _⟩, ⟨Below.refl _ _⟩⟩
      case round =>
        obtain ⟨k, hk, hgk, rfl, RK, BK⟩ := hrel
        have y4 : wr.cell? ⟨Wr.heap.size, 4, none⟩ = some (.slice A4 t.f4.length c4) := (blk_cell (blk_below HOB.out BK.out) 4).trans rfl
        by_cases hkl : k < t.f4.length
        · have hd2 : decide ((k : Int) < (t.f4.length : Int)) = true := decide_eq_true (by omega)
          have qk : (0 : Int) ≤ (k : Int) := by omega
          obtain ⟨Ap, cp, ep⟩ := own_slice RR.out.pl
          subst ep
          have hkk := HOK.out.k k hkl
          have BB := BA.out.trans (BK.out.mono (by have := HSZ.out; omega))
          obtain ⟨ad4, e4, z4⟩ := Kd.at_int (Kd.C_below (Kd.C_below G4.out RR.out.bel) BB) (k : Int) qk (by omega)
          subst e4
          obtain ⟨adp, ep, zp⟩ := Kd.at_int ((Kd.R_reads' (Kd.R_of_own (ok := fun _ => True) (h1 := fun _ => rfl) (RR.out.below BB).pl (fun _ _ => trivial))).2.2) (rd t.f4 (k : Int)) hkk.1 hkk.2
          subst ep
          rw [Int.toNat_natCast] at z4
          have q0 : (0 ≤ rd t.f4 (k : Int)) = True := eq_true hkk.1
          have q1 : (rd t.f4 (k : Int) < (P.length : Int)) = True := eq_true hkk.2
          have HTK := Aside0.mk (show (t.f4.take (k + 1)).map (rd P) = (t.f4.take k).map (rd P) ++ [rd P (rd t.f4 (k : Int))] by
            rw [List.take_succ_eq_append_getElem hkl, List.map_append]
            simp [rd, List.getD, hkl])
          have HTL := Aside0.mk (show ((t.f4.take k).map (rd P)).length ≤ 100000 by rw [List.length_map, List.length_take]; omega)
          clear hkk BB
          generalize rd t.f4 (k : Int) = kk at *
          generalize rd P kk = pk at *
          generalize (t.f4.take k).map (rd P) = kl at *
          obtain ⟨A7, c7, e7, _⟩ := Kd.R_reads RK.out
          subst e7
          go_wp2_with ((with_reducible refine gate_builtin (b := .append) (xs := #[.tmp 40, .tmp 49]) rfl ?_); (try (refine gate_guard (by rfl) ?_; dsimp only)); at_builtin; refine Kd.R_append (Kd.int .i64) (w0 := W1) W1.heap.size rfl (.tmp 40) (.tmp 49) 25 3 (.int .i64 0) 8 rfl Try.underlying25 info3 rfl (by decide) (by omega) (.slice A7 kl.length c7) kl pk [.int .i64 pk] (fun _ => True) (fun _ => False) rfl ?aX ?aP (fun _ hk => hk.elim) (fun _ _ => trivial) ?aO ?aB ?aS ?aL ?_; (case aX => first | rfl | (simp [World.size_alloc, Act.eval]; done)); (case aP => exact rfl); (case aB => exact BK.out); (case aO => exact RK.out); (case aS => exact BK.out.size); (case aL => have := HTL.out; omega); intro v1 w1 ho1 hb1 hg1 hat1; have HO1 := Aside0.mk ho1; have HB1 := Aside0.mk hb1; clear ho1 hb1 hg1 hat1)
          go_roundg (t.f4.length - (k + 1) + 1)
          case rel => exact ⟨k + 1, by omega, by omega, by go_num, ⟨by rw [HTK.out]; exact HO1.out⟩, HB1⟩
          case measure => omega
        · have hd2 : decide ((k : Int) < (t.f4.length : Int)) = false := decide_eq_false (by omega)
          obtain rfl : k = t.f4.length := by omega
          rw [List.take_length] at RK
          obtain ⟨A7, c7, e7, _⟩ := Kd.R_reads RK.out
          subst e7
          obtain ⟨Wk, hWk⟩ : ∃ W, W = wr := ⟨_, rfl⟩
          subst hWk
          rw [List.length_map] at *
          have hbx := blk_below HOB.out BK.out
          have hfz := blk_frozen hbx 4
          have HBX := Aside0.mk (blk_set hbx 4 (.slice A7 t.f4.length c7))
          have HKV := Aside0.mk (own_setCell (Kd.own_of_R RK.out) (p := ⟨Wr.heap.size, 4, none⟩) (fun e_ => by
            have h_ := own_base (Kd.own_of_R RK.out) _ e_.symm
            have := HSZ.out
            simp at h_
            omega) (.slice A7 t.f4.length c7))
          have BB := Aside0.mk (below_set (g := Wr.heap.size) (j := 4) (v := .slice A7 t.f4.length c7) (BA.out.trans (BK.out.mono (by have := HSZ.out; omega))) (Nat.le_refl _))
          have HSZ2 := Aside0.mk (show Wr.heap.size + 1 ≤ (Wk.setCell ⟨Wr.heap.size, 4, none⟩ (.slice A7 t.f4.length c7)).heap.size from by
            have := BK.out.size
            have := HSZ.out
            have := (KeepsWalks.setCell Wk ⟨Wr.heap.size, 4, none⟩ (.slice A7 t.f4.length c7)).size
            omega)
          have hl3 := HOK.out.l3
          clear hbx
          go_wp2
          generalize Wk.setCell ⟨Wr.heap.size, 4, none⟩ (.slice A7 t.f4.length c7) = W2 at *
          clear y4 RK BK HOB BA hgk hk hfz hd2 G4
          go_loopg [9, 10] (t.f3.length + 1) (fun kx v9 v10 wr => ∃ k : Nat, k ≤ t.f3.length ∧ t.f3.length - k + 1 ≤ kx ∧ v10 = .int .i64 k ∧ Aside0 (Kd.R k36 36 wr W2.heap.size (fun _ => True) v9 ((t.f3.take k).map (kidE P))) ∧ Aside0 (Below W2.heap.size W2 wr))
          case atStart => exact ⟨0, Nat.zero_le _, by omega, rfl, ⟨Kd.R_nil _ _ _ _ _⟩, ⟨Below.refl _ _⟩⟩
          case round =>
            obtain ⟨k, hk, hgk, rfl, RK, BK⟩ := hrel
            have y3 : wr.cell? ⟨Wr.heap.size, 3, none⟩ = some (.slice A3 t.f3.length c3) := (blk_cell (blk_below HBX.out BK.out) 3).trans rfl
            by_cases hkl : k < t.f3.length
            · have hd2 : decide ((k : Int) < (t.f3.length : Int)) = true := decide_eq_true (by omega)
              have qk : (0 : Int) ≤ (k : Int) := by omega
              obtain ⟨Ap, cp, ep⟩ := own_slice RR.out.pl
              subst ep
              obtain ⟨hxo, hk0, hk1, _, _⟩ := HOK.out.e k hkl
              have BW := BB.out.trans (BK.out.mono (by have := HSZ2.out; omega))
              obtain ⟨ad3, e3, z0, z1, z2, z3⟩ := at_T36 (Kd.C_below (Kd.C_below G3.out RR.out.bel) BW) (k : Int) qk (by omega)
              subst e3
              obtain ⟨adp, ep, zp⟩ := Kd.at_int ((Kd.R_reads' (Kd.R_of_own (ok := fun _ => True) (h1 := fun _ => rfl) (RR.out.below BW).pl (fun _ _ => trivial))).2.2) (rd_T36 t.f3 (k : Int)).f2 hk0 hk1
              subst ep
              rw [Int.toNat_natCast] at z0 z1 z2 z3
              have q0 : (0 ≤ (rd_T36 t.f3 (k : Int)).f2) = True := eq_true hk0
              have q1 : ((rd_T36 t.f3 (k : Int)).f2 < (P.length : Int)) = True := eq_true hk1
              have HTK := Aside0.mk (show (t.f3.take (k + 1)).map (kidE P) = (t.f3.take k).map (kidE P) ++ [{ rd_T36 t.f3 (k : Int) with f2 := rd P (rd_T36 t.f3 (k : Int)).f2 }] by
                rw [List.take_succ_eq_append_getElem hkl, List.map_append]
                simp [rd_T36, List.getD, hkl, kidE])
              have HTL := Aside0.mk (show ((t.f3.take k).map (kidE P)).length ≤ 100000 by rw [List.length_map, List.length_take]; omega)
              clear hk0 hk1 hxo BW
              generalize rd_T36 t.f3 (k : Int) = x at *
              obtain ⟨pk, hpk⟩ : ∃ pk, pk = rd P x.f2 := ⟨_, rfl⟩
              rw [← hpk] at zp HTK
              clear hpk
              have BX := Aside0.mk (below_alloc (Below.refl wr.heap.size wr) (.cells #[.int .i64 x.f0, .int .i64 x.f1, .int .i64 pk, .int .i64 x.f3] 36 (0, 0)))
              have zp2 := pw_cell_below (below_alloc (Below.refl wr.heap.size wr) (.cells #[.int .i64 x.f0, .int .i64 x.f1, .int .i64 x.f2, .int .i64 x.f3] 36 (0, 0))) zp
              generalize (t.f3.take k).map (kidE P) = kl at *
              obtain ⟨A9_, c9_, e9, _⟩ := Kd.R_reads RK.out
              subst e9
              go_wp2_with ((with_reducible refine gate_builtin (b := .append) (xs := #[.tmp 71, .tmp 73]) rfl ?_); (try (refine gate_guard (by rfl) ?_; dsimp only)); at_builtin; refine Kd.R_append k36 (w0 := W2) W2.heap.size rfl (.tmp 71) (.tmp 73) 31 36 (.agg #[(.int .i64 0), (.int .i64 0), (.int .i64 0), (.int .i64 0)]) 32 rfl Try.underlying31 info36 rfl (by decide) (by omega) (.slice A9_ kl.length c9_) kl { x with f2 := pk } [.int .i64 x.f0, .int .i64 x.f1, .int .i64 pk, .int .i64 x.f3] (fun _ => True) (fun _ => False) rfl ?aX ?aP (fun _ hk => hk.elim) (fun _ _ => trivial) ?aO ?aB ?aS ?aL ?_; (case aX => first | rfl | (simp [World.size_alloc, Act.eval]; done)); (case aP => exact k36_mkM _ _ _ _); (case aB => exact BK.out.trans (BX.out.mono BK.out.size)); (case aO => exact R36 (pw_own_below (own36 RK.out) BX.out) (fun _ _ => trivial)); (case aS => exact Nat.le_trans BK.out.size BX.out.size); (case aL => have := HTL.out; omega); intro v1 w1 ho1 hb1 hg1 hat1; have HO1 := Aside0.mk ho1; have HB1 := Aside0.mk hb1; clear ho1 hb1 hg1 hat1)
              go_roundg (t.f3.length - (k + 1) + 1)
              case rel => exact ⟨k + 1, by omega, by omega, by go_num, ⟨by rw [HTK.out]; exact HO1.out⟩, HB1⟩
              case measure => omega
            · have hd2 : decide ((k : Int) < (t.f3.length : Int)) = false := decide_eq_false (by omega)
              obtain rfl : k = t.f3.length := by omega
              rw [List.take_length] at RK
              obtain ⟨A9_, c9_, e9, l9_, g9_⟩ := Kd.R_reads RK.out
              subst e9
              obtain ⟨Wx, hWx⟩ : ∃ W, W = wr := ⟨_, rfl⟩
              subst hWx
              have BX := Aside0.mk (BB.out.trans (BK.out.mono (by have := HSZ2.out; omega)))
              have RX := Aside0.mk (RR.out.below BX.out)
              obtain ⟨As, cs, esv, hcs, hCs⟩ := RX.out.st.C (fun p hp => (RX.out.key p hp).below RX.out.bel) RX.out.cs
              subst esv
              obtain ⟨fl, ⟨kf, hkf⟩, hfl, hflo, hfe⟩ := step_plain HOK.out HFL.out
              have hcf := cofferdamref16_fused.calls kf As cs (ps.map Prod.fst) A9_ c9_ (t.f3.map (kidE P)) fl Wx (by rw [List.length_map]; exact hCs) (by rw [List.length_map]; exact hcs) g9_ l9_ hkf
              rw [List.length_map, List.length_map] at hcf
              rw [List.length_map] at *
              have HCF := Aside0.mk hcf
              obtain ⟨E, hE⟩ : ∃ E, E = addE (ps.map Prod.fst) P t.f3 := ⟨_, rfl⟩
              rw [← hE] at hfe
              have HE := Aside0.mk hE
              have HFE := Aside0.mk hfe
              have HFO := Aside0.mk hflo
              have HFN := Aside0.mk hfl
              have HBW := Aside0.mk (blk_below HBX.out BK.out)
              have HKW := Aside0.mk (pw_own_below HKV.out BK.out)
              have HSX := Aside0.mk (Nat.le_trans HSZ2.out BK.out.size)
              clear hcf hfe hE hflo hfl hkf hCs hcs g9_ l9_ RK BK HBX HKV HSZ2 BB hgk hk
              go_wp2_with (first | (go_at_call 17; (with_reducible refine HCF.out.mono ?_); rintro e w5 ⟨v5, rfl, hr5, hb5⟩; obtain ⟨A5, c5, e5, l5, g5⟩ := Kd.R_reads hr5; subst e5; have HCJ := Aside0.mk (joined_calls A5 c5 fl w5 g5 l5 HFN.out HFO.out); have HB5 := Aside0.mk hb5; clear hb5 hr5 g5 l5) | (go_at_call 16; (with_reducible refine HCJ.out.mono ?_); rintro e w6 ⟨v6, rfl, hr6, hb6⟩; rw [HFE.out] at hr6; obtain ⟨A6, c6, e6, l6, g6⟩ := Kd.R_reads hr6; subst e6; have HB6 := Aside0.mk (HB5.out.trans (hb6.mono HB5.out.size)); have HR6 := Aside0.mk hr6; have H56 := Aside0.mk HB5.out.size; have HX6 := Aside0.mk (blk_below HBW.out HB6.out); have hf6 := blk_frozen HX6.out 3; have hc6 : w6.cell? ⟨Wr.heap.size, 3, none⟩ = some (.slice A3 t.f3.length c3) := (blk_cell HX6.out 3).trans rfl; clear hb6 hr6 g6 l6))
              have W7E := Aside0.mk (own_setCell (own36 HR6.out) (p := ⟨Wr.heap.size, 3, none⟩) (fun e_ => by
                have h_ := own_base (own36 HR6.out) _ e_.symm
                have := H56.out
                have := HSX.out
                simp at h_
                omega) (.slice A6 E.length c6))
              have W7K := Aside0.mk (own_setCell (pw_own_below HKW.out HB6.out) (p := ⟨Wr.heap.size, 3, none⟩) (fun e_ => by
                have h_ := own_base HKW.out _ e_.symm
                have := HSZ.out
                simp at h_
                omega) (.slice A6 E.length c6))
              have W7B := Aside0.mk (blk_set HX6.out 3 (.slice A6 E.length c6))
              have W7L := Aside0.mk (below_set (g := Wr.heap.size) (j := 3) (v := .slice A6 E.length c6) (BX.out.trans (HB6.out.mono BX.out.size)) (Nat.le_refl _))
              have HEN := Aside0.mk (show E.length = 1 → 0 ≤ (rd_T36 E 0).f2 ∧ (rd_T36 E 0).f2 < (ps.length : Int) from fun h => by
                have h_ := addE_one HOK.out (by rw [HE.out] at h; exact h)
                rw [List.length_map, ← HE.out] at h_
                exact h_)
              have H5R := Aside0.mk (show Wr.heap.size ≤ w5.heap.size from by have := H56.out; have := HSX.out; omega)
              clear hc6 hf6 HX6 HKW HBW HR6 HB6 HB5 H56 HSX BX RX HCJ HCF HFO HFN hl3 hl4 y3
              generalize w6.setCell ⟨Wr.heap.size, 3, none⟩ (.slice A6 E.length c6) = W7 at *
              have d3 : W7.cell? ⟨Wr.heap.size, 3, none⟩ = some (.slice A6 E.length c6) := (blk_cell W7B.out 3).trans rfl
              go_cut [109] (fun v109 wc => v109 = .bool (oneB (ps.map Prod.fst) E) ∧ Aside0 (Below W7.heap.size W7 wc))
              case first =>
                by_cases h1 : E.length = 1
                · have n1 : ((E.length : Int) == 1) = true := by
                    rw [beq_iff_eq]
                    omega
                  have hk := HEN.out h1
                  obtain ⟨ad6, e6, z0, z1, z2, z3⟩ := at36_0 (n := E.length) (Kd_own36 W7E.out) (by omega)
                  subst e6
                  have R7 := RR.out.below W7L.out
                  obtain ⟨As_, cs_, es_, _, hCs⟩ := R7.st.C (fun p hp => (R7.key p hp).below R7.bel) R7.cs
                  injection es_ with ea_ _ ec_
                  subst ea_ ec_
                  obtain ⟨adk, B3, d3_, B4, d4_, B8, d8_, B9, d9_, eak, _, k1, _⟩ := at_T34 hCs (rd_T36 E 0).f2 hk.1 hk.2
                  subst eak
                  have q0 : (0 ≤ (rd_T36 E 0).f2) = True := eq_true hk.1
                  have q1 : ((rd_T36 E 0).f2 < (ps.length : Int)) = True := eq_true hk.2
                  have q2 : (0 : Int) < (E.length : Int) := by omega
                  clear R7 hCs hk
                  by_cases h2 : (rd_T36 E 0).f3 = 0
                  · have n2 : ((rd_T36 E 0).f3 == 0) = true := by rw [h2]; rfl
                    by_cases h3 : (rd_T36 E 0).f1 = (rd_T34 (ps.map Prod.fst) (rd_T36 E 0).f2).f1
                    · have n3 : ((rd_T36 E 0).f1 == (rd_T34 (ps.map Prod.fst) (rd_T36 E 0).f2).f1) = true := by rw [h3]; exact beq_self_eq_true _
                      have HB := Aside0.mk (oneB_true (M := ps.map Prod.fst) (E := E) ⟨h1, h2, h3⟩)
                      clear h2 h3
                      go_wp2
                      repeat (go_quiet (fail); try go_wp2)
                      go_meet
                      case rel => exact ⟨by rw [HB.out], ⟨pw_below_drewN (Below.refl _ _) _⟩⟩
                    · have n3 : ((rd_T36 E 0).f1 == (rd_T34 (ps.map Prod.fst) (rd_T36 E 0).f2).f1) = false := beq_eq_false_iff_ne.2 h3
                      have HB := Aside0.mk (oneB_false (M := ps.map Prod.fst) (E := E) (fun h => h3 h.2.2))
                      clear h2 h3
                      go_wp2
                      repeat (go_quiet (fail); try go_wp2)
                      go_meet
                      case rel => exact ⟨by rw [HB.out], ⟨pw_below_drewN (Below.refl _ _) _⟩⟩
                  · have n2 : ((rd_T36 E 0).f3 == 0) = false := beq_eq_false_iff_ne.2 h2
                    have HB := Aside0.mk (oneB_false (M := ps.map Prod.fst) (E := E) (fun h => h2 h.2.1))
                    clear h2
                    go_wp2
                    repeat (go_quiet (fail); try go_wp2)
                    go_meet
                    case rel => exact ⟨by rw [HB.out], ⟨pw_below_drewN (Below.refl _ _) _⟩⟩
                · have n1 : ((E.length : Int) == 1) = false := by
                    rw [beq_eq_false_iff_ne]
                    omega
                  have HB := Aside0.mk (oneB_false (M := ps.map Prod.fst) (E := E) (fun h => h1 h.1))
                  go_wp2
                  repeat (go_quiet (fail); try go_wp2)
                  go_meet
                  case rel => exact ⟨by rw [HB.out], ⟨pw_below_drewN (Below.refl _ _) _⟩⟩
              case rest =>
                obtain ⟨rfl, BC⟩ := hcut
                obtain ⟨Wc, hWc⟩ : ∃ W, W = wc := ⟨_, rfl⟩
                subst hWc
                go_upto_if 109 with (fail)
                go_cut [12] (fun v12 wc => v12 = .int .i64 (atL (ps.map Prod.fst) E) ∧ Aside0 (Below W7.heap.size W7 wc))
                case first =>
                  cases hb : oneB (ps.map Prod.fst) E with
                  | true =>
                    have h1 := oneB_len hb
                    have HAT := Aside0.mk (show atL (ps.map Prod.fst) E = (rd_T36 E 0).f2 by rw [oneB_at, if_pos hb])
                    obtain ⟨ad6, e6, z0, z1, z2, z3⟩ := at36_0 (n := E.length) (Kd_own36 (pw_own_below W7E.out BC.out)) (by omega)
                    subst e6
                    have d3 : Wc.cell? ⟨Wr.heap.size, 3, none⟩ = some (.slice (some ad6) E.length c6) := (blk_cell (blk_below W7B.out BC.out) 3).trans rfl
                    have q2 : (0 : Int) < (E.length : Int) := by omega
                    go_wp2
                    go_meet
                    case rel => exact ⟨by rw [HAT.out], BC⟩
                  | false =>
                    have HAT := Aside0.mk (show atL (ps.map Prod.fst) E = (i : Int) by rw [oneB_at, if_neg (by rw [hb]; decide), List.length_map, HPS.out])
                    go_wp2
                    go_meet
                    case rel => exact ⟨by rw [HAT.out], BC⟩
                case rest =>
                  obtain ⟨rfl, BC⟩ := hcut
                  obtain ⟨Ap, cp, ep⟩ := own_slice RR.out.pl
                  subst ep
                  have BX := Aside0.mk (W7L.out.trans (BC.out.mono W7L.out.size))
                  have RX := Aside0.mk (RR.out.below BX.out)
                  have hbx := blk_below W7B.out BC.out
                  have k0 : wc.cell? ⟨Wr.heap.size, 0, none⟩ = some (.int .i64 t.f0) := (blk_cell hbx 0).trans rfl
                  have k1 : wc.cell? ⟨Wr.heap.size, 1, none⟩ = some (.int .i64 t.f1) := (blk_cell hbx 1).trans rfl
                  have k2 : wc.cell? ⟨Wr.heap.size, 2, none⟩ = some (.int .i64 t.f2) := (blk_cell hbx 2).trans rfl
                  have k3 : wc.cell? ⟨Wr.heap.size, 3, none⟩ = some (.slice A6 E.length c6) := (blk_cell hbx 3).trans rfl
                  have k4 : wc.cell? ⟨Wr.heap.size, 4, none⟩ = some (.slice A7 t.f4.length c7) := (blk_cell hbx 4).trans rfl
                  have k5 : wc.cell? ⟨Wr.heap.size, 5, none⟩ = some (.int .i64 t.f5) := (blk_cell hbx 5).trans rfl
                  have k6 : wc.cell? ⟨Wr.heap.size, 6, none⟩ = some (.int .i64 t.f6) := (blk_cell hbx 6).trans rfl
                  have k7 : wc.cell? ⟨Wr.heap.size, 7, none⟩ = some (.int .i64 t.f7) := (blk_cell hbx 7).trans rfl
                  have k8 : wc.cell? ⟨Wr.heap.size, 8, none⟩ = some (.slice A8 t.f8.length c8) := (blk_cell hbx 8).trans rfl
                  have k9 : wc.cell? ⟨Wr.heap.size, 9, none⟩ = some (.slice A9 t.f9.length c9) := (blk_cell hbx 9).trans rfl
                  have w8k := pw_own_below W7K.out BC.out
                  have W8K := Aside0.mk (own_less (base := Wr.heap.size) w8k (by have := HSZ.out; omega))
                  clear w8k
                  have HLP := Aside0.mk (show ps.length ≤ 1000 ∧ P.length ≤ 1000 by have := HPS.out; have := HPL.out; omega)
                  have HNT := Aside0.mk (show (ps ++ [(({ t with f3 := E, f4 := t.f4.map (rd P) } : S34), (⟨.slice A6 E.length c6, .slice A7 t.f4.length c7, .slice A8 t.f8.length c8, .slice A9 t.f9.length c9⟩ : Lie))]).map Prod.fst = (addS (ps.map Prod.fst, P) t).1 ∧ P ++ [atL (ps.map Prod.fst) E] = (addS (ps.map Prod.fst, P) t).2 by
                    unfold addS
                    rw [newT_all HOK.out, newP_all HOK.out, ← HE.out, List.map_append]
                    exact ⟨rfl, rfl⟩)
                  have HCN := Aside0.mk (show t.f0 ≠ 3 → E = [] ∧ ∃ A c, (Value.slice A6 E.length c6) = .slice A 0 c from fun h => by
                    have e_ : E = [] := by rw [HE.out, HOK.out.n3 h]; rfl
                    exact ⟨e_, A6, c6, by rw [e_]; rfl⟩)
                  generalize atL (ps.map Prod.fst) E = at_ at *
                  clear hbx
                  go_wp2_with (first | ((with_reducible refine gate_builtin (b := .append) (xs := #[.tmp 115, .tmp 117]) rfl ?_); (try (refine gate_guard (by rfl) ?_; dsimp only)); at_builtin; refine OwnRow.append (R := CellsOf) (w0 := w) w.heap.size rfl (.tmp 115) (.tmp 117) 22 34 _ 10 144 rfl Try.underlying22 info34 rfl (by decide) (by decide) (.slice As ps.length cs) ps ({ t with f3 := E, f4 := t.f4.map (rd P) }, ⟨.slice A6 E.length c6, .slice A7 t.f4.length c7, .slice A8 t.f8.length c8, .slice A9 t.f9.length c9⟩) [.int .i64 t.f0, .int .i64 t.f1, .int .i64 t.f2, .slice A6 E.length c6, .slice A7 t.f4.length c7, .int .i64 t.f5, .int .i64 t.f6, .int .i64 t.f7, .slice A8 t.f8.length c8, .slice A9 t.f9.length c9] rfl ?aX ?aP rfl ?a1 ?aO ?aB ?aS ?aL ?_; (case aX => first | rfl | (simp [World.size_alloc, Act.eval]; done)); (case aP => exact rfl); (case a1 => intro u hu; simp at hu; rcases hu with rfl | rfl | rfl | rfl | rfl | rfl | rfl | rfl | rfl | rfl <;> rfl); (case aO => exact RX.out.cs); (case aB => exact RX.out.bel); (case aS => exact RX.out.bel.size); (case aL => have := HLP.out.1; omega); intro vo1 w1 ho1 hb1 hg1 hat1; have HO1 := Aside0.mk ho1; have HB1 := Aside0.mk hb1; have HG1 := Aside0.mk hg1; have HP1 := Aside0.mk (RX.out.pl1 hg1); clear ho1 hb1 hg1 hat1) | ((with_reducible refine gate_builtin (b := .append) (xs := #[.tmp 119, .tmp 121]) rfl ?_); (try (refine gate_guard (by rfl) ?_; dsimp only)); at_builtin; refine Kd.R_append (Kd.int .i64) (w0 := w) w.heap.size rfl (.tmp 119) (.tmp 121) 25 3 (.int .i64 0) 8 rfl Try.underlying25 info3 rfl (by decide) (by omega) (.slice Ap P.length cp) P at_ [.int .i64 at_] (fun _ => True) (fun _ => False) rfl ?aX ?aP (fun _ hk => hk.elim) (fun _ _ => trivial) ?aO ?aB ?aS ?aL ?_; (case aX => first | rfl | (simp [World.size_alloc, Act.eval]; done)); (case aP => exact rfl); (case aB => exact HB1.out); (case aO => exact Kd.R_of_own HP1.out (fun _ _ => trivial)); (case aS => exact HB1.out.size); (case aL => have := HLP.out.2; omega); intro v2 w2 ho2 hb2 hg2 hat2; have HO2 := Aside0.mk (Kd.own_of_R ho2); have HB2 := Aside0.mk hb2; have HG2 := Aside0.mk hg2; have HA2 := Aside0.mk hat2; clear ho2 hb2 hg2 hat2))
                  go_roundg (L0.length - (i + 1) + 1)
                  case rel => exact ⟨i + 1, ps ++ [(({ t with f3 := E, f4 := t.f4.map (rd P) } : S34), (⟨.slice A6 E.length c6, .slice A7 t.f4.length c7, .slice A8 t.f8.length c8, .slice A9 t.f9.length c9⟩ : Lie))], P ++ [at_], by omega, by omega, by go_num, ⟨F1.grown (F1.grown (FF.out.below BX.out) RX.out.cs.choose_spec.1 (by decide) HG1.out) HP1.out (by decide) HG2.out⟩, ⟨R1.snoc (t := { t with f3 := E, f4 := t.f4.map (rd P) }) (r := ⟨.slice A6 E.length c6, .slice A7 t.f4.length c7, .slice A8 t.f8.length c8, .slice A9 t.f9.length c9⟩) (x := at_) RR.out BX.out (show wc.ownsRow Wr.heap.size 3 1 (.slice A7 t.f4.length c7) (t.f4.map (rd P)).length (nums .i64 (t.f4.map (rd P))) from by rw [List.length_map]; exact W8K.out) (fun _ => own_less (pw_own_below W7E.out BC.out) H5R.out) HCN.out ⟨A8, c8, A9, c9, rfl, l8, G8.out, rfl, l9, G9.out⟩ HO1.out HG1.out HO2.out HB2.out HG2.out HA2.out⟩, ⟨by rw [HSN.out, HNT.out.1, HNT.out.2]⟩⟩
                  case measure => omega
    · have hd : decide ((i : Int) < (L0.length : Int)) = false := decide_eq_false (by omega)
      obtain rfl : i = L0.length := by omega
      rw [List.take_length] at EE
      obtain ⟨W3, hW3⟩ : ∃ W3, W3 = wr := ⟨_, rfl⟩
      subst hW3
      have hl := opt1_len L0
      rw [EE.out, List.length_map] at hl
      have hl1 : ps.length = L0.length := hl.1
      have hl2 : P.length = L0.length := hl.2
      obtain ⟨Ap, cp, epv⟩ := own_slice RR.out.pl
      subst epv
      have p0 := OK.out.ok.r0
      have p1 := OK.out.ok.r1
      have q0 : (0 ≤ root) = True := eq_true p0
      have q1 : (root < (P.length : Int)) = True := eq_true (by omega)
      obtain ⟨adp, eap, y0⟩ := Kd.at_int ((Kd.R_reads' (Kd.R_of_own (ok := fun _ => True) (h1 := fun _ => rfl) RR.out.pl (fun _ _ => trivial))).2.2) root p0 (by omega)
      subst eap
      have xp0 : W3.cell? ⟨w.heap.size, 0, none⟩ = some (.slice A0 L0.length c0) := (blk_cell FF.out.p 0).trans rfl
      have xp : W3.cell? ⟨w.heap.size, 1, none⟩ = some (.int .i64 root) := (blk_cell FF.out.p 1).trans rfl
      obtain ⟨As, cs, esv, hcs, hCs⟩ := RR.out.st.C (fun p hp => (RR.out.key p hp).below RR.out.bel) RR.out.cs
      subst esv
      have r0 := OK.out.ok.p0
      have r1 := OK.out.ok.p1
      have hdn := OK.out.ok.down
      have hw4 := OK.out.ok.l4
      have hw3 := OK.out.l3
      have hV : optV L0 root = liveV (ps.map Prod.fst) (rd P root) := by unfold optV; rw [EE.out]
      rw [EE.out] at r0 r1 hdn hw4 hw3
      simp only at r0 r1 hdn hw4 hw3
      have hL : optL L0 root = optG (ps.map Prod.fst) (liveV (ps.map Prod.fst) (rd P root)) := by unfold optL; rw [EE.out, hV]
      have hR : optR L0 root = cntI (liveV (ps.map Prod.fst) (rd P root)) (rd P root) := by unfold optR; rw [EE.out, hV]
      have HEL := Aside0.mk hL
      have HER := Aside0.mk hR
      obtain ⟨kb, bl, hbl, hbn, hbv⟩ := below_some (M := ps.map Prod.fst) (root := rd P root) hdn (by rw [List.length_map]; omega) hw3 hw4 r0 (by rw [List.length_map]; omega)
      have hcb := cofferdamref16_below.calls kb As cs (ps.map Prod.fst) (rd P root) bl W3 (by rw [List.length_map]; exact hCs) (by rw [List.length_map]; exact hcs) hbl
      rw [List.length_map] at hcb hbn hbv
      have HDN := Aside0.mk hdn
      have HW3 := Aside0.mk hw3
      have HW4 := Aside0.mk hw4
      have HBV := Aside0.mk hbv
      have HBN := Aside0.mk hbn
      have HCB := Aside0.mk hcb
      clear hL hR hV hdn hw3 hw4 hbv hbn hcb hbl hCs hcs
      have HN := Aside0.mk (show ps.length ≤ 1000 ∧ 0 < ps.length by omega)
      have hmk := print_make (P := Try.prog) 25 3 .i64 8 Try.underlying25 info3 (by decide) ps.length (by omega)
      generalize rd P root = r at *
      have HR01 := Aside0.mk (show 0 ≤ r ∧ r < (ps.length : Int) from ⟨r0, by omega⟩)
      have HLL := Aside0.mk hl
      clear r0 r1 hl hl1 hl2
      go_wp2_with (go_at_call 18; (with_reducible refine HCB.out.mono ?_); rintro e w5 ⟨v5, rfl, hr5, hb5⟩; have ho5 := Kd.own_of_R hr5; rw [HBN.out] at ho5; obtain ⟨lb, lc, el5, _, _⟩ := ho5.form HN.out.2; subst el5; have HO5 := Aside0.mk (own_less ho5 RR.out.bel.size); have HF5 := Aside0.mk (FF.out.below hb5); have HR5 := Aside0.mk (RR.out.below hb5); have xp2 : (w5.alloc (.cells (madeCells #[.int .i64 0] ps.length) 3)).cell? ⟨w.heap.size, 2, none⟩ = some (.bool ro) := (blk_cell (blk_alloc HF5.out.p _) 2).trans rfl; clear hb5 ho5 hr5)
      have h6b : Below w5.heap.size w5 ((w5.alloc (.cells (madeCells #[.int .i64 0] ps.length) 3)).alloc (.cells #[.slice none 0 0, .int .i64 0, .bool ro] 24 (0, 0))) := below_alloc (below_alloc (Below.refl _ _) _) _
      have h6m := own_made w5 w.heap.size 3 .i64 ps.length (by have := HR5.out.bel.size; omega) (by have := HN.out; omega)
      have h6o := blk_new (w5.alloc (.cells (madeCells #[.int .i64 0] ps.length) 3)) (.cells #[.slice none 0 0, .int .i64 0, .bool ro] 24 (0, 0))
      rw [World.size_alloc] at h6o
      have h6f := HF5.out.below h6b
      have h6r := HR5.out.below h6b
      have h6l := pw_own_below HO5.out h6b
      have h6n := pw_own_below h6m (below_alloc (Below.refl _ _) (.cells #[.slice none 0 0, .int .i64 0, .bool ro] 24 (0, 0)))
      have h6e : ∀ p ∈ ps, NeRow (.slice (some ⟨w5.heap.size, 0, none⟩) ps.length ps.length) p.2.kv := fun p hp => by
        obtain ⟨j, hj⟩ := List.mem_iff_getElem?.1 hp
        exact ne_made (HR5.out.st.row j p hj).k
      have h6s := HR5.out.bel.size
      have h6t := blk_lt HF5.out.r
      generalize ((w5.alloc (.cells (madeCells #[.int .i64 0] ps.length) 3)).alloc (.cells #[.slice none 0 0, .int .i64 0, .bool ro] 24 (0, 0))) = W6 at *
      obtain ⟨nb, hnb⟩ : ∃ nb, nb = w5.heap.size := ⟨_, rfl⟩
      obtain ⟨ob, hob⟩ : ∃ ob, ob = w5.heap.size + 1 := ⟨_, rfl⟩
      rw [← hob] at h6o
      rw [← hnb] at h6n h6e
      rw [← hob, ← hnb]
      have PH0 := Aside0.mk (show Q3 w ps.length nb ps.length (.slice (some ⟨lb, 0, none⟩) ps.length lc) bl ob (w.heap.size + 1) As cs ro W6 (Mst (liveV (ps.map Prod.fst) r) ps 0) (outs (liveV (ps.map Prod.fst) r) ps 0) (.slice none 0 0) (List.replicate ps.length 0) from
        ⟨by rw [Mst_zero]; exact h6r.cs, by rw [Mst_zero]; exact h6r.st, OwnRow.none_ _ _ _ _ _, ne_nil _, h6o, h6n, by rw [Mst_zero]; exact h6e, h6l, h6f.r, h6r.bel, by omega⟩)
      have KEY := Aside0.mk h6r.key
      clear h6b h6m h6o h6f h6r h6l h6n h6e h6s h6t HF5 HR5 HO5 xp2 hmk hnb hob HCB FF RR y0 xp xp0 hd p0 p1 q0 q1
      obtain ⟨V, hVL⟩ : ∃ V, V = liveV (ps.map Prod.fst) r := ⟨_, rfl⟩
      rw [← hVL] at PH0 HEL HER
      have HVL := Aside0.mk hVL
      have HBV2 := Aside0.mk (show ∀ j : Int, 0 ≤ j → j < (ps.length : Int) → rdOf false bl j = V j by rw [hVL]; exact HBV.out)
      have HRV := Aside0.mk (show V r = true by rw [hVL]; exact (liveV_iff _ _ _).2 (.refl _))
      clear hVL HBV
      go_loopg [17] (ps.length + 1) (fun kx v17 wr => ∃ (i : Nat) (outv : Value) (Ns : List Int), i ≤ ps.length ∧ ps.length - i + 1 ≤ kx ∧ v17 = .int .i64 i ∧ Aside0 (Q3 w ps.length nb ps.length (.slice (some ⟨lb, 0, none⟩) ps.length lc) bl ob (w.heap.size + 1) As cs ro wr (Mst V ps i) (outs V ps i) outv Ns) ∧ Aside0 (∀ k : Int, 0 ≤ k → k < i → V k = true → rd Ns k = cntI V k))
      case atStart => exact ⟨0, _, _, Nat.zero_le _, by omega, rfl, PH0, ⟨fun k h0 h1 => by omega⟩⟩
      case round =>
        clear PH0
        obtain ⟨i, outv, Ns, hi, hg, rfl, PP, NN⟩ := hrel
        by_cases hlt : i < ps.length
        · have hd : decide ((i : Int) < (ps.length : Int)) = true := decide_eq_true (by omega)
          have q3 : (0 : Int) ≤ (i : Int) := by omega
          have hN := HN.out.1
          obtain ⟨pr, hp⟩ : ∃ pr, ps[i]? = some pr := ⟨_, List.getElem?_eq_getElem hlt⟩
          have hM := Mst_here V ps i pr hp
          have hky := (KEY.out pr (List.mem_of_getElem? hp))
          obtain ⟨t, r'⟩ := pr
          obtain ⟨adx, cx, ex, f0, f1, f2, f3, f4, f5, f6, f7, f8, f9⟩ := cells_at PP.out.fc (i : Int) q3 (t, r') (by rw [Int.toNat_natCast]; exact hM)
          injection ex with ex1 ex2 ex3
          subst ex1
          have hrow := PP.out.rowAt hM
          obtain ⟨A4, c4, e4⟩ := own_slice hrow.k
          have hev : ∃ A3 c3, r'.ev = .slice A3 t.f3.length c3 := by
            by_cases h3 : t.f0 = 3
            · exact own_slice (hrow.e h3)
            · obtain ⟨hn, A3, c3, e3⟩ := hrow.n h3
              rw [hn]
              exact ⟨A3, c3, e3⟩
          obtain ⟨A3, c3, e3⟩ := hev
          obtain ⟨A8, c8, A9, c9, e8, _, _, e9, _, _⟩ := hky
          obtain ⟨evr, kvr, v8r, v9r⟩ := r'
          simp only at e3 e4 e8 e9 f0 f1 f2 f3 f4 f5 f6 f7 f8 f9
          subst e3 e4 e8 e9
          rw [Int.toNat_natCast] at f0 f1 f2 f3 f4 f5 f6 f7 f8 f9
          have HA := Aside0.mk (PP.out.alloc (.cells #[.int .i64 t.f0, .int .i64 t.f1, .int .i64 t.f2, .slice A3 t.f3.length c3, .slice A4 t.f4.length c4, .int .i64 t.f5, .int .i64 t.f6, .int .i64 t.f7, .slice A8 t.f8.length c8, .slice A9 t.f9.length c9] 34 (0, 0)))
          have HBX := Aside0.mk (blk_new wr (.cells #[.int .i64 t.f0, .int .i64 t.f1, .int .i64 t.f2, .slice A3 t.f3.length c3, .slice A4 t.f4.length c4, .int .i64 t.f5, .int .i64 t.f6, .int .i64 t.f7, .slice A8 t.f8.length c8, .slice A9 t.f9.length c9] 34 (0, 0)))
          obtain ⟨hlk, _⟩ := own_at_of (d := false) PP.out.lv (i : Int) q3 (show (i : Int) < ((ps.length : Nat) : Int) by omega)
          rw [HBV2.out (i : Int) q3 (by omega), Int.toNat_natCast] at hlk
          have HP := Aside0.mk hp
          have HM := Aside0.mk hM
          clear hp hM hrow ex2 ex3
          cases hv : V (i : Int) with
          | false =>
            rw [hv] at hlk
            have HV := Aside0.mk hv
            clear hv
            go_wp2
            go_roundg (ps.length - (i + 1) + 1)
            case rel => exact ⟨i + 1, outv, Ns, by omega, by omega, by go_num, ⟨by rw [Mst_dead V ps i HV.out, outs_dead V ps i HV.out]; exact PP.out⟩, ⟨fun k h0 h1 h2 => NN.out k h0 (by by_cases hk : k = (i : Int); (rw [hk, HV.out] at h2; cases h2); omega) h2⟩⟩
            case measure => omega
          | true =>
            rw [hv] at hlk
            have HV := Aside0.mk hv
            clear hv
            have HT := Aside0.mk (show rd_T34 (ps.map Prod.fst) (i : Int) = t by
              have e_ := HP.out
              simp [rd_T34, List.getD, List.getElem?_map, e_])
            have hw4 : t.f4.length ≤ 100000 := by
              have h_ := HW4.out (i : Int)
              rw [HT.out] at h_
              exact h_
            have hw3 : t.f3.length ≤ 100000 := by
              have h_ := HW3.out (i : Int)
              rw [HT.out] at h_
              exact h_
            obtain ⟨Ao, co, eo, _⟩ := PP.out.out.slice_
            rw [outs_len V ps i] at eo
            subst eo
            go_wp2
            obtain ⟨tb, htb⟩ : ∃ tb, tb = wr.heap.size := ⟨_, rfl⟩
            rw [← htb] at HBX ⊢
            generalize wr.alloc (.cells #[.int .i64 t.f0, .int .i64 t.f1, .int .i64 t.f2, .slice A3 t.f3.length c3, .slice A4 t.f4.length c4, .int .i64 t.f5, .int .i64 t.f6, .int .i64 t.f7, .slice A8 t.f8.length c8, .slice A9 t.f9.length c9] 34 (0, 0)) = W1 at *
            clear htb PP f0 f1 f2 f3 f4 f5 f6 f7 f8 f9 hlk hd
            have HPI := Aside0.mk (show ∀ q : S34 × Lie, ((Mst V ps i).set i q)[i]? = some q from fun q => set_at _ q HM.out)
            go_loopg [19] (t.f4.length + 1) (fun kx v19 wr => ∃ k : Nat, k ≤ t.f4.length ∧ t.f4.length - k + 1 ≤ kx ∧ v19 = .int .i64 k ∧ Aside0 (Q3 w ps.length nb ps.length (.slice (some ⟨lb, 0, none⟩) ps.length lc) bl ob (w.heap.size + 1) (some adx) cs ro wr ((Mst V ps i).set i ({ t with f4 := partL (cntI V) t.f4 k }, ⟨.slice A3 t.f3.length c3, .slice A4 t.f4.length c4, .slice A8 t.f8.length c8, .slice A9 t.f9.length c9⟩)) (outs V ps i) (.slice Ao (cnt V i) co) Ns) ∧ Aside0 (wr.heap[tb]? = some (.cells #[.int .i64 t.f0, .int .i64 t.f1, .int .i64 t.f2, .slice A3 t.f3.length c3, .slice A4 t.f4.length c4, .int .i64 t.f5, .int .i64 t.f6, .int .i64 t.f7, .slice A8 t.f8.length c8, .slice A9 t.f9.length c9] 34 (0, 0))))
            case atStart => exact ⟨0, Nat.zero_le _, by omega, rfl, ⟨by rw [partL_zero, set_same HM.out]; exact HA.out⟩, HBX⟩
            case round =>
              clear HA HBX
              obtain ⟨k, hk, hgk, rfl, PK, TK⟩ := hrel
              have y4 : wr.cell? ⟨tb, 4, none⟩ = some (.slice A4 t.f4.length c4) := (blk_cell TK.out 4).trans rfl
              by_cases hkl : k < t.f4.length
              · have hd : decide ((k : Int) < (t.f4.length : Int)) = true := decide_eq_true (by omega)
                have qk : (0 : Int) ≤ (k : Int) := by omega
                have hrow := PK.out.rowAt (HPI.out _)
                have hown : wr.ownsRow w.heap.size 3 1 (.slice A4 t.f4.length c4) t.f4.length (nums .i64 (partL (cntI V) t.f4 k)) := by
                  have h_ := hrow.k
                  simp only [partL_len] at h_
                  exact h_
                obtain ⟨g, cap, hform, _, _⟩ := hown.form (by omega)
                injection hform with hAk _ hck
                subst hAk hck
                obtain ⟨ki, kf⟩ := own_at hown (k : Int) qk (by omega)
                have e_ : rd (partL (cntI V) t.f4 k) (k : Int) = rd t.f4 (k : Int) := by
                  unfold rd
                  rw [Int.toNat_natCast]
                  exact partL_at _ _ _ _
                rw [e_, Int.toNat_natCast] at ki
                rw [Int.toNat_natCast] at kf
                have hch : Chd (ps.map Prod.fst) (i : Int) (rd t.f4 (k : Int)) := .inl ⟨k, by rw [HT.out]; exact hkl, by rw [HT.out]⟩
                have hdn := HDN.out (i : Int) q3 (by rw [List.length_map]; omega) _ hch
                have hvc : V (rd t.f4 (k : Int)) = true := by
                  have h_ := HV.out
                  rw [HVL.out] at h_ ⊢
                  exact liveV_clo h_ hch
                have hNc := NN.out _ hdn.1 hdn.2 hvc
                obtain ⟨ni, _⟩ := own_at PK.out.nm (rd t.f4 (k : Int)) hdn.1 (show rd t.f4 (k : Int) < ((ps.length : Nat) : Int) by have := hdn.2; omega)
                rw [hNc] at ni
                have qa : (0 ≤ rd t.f4 (k : Int)) = True := eq_true hdn.1
                have qb : (rd t.f4 (k : Int) < (ps.length : Int)) = True := eq_true (by have := hdn.2; omega)
                have HS := Aside0.mk ((PK.out.setk (HPI.out _) rfl k (cntI V (rd t.f4 (k : Int)))).drew)
                have HTB := Aside0.mk (show (wr.setCell ⟨g, k, none⟩ (.int .i64 (cntI V (rd t.f4 (k : Int))))).heap[tb]? = _ from (Below.heap_setCell wr ⟨g, k, none⟩ _ tb (by
                  obtain ⟨c1, h1⟩ := own_typed hown g rfl
                  exact cells_ne TK.out h1 (by decide))).trans TK.out)
                have HPS := Aside0.mk (show (partL (cntI V) t.f4 k).set k (cntI V (rd t.f4 (k : Int))) = partL (cntI V) t.f4 (k + 1) from by
                  have h_ := partL_set (cntI V) t.f4 k hkl 0
                  unfold rd
                  rw [Int.toNat_natCast]
                  exact h_)
                clear hrow hown hch hdn hvc hNc e_
                generalize rd t.f4 (k : Int) = kk at *
                go_wp2
                go_region
                go_wp2
                go_roundg (t.f4.length - (k + 1) + 1)
                case rel => exact ⟨k + 1, by omega, by omega, by go_num, ⟨by rw [← HPS.out, ← List.set_set]; exact HS.out⟩, ⟨HTB.out⟩⟩
                case measure => omega
              · have hd : decide ((k : Int) < (t.f4.length : Int)) = false := decide_eq_false (by omega)
                obtain rfl : k = t.f4.length := by omega
                obtain ⟨W5, hW5⟩ : ∃ W5, W5 = wr := ⟨_, rfl⟩
                subst hW5
                have y3 : W5.cell? ⟨tb, 3, none⟩ = some (.slice A3 t.f3.length c3) := (blk_cell TK.out 3).trans rfl
                rw [partL_all] at PK
                go_wp2
                go_loopg [20] (t.f3.length + 1) (fun kx v20 wr => ∃ k : Nat, k ≤ t.f3.length ∧ t.f3.length - k + 1 ≤ kx ∧ v20 = .int .i64 k ∧ Aside0 (Q3 w ps.length nb ps.length (.slice (some ⟨lb, 0, none⟩) ps.length lc) bl ob (w.heap.size + 1) (some adx) cs ro wr ((Mst V ps i).set i ({ t with f4 := t.f4.map (cntI V), f3 := partL (renE V) t.f3 k }, ⟨.slice A3 t.f3.length c3, .slice A4 t.f4.length c4, .slice A8 t.f8.length c8, .slice A9 t.f9.length c9⟩)) (outs V ps i) (.slice Ao (cnt V i) co) Ns) ∧ Aside0 (wr.heap[tb]? = some (.cells #[.int .i64 t.f0, .int .i64 t.f1, .int .i64 t.f2, .slice A3 t.f3.length c3, .slice A4 t.f4.length c4, .int .i64 t.f5, .int .i64 t.f6, .int .i64 t.f7, .slice A8 t.f8.length c8, .slice A9 t.f9.length c9] 34 (0, 0))))
                case atStart => exact ⟨0, Nat.zero_le _, by omega, rfl, ⟨by rw [partL_zero]; exact PK.out⟩, TK⟩
                case round =>
                  clear PK TK y4 y3 hd hgk hk
                  obtain ⟨k, hk, hgk, rfl, PK, TK⟩ := hrel
                  have y3 : wr.cell? ⟨tb, 3, none⟩ = some (.slice A3 t.f3.length c3) := (blk_cell TK.out 3).trans rfl
                  by_cases hkl : k < t.f3.length
                  · have hd : decide ((k : Int) < (t.f3.length : Int)) = true := decide_eq_true (by omega)
                    have qk : (0 : Int) ≤ (k : Int) := by omega
                    have hrow := PK.out.rowAt (HPI.out _)
                    have h3 : t.f0 = 3 := by
                      by_cases h3 : t.f0 = 3
                      · exact h3
                      · have h_ := congrArg List.length (hrow.n h3).1
                        simp only [partL_len, List.length_nil] at h_
                        omega
                    have hown : wr.ownsRow w.heap.size 36 4 (.slice A3 t.f3.length c3) t.f3.length (ec (partL (renE V) t.f3 k)) := by
                      have h_ := hrow.e h3
                      simp only [partL_len] at h_
                      exact h_
                    obtain ⟨g, cap, hform, _, _⟩ := hown.form (by omega)
                    injection hform with hAk _ hck
                    subst hAk hck
                    have e_ : rd_T36 (partL (renE V) t.f3 k) (k : Int) = rd_T36 t.f3 (k : Int) := by
                      unfold rd_T36
                      rw [Int.toNat_natCast]
                      exact partL_at _ _ _ _
                    have ki : wr.cell? ⟨g, k * 4 + 2, none⟩ = some (.int .i64 (rd_T36 t.f3 (k : Int)).f2) := by
                      have h_ := hown.cells (g := g) rfl (k * 4 + 2) _ (ec_at2 (partL (renE V) t.f3 k) k (by rw [partL_len]; exact hkl))
                      rw [e_] at h_
                      simpa [Addr.add] using h_
                    have kf : wr.frozen? ⟨g, k * 4 + 2, none⟩ = false := by
                      obtain ⟨c1, h1⟩ := own_typed hown g rfl
                      exact blk_frozen h1 _
                    have hch : Chd (ps.map Prod.fst) (i : Int) (rd_T36 t.f3 (k : Int)).f2 := .inr ⟨k, by rw [HT.out]; exact hkl, by rw [HT.out]⟩
                    have hdn := HDN.out (i : Int) q3 (by rw [List.length_map]; omega) _ hch
                    have hvc : V (rd_T36 t.f3 (k : Int)).f2 = true := by
                      have h_ := HV.out
                      rw [HVL.out] at h_ ⊢
                      exact liveV_clo h_ hch
                    have hNc := NN.out _ hdn.1 hdn.2 hvc
                    obtain ⟨ni, _⟩ := own_at PK.out.nm (rd_T36 t.f3 (k : Int)).f2 hdn.1 (show (rd_T36 t.f3 (k : Int)).f2 < ((ps.length : Nat) : Int) by have := hdn.2; omega)
                    rw [hNc] at ni
                    have qa : (0 ≤ (rd_T36 t.f3 (k : Int)).f2) = True := eq_true hdn.1
                    have qb : ((rd_T36 t.f3 (k : Int)).f2 < (ps.length : Int)) = True := eq_true (by have := hdn.2; omega)
                    have HS := Aside0.mk ((PK.out.sete (HPI.out _) h3 rfl k (by show k < (partL (renE V) t.f3 k).length; rw [partL_len]; exact hkl) (cntI V (rd_T36 t.f3 (k : Int)).f2)).drew)
                    have HTB := Aside0.mk (show (wr.setCell ⟨g, k * 4 + 2, none⟩ (.int .i64 (cntI V (rd_T36 t.f3 (k : Int)).f2))).heap[tb]? = _ from (Below.heap_setCell wr ⟨g, k * 4 + 2, none⟩ _ tb (by
                      obtain ⟨c1, h1⟩ := own_typed hown g rfl
                      exact cells_ne TK.out h1 (by decide))).trans TK.out)
                    have HPS := Aside0.mk (show (partL (renE V) t.f3 k).set k { rd_T36 (partL (renE V) t.f3 k) (k : Int) with f2 := cntI V (rd_T36 t.f3 (k : Int)).f2 } = partL (renE V) t.f3 (k + 1) from by
                      have h_ := partL_set (renE V) t.f3 k hkl z36
                      rw [e_]
                      unfold rd_T36
                      rw [Int.toNat_natCast]
                      exact h_)
                    clear hrow hown hch hdn hvc hNc e_ h3
                    generalize (rd_T36 t.f3 (k : Int)).f2 = kk at *
                    go_wp2
                    go_region
                    go_wp2
                    go_roundg (t.f3.length - (k + 1) + 1)
                    case rel => exact ⟨k + 1, by omega, by omega, by go_num, ⟨by rw [← HPS.out, ← List.set_set]; exact HS.out⟩, ⟨HTB.out⟩⟩
                    case measure => omega
                  · have hd : decide ((k : Int) < (t.f3.length : Int)) = false := decide_eq_false (by omega)
                    obtain rfl : k = t.f3.length := by omega
                    obtain ⟨W6, hW6⟩ : ∃ W6, W6 = wr := ⟨_, rfl⟩
                    subst hW6
                    have hfin : Q3 w ps.length nb ps.length (.slice (some ⟨lb, 0, none⟩) ps.length lc) bl ob (w.heap.size + 1) (some adx) cs ro W6 (Mst V ps (i + 1)) (outs V ps i) (.slice Ao (cnt V i) co) Ns := by
                      have h_ := PK.out
                      rw [partL_all] at h_
                      rw [Mst_live V ps i _ HP.out HV.out]
                      exact h_
                    have hcn2 := cnt_le V i
                    have xo0 : W6.cell? ⟨ob, 0, none⟩ = some (.slice Ao (cnt V i) co) := (blk_cell hfin.fob 0).trans rfl
                    obtain ⟨ni, nf⟩ := own_at hfin.nm (i : Int) q3 (show (i : Int) < ((ps.length : Nat) : Int) by omega)
                    have hsetl : Ns.length = ps.length := by have h_ := hfin.nm.1; simpa [nums] using h_
                    have HNS := Aside0.mk hsetl
                    have hf7 := hfin.num (i : Int) (cnt V i : Int)
                    rw [Int.toNat_natCast] at ni nf hf7
                    have htk7 : (W6.setCell ⟨nb, i, none⟩ (.int .i64 (cnt V i : Int))).heap[tb]? = _ := blk_far TK.out (p := ⟨nb, i, none⟩) (by
                      obtain ⟨c1, h1⟩ := own_typed hfin.nm nb rfl
                      exact cells_ne TK.out h1 (by decide)) (.int .i64 (cnt V i : Int))
                    have xo7 : (W6.setCell ⟨nb, i, none⟩ (.int .i64 (cnt V i : Int))).cell? ⟨ob, 0, none⟩ = some (.slice Ao (cnt V i) co) := (blk_cell hf7.fob 0).trans rfl
                    have g0 : (W6.setCell ⟨nb, i, none⟩ (.int .i64 (cnt V i : Int))).cell? ⟨tb, 0, none⟩ = some (.int .i64 t.f0) := (blk_cell htk7 0).trans rfl
                    have g1 : (W6.setCell ⟨nb, i, none⟩ (.int .i64 (cnt V i : Int))).cell? ⟨tb, 1, none⟩ = some (.int .i64 t.f1) := (blk_cell htk7 1).trans rfl
                    have g2 : (W6.setCell ⟨nb, i, none⟩ (.int .i64 (cnt V i : Int))).cell? ⟨tb, 2, none⟩ = some (.int .i64 t.f2) := (blk_cell htk7 2).trans rfl
                    have g3 : (W6.setCell ⟨nb, i, none⟩ (.int .i64 (cnt V i : Int))).cell? ⟨tb, 3, none⟩ = some (.slice A3 t.f3.length c3) := (blk_cell htk7 3).trans rfl
                    have g4 : (W6.setCell ⟨nb, i, none⟩ (.int .i64 (cnt V i : Int))).cell? ⟨tb, 4, none⟩ = some (.slice A4 t.f4.length c4) := (blk_cell htk7 4).trans rfl
                    have g5 : (W6.setCell ⟨nb, i, none⟩ (.int .i64 (cnt V i : Int))).cell? ⟨tb, 5, none⟩ = some (.int .i64 t.f5) := (blk_cell htk7 5).trans rfl
                    have g6 : (W6.setCell ⟨nb, i, none⟩ (.int .i64 (cnt V i : Int))).cell? ⟨tb, 6, none⟩ = some (.int .i64 t.f6) := (blk_cell htk7 6).trans rfl
                    have g7 : (W6.setCell ⟨nb, i, none⟩ (.int .i64 (cnt V i : Int))).cell? ⟨tb, 7, none⟩ = some (.int .i64 t.f7) := (blk_cell htk7 7).trans rfl
                    have g8 : (W6.setCell ⟨nb, i, none⟩ (.int .i64 (cnt V i : Int))).cell? ⟨tb, 8, none⟩ = some (.slice A8 t.f8.length c8) := (blk_cell htk7 8).trans rfl
                    have g9 : (W6.setCell ⟨nb, i, none⟩ (.int .i64 (cnt V i : Int))).cell? ⟨tb, 9, none⟩ = some (.slice A9 t.f9.length c9) := (blk_cell htk7 9).trans rfl
                    have NN2 := Aside0.mk (show ∀ k : Int, 0 ≤ k → k < (i + 1 : Nat) → V k = true → rd (Ns.set i (cnt V i : Int)) k = cntI V k from fun k h0 h1 h2 => by
                      have h_ := rd_set Ns (i : Int) k (cnt V i : Int) q3 h0 (by rw [HNS.out]; omega)
                      rw [Int.toNat_natCast] at h_
                      rw [h_]
                      by_cases hk : k = (i : Int)
                      · subst hk
                        rw [if_pos rfl]
                        unfold cntI
                        rw [Int.toNat_natCast]
                      · rw [if_neg hk]
                        exact NN.out k h0 (by omega) h2)
                    have HFI := Aside0.mk hf7
                    clear hfin hf7 htk7 hsetl PK TK
                    go_wp2_with ((with_reducible refine gate_builtin (b := .append) (xs := #[.tmp 199, .tmp 201]) rfl ?_); (try (refine gate_guard (by rfl) ?_; dsimp only)); at_builtin; refine OwnRow.append (R := CellsOf) (w0 := w) w.heap.size rfl (.tmp 199) (.tmp 201) 22 34 _ 10 144 rfl Try.underlying22 info34 rfl (by decide) (by decide) (.slice Ao (cnt V i) co) (outs V ps i) (ren V t, ⟨.slice A3 t.f3.length c3, .slice A4 t.f4.length c4, .slice A8 t.f8.length c8, .slice A9 t.f9.length c9⟩) [.int .i64 t.f0, .int .i64 t.f1, .int .i64 t.f2, .slice A3 t.f3.length c3, .slice A4 t.f4.length c4, .int .i64 t.f5, .int .i64 t.f6, .int .i64 t.f7, .slice A8 t.f8.length c8, .slice A9 t.f9.length c9] rfl ?aX ?aP rfl ?a1 ?aO ?aB ?aS ?aL ?_; (case aX => first | rfl | (simp [World.size_alloc, Act.eval]; done)); (case aP => exact rfl); (case a1 => intro u hu; simp at hu; rcases hu with rfl | rfl | rfl | rfl | rfl | rfl | rfl | rfl | rfl | rfl <;> rfl); (case aO => exact HFI.out.out); (case aB => exact HFI.out.bel); (case aS => exact HFI.out.bel.size); (case aL => rw [outs_len]; omega); intro vo1 w1 ho1 hb1 hg1 hat1; obtain ⟨Ao1, co1, eo1, _⟩ := ho1.slice_; rw [List.length_append, List.length_singleton, outs_len] at eo1; subst eo1; have HNX := Aside0.mk (HFI.out.app ho1 hb1 hg1 hat1); have xo1 := blk_grown HFI.out.fob hg1 (HFI.out.out.ne_block HFI.out.fob (by decide)); have xf1 := blk_frozen xo1 0; have xc1 : w1.cell? ⟨ob, 0, none⟩ = some (.slice Ao (cnt V i) co) := (blk_cell xo1 0).trans rfl; clear ho1 hb1 hg1 hat1 xo1)
                    go_roundg (ps.length - (i + 1) + 1)
                    case rel => exact ⟨i + 1, _, Ns.set i (cnt V i : Int), by omega, by omega, by go_num, ⟨by rw [outs_live V ps i _ HP.out HV.out]; exact HNX.out⟩, NN2⟩
                    case measure => omega
        · have hd : decide ((i : Int) < (ps.length : Int)) = false := decide_eq_false (by omega)
          obtain rfl : i = ps.length := by omega
          obtain ⟨W5, hW5⟩ : ∃ W5, W5 = wr := ⟨_, rfl⟩
          subst hW5
          obtain ⟨rb, hrb⟩ : ∃ rb, rb = w.heap.size + 1 := ⟨_, rfl⟩
          rw [← hrb] at PP ⊢
          clear hrb
          have hcn := cnt_le V ps.length
          obtain ⟨Ao, co, eo, _⟩ := PP.out.out.slice_
          subst eo
          have hr01 := HR01.out
          obtain ⟨hlk, _⟩ := own_at PP.out.nm r hr01.1 (show r < ((ps.length : Nat) : Int) from hr01.2)
          rw [NN.out r hr01.1 hr01.2 HRV.out] at hlk
          have qa : (0 ≤ r) = True := eq_true hr01.1
          have qb : (r < (ps.length : Int)) = True := eq_true hr01.2
          have o0 : W5.cell? ⟨ob, 0, none⟩ = some (.slice Ao (outs V ps ps.length).length co) := (blk_cell PP.out.fob 0).trans rfl
          have o1 : W5.cell? ⟨ob, 1, none⟩ = some (.int .i64 0) := (blk_cell PP.out.fob 1).trans rfl
          have o2 : W5.cell? ⟨ob, 2, none⟩ = some (.bool ro) := (blk_cell PP.out.fob 2).trans rfl
          have r0_ : W5.cell? ⟨rb, 0, none⟩ = some (.slice none 0 0) := (blk_cell PP.out.frb 0).trans rfl
          have r1_ : W5.cell? ⟨rb, 1, none⟩ = some (.int .i64 0) := (blk_cell PP.out.frb 1).trans rfl
          have r2_ : W5.cell? ⟨rb, 2, none⟩ = some (.bool false) := (blk_cell PP.out.frb 2).trans rfl
          have of0 := blk_frozen PP.out.fob 1
          have rf0 := blk_frozen PP.out.frb 0
          have rf1 := blk_frozen PP.out.frb 1
          have rf2 := blk_frozen PP.out.frb 2
          have hrob : (rb == ob) = false := by
            have := PP.out.d
            simp
            omega
          have hobr : (ob == rb) = false := by
            have := PP.out.d
            simp
            omega
          have HRB := Aside0.mk (show rb ≠ ob from fun e => PP.out.d.2.2 e.symm)
          have nbr : ob ≠ rb := PP.out.d.2.2
          have nrb := HRB.out
          clear hr01
          go_wp2
          have s_ := blk_far PP.out.frb (p := ⟨ob, 1, none⟩) HRB.out (.int .i64 (cntI V r))
          have s0 := blk_set s_ 0 (.slice Ao (outs V ps ps.length).length co)
          have s1 := blk_set s0 1 (.int .i64 (cntI V r))
          have s2 := blk_set s1 2 (.bool ro)
          have hb := PP.out.d
          have HBF := below_set (g := rb) (j := 2) (v := .bool ro) (below_set (g := rb) (j := 1) (v := .int .i64 (cntI V r)) (below_set (g := rb) (j := 0) (v := .slice Ao (outs V ps ps.length).length co) (below_set (g := ob) (j := 1) (v := .int .i64 (cntI V r)) PP.out.bel hb.1) hb.2.1) hb.2.1) hb.2.1
          have HST := StepsW.set24 (j := 2) (StepsW.set24 (j := 1) (StepsW.set24 (j := 0) (StepsW.set24 (j := 1) PP.out.st PP.out.fob (.int .i64 (cntI V r))) s_ (.slice Ao (outs V ps ps.length).length co)) s0 (.int .i64 (cntI V r))) s1 (.bool ro)
          have HOW := OwnRow.set_ (OwnRow.set_ (OwnRow.set_ (OwnRow.set_ PP.out.out PP.out.fob (by decide) 1 (.int .i64 (cntI V r))) s_ (by decide) 0 (.slice Ao (outs V ps ps.length).length co)) s0 (by decide) 1 (.int .i64 (cntI V r))) s1 (by decide) 2 (.bool ro)
          have HKY : ∀ p ∈ outs V ps ps.length, KeyAt _ p.1 p.2 := fun p hp => (outs_key (fun q hq => KEY.out q hq) p hp).below HBF
          obtain ⟨Af, cf, ef, lf, HC1⟩ := HST.C_of Mst_out HKY HOW
          rw [outs_fst] at HC1
          have hlen : (optL L0 root).length = (outs V ps ps.length).length := by
            rw [HEL.out, ← outs_fst, List.length_map]
          rw [← HEL.out] at HC1
          rw [HER.out]
          refine bodyPost_ret (results_cell_row rfl _ _ rb 24 #[.slice Ao (outs V ps ps.length).length co, .int .i64 (cntI V r), .bool ro] (0, 0) _ rfl (by simpa using s2) Try.underlying24 rfl (by kernel_rfl)) rfl ?_
          exact ⟨_, rfl, ⟨Af, cf, by rw [hlen, ← ef], by rw [hlen]; exact lf, by rw [hlen]; exact HC1⟩, HBF⟩
end Go.Proofs.Ytneglmnffdmbiaa.P
