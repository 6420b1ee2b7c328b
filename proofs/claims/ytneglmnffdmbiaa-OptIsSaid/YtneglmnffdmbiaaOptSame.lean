import Derived.Test.YtneglmnffdmbiaaOptFuse
import Derived.Test.YtneglmnffdmbiaaPEq36
namespace Go.Proofs.Ytneglmnffdmbiaa.P
open Go.RowKit Go.Proofs.YtneglmnffdmbiaaW.PrintWords Go.Proofs.YtneglmnffdmbiaaW.PrintLast Go.Proofs.YtneglmnffdmbiaaW.PrintMore
set_option linter.unusedVariables false
set_option linter.unusedSimpArgs false

attribute [local go_sem high] eqA36
set_option maxHeartbeats 16000000 in
set_option maxRecDepth 100000 in
/-- Two plans that read alike are the same. -/
theorem same_calls (A : Option Addr) (c : Nat) (B : Option Addr) (d : Nat) (L : List S34) (root : Int) (ro : Bool) (w : World) (hA : Kd.C k34 w A L.length L) (hB : Kd.C k34 w B L.length L) (hc : L.length ≤ c) (hd : L.length ≤ d) (hn : L.length ≤ 1000000) (n3 : ∀ p : Int, (rd_T34 L p).f3.length ≤ 10000000000) (n4 : ∀ p : Int, (rd_T34 L p).f4.length ≤ 10000000000) :
    Calls Try.prog 10 #[.agg #[.slice A L.length c, .int .i64 root, .bool ro], .agg #[.slice B L.length d, .int .i64 root, .bool ro]] w fun e w' => e = .returned (.bool true) ∧ Below w.heap.size w w' := by
  have hu36 := Try.underlying36
  have HA := Aside0.mk hA
  have HB := Aside0.mk hB
  have br : (root != root) = false := by simp
  have bo : (ro != ro) = false := by simp
  have bl : ((L.length : Int) != (L.length : Int)) = false := by simp
  have N3 := Aside0.mk n3
  have N4 := Aside0.mk n4
  clear hA hB n3 n4
  go_enter Try.func10, Try.ntmps10
  go_wp2
  have b0 : Below w.heap.size w ((w.alloc (.cells #[.slice A L.length c, .int .i64 root, .bool ro] 24 (0, 0))).alloc (.cells #[.slice B L.length d, .int .i64 root, .bool ro] 24 (0, 0))) := below_alloc (below_alloc (Below.refl _ _) _) _
  have y0 := blk_alloc (blk_new w (.cells #[.slice A L.length c, .int .i64 root, .bool ro] 24 (0, 0))) (.cells #[.slice B L.length d, .int .i64 root, .bool ro] 24 (0, 0))
  have y1 := blk_new (w.alloc (.cells #[.slice A L.length c, .int .i64 root, .bool ro] 24 (0, 0))) (.cells #[.slice B L.length d, .int .i64 root, .bool ro] 24 (0, 0))
  rw [World.size_alloc] at y1
  have hs0 : ((w.alloc (.cells #[.slice A L.length c, .int .i64 root, .bool ro] 24 (0, 0))).alloc (.cells #[.slice B L.length d, .int .i64 root, .bool ro] 24 (0, 0))).heap.size = w.heap.size + 2 := by simp
  have Y0 := Aside0.mk y0
  have Y1 := Aside0.mk y1
  have B0 := Aside0.mk b0
  have HS0 := Aside0.mk hs0
  clear y0 y1 b0 hs0
  generalize (w.alloc (.cells #[.slice A L.length c, .int .i64 root, .bool ro] 24 (0, 0))).alloc (.cells #[.slice B L.length d, .int .i64 root, .bool ro] 24 (0, 0)) = W0 at *
  obtain ⟨ba, hba⟩ : ∃ ba, ba = w.heap.size := ⟨_, rfl⟩
  obtain ⟨bb, hbb⟩ : ∃ bb, bb = w.heap.size + 1 := ⟨_, rfl⟩
  rw [← hba] at Y0
  rw [← hbb] at Y1 ⊢
  rw [← hba]
  have HLT := Aside0.mk (show ba < W0.heap.size ∧ bb < W0.heap.size by have := HS0.out; omega)
  clear hbb hba
  go_loopg [5] (L.length + 1) (fun kx v5 wr => ∃ i : Nat, i ≤ L.length ∧ L.length - i + 1 ≤ kx ∧ v5 = .int .i64 i ∧ Aside0 (Below W0.heap.size W0 wr))
  case atStart => exact ⟨0, Nat.zero_le _, by omega, rfl, ⟨Below.refl _ _⟩⟩
  case round =>
    obtain ⟨i, hi, hg, rfl, BW⟩ := hrel
    have xa : wr.cell? ⟨ba, 0, none⟩ = some (.slice A L.length c) := (blk_cell (blk_below Y0.out BW.out) 0).trans rfl
    have xb : wr.cell? ⟨bb, 0, none⟩ = some (.slice B L.length d) := (blk_cell (blk_below Y1.out BW.out) 0).trans rfl
    have BB := Aside0.mk (B0.out.trans (BW.out.mono B0.out.size))
    by_cases hlt : i < L.length
    · have hd1 : decide ((i : Int) < (L.length : Int)) = true := decide_eq_true (by omega)
      have q3 : (0 : Int) ≤ (i : Int) := by omega
      obtain ⟨ad, A3, c3, A4, c4, A8, c8, A9, c9, rfl, f0, f1, f2, f3, f4, f5, f6, f7, f8, f9, l3, g3, l4, g4, l8, g8, l9, g9⟩ := at_T34 (Kd.C_below HA.out BB.out) (i : Int) q3 (by omega)
      obtain ⟨ae, B3, d3, B4, d4, B8, d8, B9, d9, rfl, e0, e1, e2, e3, e4, e5, e6, e7, e8, e9, m3, h3, m4, h4, m8, h8, m9, h9⟩ := at_T34 (Kd.C_below HB.out BB.out) (i : Int) q3 (by omega)
      generalize hTT : rd_T34 L (i : Int) = t at *
      have n3 := N3.out (i : Int)
      have n4 := N4.out (i : Int)
      rw [hTT] at n3 n4
      have xb2 : (wr.alloc (.cells #[.int .i64 t.f0, .int .i64 t.f1, .int .i64 t.f2, .slice A3 t.f3.length c3, .slice A4 t.f4.length c4, .int .i64 t.f5, .int .i64 t.f6, .int .i64 t.f7, .slice A8 t.f8.length c8, .slice A9 t.f9.length c9] 34 (0, 0))).cell? ⟨bb, 0, none⟩ = some (.slice (some ae) L.length d) := (blk_cell (blk_alloc (blk_below Y1.out BW.out) _) 0).trans rfl
      have b2 : Below wr.heap.size wr (wr.alloc (.cells #[.int .i64 t.f0, .int .i64 t.f1, .int .i64 t.f2, .slice A3 t.f3.length c3, .slice A4 t.f4.length c4, .int .i64 t.f5, .int .i64 t.f6, .int .i64 t.f7, .slice A8 t.f8.length c8, .slice A9 t.f9.length c9] 34 (0, 0))) := below_alloc (Below.refl _ _) _
      have b3 : Below wr.heap.size wr ((wr.alloc (.cells #[.int .i64 t.f0, .int .i64 t.f1, .int .i64 t.f2, .slice A3 t.f3.length c3, .slice A4 t.f4.length c4, .int .i64 t.f5, .int .i64 t.f6, .int .i64 t.f7, .slice A8 t.f8.length c8, .slice A9 t.f9.length c9] 34 (0, 0))).alloc (.cells #[.int .i64 t.f0, .int .i64 t.f1, .int .i64 t.f2, .slice B3 t.f3.length d3, .slice B4 t.f4.length d4, .int .i64 t.f5, .int .i64 t.f6, .int .i64 t.f7, .slice B8 t.f8.length d8, .slice B9 t.f9.length d9] 34 (0, 0))) := below_alloc (below_alloc (Below.refl _ _) _) _
      replace e0 := (b2.cell (World.block_lt_of_cell? _ _ e0)).trans e0
      replace e1 := (b2.cell (World.block_lt_of_cell? _ _ e1)).trans e1
      replace e2 := (b2.cell (World.block_lt_of_cell? _ _ e2)).trans e2
      replace e3 := (b2.cell (World.block_lt_of_cell? _ _ e3)).trans e3
      replace e4 := (b2.cell (World.block_lt_of_cell? _ _ e4)).trans e4
      replace e5 := (b2.cell (World.block_lt_of_cell? _ _ e5)).trans e5
      replace e6 := (b2.cell (World.block_lt_of_cell? _ _ e6)).trans e6
      replace e7 := (b2.cell (World.block_lt_of_cell? _ _ e7)).trans e7
      replace e8 := (b2.cell (World.block_lt_of_cell? _ _ e8)).trans e8
      replace e9 := (b2.cell (World.block_lt_of_cell? _ _ e9)).trans e9
      have hcv0 := Kd.C_string (P := Try.prog) (A := A8) (c := c8) Try.underlying32 Try.underlying5 Try.underlying9 (Kd.C_below g8 b3)
      have hcv1 := Kd.C_string (P := Try.prog) (A := B8) (c := d8) Try.underlying32 Try.underlying5 Try.underlying9 (Kd.C_below h8 b3)
      have hcv2 := Kd.C_string (P := Try.prog) (A := A9) (c := c9) Try.underlying32 Try.underlying5 Try.underlying9 (Kd.C_below g9 b3)
      have hcv3 := Kd.C_string (P := Try.prog) (A := B9) (c := d9) Try.underlying32 Try.underlying5 Try.underlying9 (Kd.C_below h9 b3)
      have G3 := Aside0.mk g3
      have G4 := Aside0.mk g4
      have H3 := Aside0.mk h3
      have H4 := Aside0.mk h4
      have z0 := blk_alloc (blk_new wr (.cells #[.int .i64 t.f0, .int .i64 t.f1, .int .i64 t.f2, .slice A3 t.f3.length c3, .slice A4 t.f4.length c4, .int .i64 t.f5, .int .i64 t.f6, .int .i64 t.f7, .slice A8 t.f8.length c8, .slice A9 t.f9.length c9] 34 (0, 0))) (.cells #[.int .i64 t.f0, .int .i64 t.f1, .int .i64 t.f2, .slice B3 t.f3.length d3, .slice B4 t.f4.length d4, .int .i64 t.f5, .int .i64 t.f6, .int .i64 t.f7, .slice B8 t.f8.length d8, .slice B9 t.f9.length d9] 34 (0, 0))
      have z1 := blk_new (wr.alloc (.cells #[.int .i64 t.f0, .int .i64 t.f1, .int .i64 t.f2, .slice A3 t.f3.length c3, .slice A4 t.f4.length c4, .int .i64 t.f5, .int .i64 t.f6, .int .i64 t.f7, .slice A8 t.f8.length c8, .slice A9 t.f9.length c9] 34 (0, 0))) (.cells #[.int .i64 t.f0, .int .i64 t.f1, .int .i64 t.f2, .slice B3 t.f3.length d3, .slice B4 t.f4.length d4, .int .i64 t.f5, .int .i64 t.f6, .int .i64 t.f7, .slice B8 t.f8.length d8, .slice B9 t.f9.length d9] 34 (0, 0))
      rw [World.size_alloc] at z1
      have Z0 := Aside0.mk z0
      have Z1 := Aside0.mk z1
      have B3' := Aside0.mk b3
      clear g3 g4 g8 g9 h3 h4 h8 h9 b2 b3 l3 l4 l8 l9 m3 m4 m8 m9 z0 z1
      rw [Int.toNat_natCast] at f0 f1 f2 f3 f4 f5 f6 f7 f8 f9 e0 e1 e2 e3 e4 e5 e6 e7 e8 e9
      have k0 : (t.f0 != t.f0) = false := by simp
      go_wp2
      repeat (go_quiet (fail); try go_wp2)
      have HZ := Aside0.mk (show ((wr.alloc (.cells #[.int .i64 t.f0, .int .i64 t.f1, .int .i64 t.f2, .slice A3 t.f3.length c3, .slice A4 t.f4.length c4, .int .i64 t.f5, .int .i64 t.f6, .int .i64 t.f7, .slice A8 t.f8.length c8, .slice A9 t.f9.length c9] 34 (0, 0))).alloc (.cells #[.int .i64 t.f0, .int .i64 t.f1, .int .i64 t.f2, .slice B3 t.f3.length d3, .slice B4 t.f4.length d4, .int .i64 t.f5, .int .i64 t.f6, .int .i64 t.f7, .slice B8 t.f8.length d8, .slice B9 t.f9.length d9] 34 (0, 0))).heap.size = wr.heap.size + 2 by simp)
      clear f0 f1 f2 f3 f4 f5 f6 f7 f8 f9 e0 e1 e2 e3 e4 e5 e6 e7 e8 e9 hcv0 hcv1 hcv2 hcv3 xb2 xa xb
      generalize ((wr.alloc (.cells #[.int .i64 t.f0, .int .i64 t.f1, .int .i64 t.f2, .slice A3 t.f3.length c3, .slice A4 t.f4.length c4, .int .i64 t.f5, .int .i64 t.f6, .int .i64 t.f7, .slice A8 t.f8.length c8, .slice A9 t.f9.length c9] 34 (0, 0))).alloc (.cells #[.int .i64 t.f0, .int .i64 t.f1, .int .i64 t.f2, .slice B3 t.f3.length d3, .slice B4 t.f4.length d4, .int .i64 t.f5, .int .i64 t.f6, .int .i64 t.f7, .slice B8 t.f8.length d8, .slice B9 t.f9.length d9] 34 (0, 0))) = W1 at *
      obtain ⟨ta, hta⟩ : ∃ ta, ta = wr.heap.size := ⟨_, rfl⟩
      obtain ⟨tb, htb⟩ : ∃ tb, tb = wr.heap.size + 1 := ⟨_, rfl⟩
      rw [← htb] at Z1 ⊢
      rw [← hta] at Z0 ⊢
      have HBW := Aside0.mk (BW.out.trans (B3'.out.mono BW.out.size))
      have HB1 := Aside0.mk (show W0.heap.size ≤ W1.heap.size from HBW.out.size)
      clear hta htb
      go_loopg [8] (t.f3.length + 1) (fun kx v8 wr => ∃ k : Nat, k ≤ t.f3.length ∧ t.f3.length - k + 1 ≤ kx ∧ v8 = .int .i64 k ∧ Aside0 (Below W1.heap.size W1 wr))
      case atStart => exact ⟨0, Nat.zero_le _, by omega, rfl, ⟨Below.refl _ _⟩⟩
      case round =>
        obtain ⟨k, hk, hgk, rfl, BK⟩ := hrel
        have x3 : wr.cell? ⟨ta, 3, none⟩ = some (.slice A3 t.f3.length c3) := (blk_cell (blk_below Z0.out BK.out) 3).trans rfl
        have x3' : wr.cell? ⟨tb, 3, none⟩ = some (.slice B3 t.f3.length d3) := (blk_cell (blk_below Z1.out BK.out) 3).trans rfl
        have hb2 := Aside0.mk (B3'.out.trans (BK.out.mono B3'.out.size))
        by_cases hkl : k < t.f3.length
        · have hd2 : decide ((k : Int) < (t.f3.length : Int)) = true := decide_eq_true (by omega)
          have qk : (0 : Int) ≤ (k : Int) := by omega
          obtain ⟨a3, rfl, y0, y1, y2, y3⟩ := at_T36 (Kd.C_below G3.out hb2.out) (k : Int) qk (by omega)
          obtain ⟨a3', rfl, z0, z1, z2, z3⟩ := at_T36 (Kd.C_below H3.out hb2.out) (k : Int) qk (by omega)
          rw [Int.toNat_natCast] at y0 y1 y2 y3 z0 z1 z2 z3
          generalize rd_T36 t.f3 (k : Int) = x at *
          go_wp2
          go_region
          go_wp2
          go_roundg (t.f3.length - (k + 1) + 1)
          case rel => exact ⟨k + 1, by omega, by omega, by go_num, ⟨below_drew BK.out⟩⟩
          case measure => omega
        · have hd2 : decide ((k : Int) < (t.f3.length : Int)) = false := decide_eq_false (by omega)
          obtain rfl : k = t.f3.length := by omega
          obtain ⟨W2, hW2⟩ : ∃ W2, W2 = wr := ⟨_, rfl⟩
          subst hW2
          go_wp2
          go_loopg [9] (t.f4.length + 1) (fun kx v9 wr => ∃ k : Nat, k ≤ t.f4.length ∧ t.f4.length - k + 1 ≤ kx ∧ v9 = .int .i64 k ∧ Aside0 (Below W1.heap.size W1 wr))
          case atStart => exact ⟨0, Nat.zero_le _, by omega, rfl, BK⟩
          case round =>
            clear BK hb2 x3 x3' hd2 hgk hk
            obtain ⟨k, hk, hgk, rfl, BK⟩ := hrel
            have x4 : wr.cell? ⟨ta, 4, none⟩ = some (.slice A4 t.f4.length c4) := (blk_cell (blk_below Z0.out BK.out) 4).trans rfl
            have x4' : wr.cell? ⟨tb, 4, none⟩ = some (.slice B4 t.f4.length d4) := (blk_cell (blk_below Z1.out BK.out) 4).trans rfl
            have hb2 := Aside0.mk (B3'.out.trans (BK.out.mono B3'.out.size))
            by_cases hkl : k < t.f4.length
            · have hd2 : decide ((k : Int) < (t.f4.length : Int)) = true := decide_eq_true (by omega)
              have qk : (0 : Int) ≤ (k : Int) := by omega
              obtain ⟨a3, rfl, y0⟩ := Kd.at_int (Kd.C_below G4.out hb2.out) (k : Int) qk (by omega)
              obtain ⟨a3', rfl, z0⟩ := Kd.at_int (Kd.C_below H4.out hb2.out) (k : Int) qk (by omega)
              rw [Int.toNat_natCast] at y0 z0
              generalize rd t.f4 (k : Int) = x at *
              go_wp2
              go_region
              go_wp2
              go_roundg (t.f4.length - (k + 1) + 1)
              case rel => exact ⟨k + 1, by omega, by omega, by go_num, ⟨below_drew BK.out⟩⟩
              case measure => omega
            · have hd2 : decide ((k : Int) < (t.f4.length : Int)) = false := decide_eq_false (by omega)
              obtain rfl : k = t.f4.length := by omega
              go_wp2
              go_roundg (L.length - (i + 1) + 1)
              case rel => exact ⟨i + 1, by omega, by omega, by go_num, ⟨HBW.out.trans (BK.out.mono HB1.out)⟩⟩
              case measure => omega
    · have hd1 : decide ((i : Int) < (L.length : Int)) = false := decide_eq_false (by omega)
      obtain rfl : i = L.length := by omega
      go_wp2
      first | go_end0 | ((try simp only [Exit.inBlock, Exit.then]); refine bodyPost_ret (results_tmp rfl _ _ _) rfl ?_)
      exact ⟨rfl, BB.out⟩
end Go.Proofs.Ytneglmnffdmbiaa.P
