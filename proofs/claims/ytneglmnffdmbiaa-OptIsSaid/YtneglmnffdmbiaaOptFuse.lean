import Derived.Test.YtneglmnffdmbiaaP0
namespace Go.Proofs.Ytneglmnffdmbiaa.P
open Go.RowKit Go.Proofs.YtneglmnffdmbiaaW.PrintWords Go.Proofs.YtneglmnffdmbiaaW.PrintLast Go.Proofs.YtneglmnffdmbiaaW.PrintMore
attribute [local go_sem] max2_int min2_int max_two min_two
set_option linter.unusedVariables false
set_option linter.unusedSimpArgs false

/-! the plain side: extents -/
def exOk (x : S36) : Prop := 0 ≤ x.f0 ∧ x.f0 ≤ 8192 ∧ 1 ≤ x.f1 ∧ x.f1 ≤ 8192 ∧ 0 ≤ x.f3 ∧ x.f3 ≤ 8192 ∧ x.f3 + x.f1 ≤ 8192
def skipL (x y : S36) : Int := if y.f0 < x.f3 then x.f3 - y.f0 else 0
def numL (x y : S36) : Int := if x.f3 + x.f1 - y.f0 < y.f1 then x.f3 + x.f1 - y.f0 - skipL x y else y.f1 - skipL x y
def fuse1 (x y : S36) : List S36 := if numL x y > 0 then [⟨x.f0 + y.f0 + skipL x y - x.f3, numL x y, y.f2, y.f3 + skipL x y⟩] else []
def fuseK (x : S36) (ys : List S36) : List S36 := ys.flatMap (fuse1 x)
def fuseL (L : List S34) (x : S36) : List S36 := if (rd_T34 L x.f2).f0 = 3 then fuseK x (rd_T34 L x.f2).f3 else [x]
theorem fuseK_snoc (x : S36) (ys : List S36) (i : Nat) (hi : i < ys.length) : fuseK x (ys.take (i + 1)) = fuseK x (ys.take i) ++ fuse1 x (rd_T36 ys i) := by
  unfold fuseK rd_T36
  rw [List.take_succ_eq_append_getElem hi, List.flatMap_append]
  simp [List.getD, hi]
theorem fuse1_len (x y : S36) : (fuse1 x y).length ≤ 1 := by
  unfold fuse1
  split <;> simp
theorem fuseK_len (x : S36) : ∀ ys : List S36, (fuseK x ys).length ≤ ys.length
  | [] => by simp [fuseK]
  | y :: ys => by
    have h := fuse1_len x y
    have h2 := fuseK_len x ys
    unfold fuseK at h2 ⊢
    rw [List.flatMap_cons, List.length_append, List.length_cons]
    omega
/-- A block of the optimizer: its steps, its places. -/
structure OptAt (w : World) (o : Nat) (sv pv : Value) : Prop where
  at_ : w.heap[o]? = some (.cells #[sv, pv] 41 (0, 0))
theorem OptAt.below {w w' : World} {o : Nat} {sv pv : Value} (h : OptAt w o sv pv) (hb : Below w.heap.size w w') : OptAt w' o sv pv := ⟨blk_below h.at_ hb⟩

set_option maxHeartbeats 16000000 in
set_option maxRecDepth 100000 in
theorem fuse_calls (o : Nat) (A : Option Addr) (c : Nat) (L : List S34) (pv : Value) (x : S36) (w : World) (ho : OptAt w o (.slice A L.length c) pv) (hC : Kd.C k34 w A L.length L)
    (hk : 0 ≤ x.f2) (hk2 : x.f2 < (L.length : Int)) (hx : exOk x) (hy : ∀ j : Nat, j < (rd_T34 L x.f2).f3.length → exOk (rd_T36 (rd_T34 L x.f2).f3 j)) (hlen : (rd_T34 L x.f2).f3.length ≤ 100000) :
    Calls Try.prog 21 #[.pointer (some ⟨o, 0, none⟩), .agg #[.int .i64 x.f0, .int .i64 x.f1, .int .i64 x.f2, .int .i64 x.f3]] w fun e w' => ∃ v, e = .returned v ∧ Kd.R k36 36 w' w.heap.size (fun _ => True) v (fuseL L x) ∧ Below w.heap.size w w' := by
  obtain ⟨ad, A3, c3, A4, c4, A8, c8, A9, c9, rfl, f0, f1, f2, f3, f4, f5, f6, f7, f8, f9, l3, g3, l4, g4, l8, g8, l9, g9⟩ := at_T34 hC x.f2 hk hk2
  have hF : fuseL L x = if (rd_T34 L x.f2).f0 = 3 then fuseK x (rd_T34 L x.f2).f3 else [x] := rfl
  generalize fuseL L x = F at hF ⊢
  generalize hs : rd_T34 L x.f2 = s at *
  have bx : Below w.heap.size w (w.alloc (.cells #[.int .i64 x.f0, .int .i64 x.f1, .int .i64 x.f2, .int .i64 x.f3] 36 (0, 0))) := below_alloc (Below.refl _ _) _
  have hxb := blk_new w (.cells #[.int .i64 x.f0, .int .i64 x.f1, .int .i64 x.f2, .int .i64 x.f3] 36 (0, 0))
  have ho0 : (w.alloc (.cells #[.int .i64 x.f0, .int .i64 x.f1, .int .i64 x.f2, .int .i64 x.f3] 36 (0, 0))).cell? ⟨o, 0, none⟩ = some (.slice (some ad) L.length c) := (blk_cell (ho.below bx).at_ 0).trans rfl
  have x0 : (w.alloc (.cells #[.int .i64 x.f0, .int .i64 x.f1, .int .i64 x.f2, .int .i64 x.f3] 36 (0, 0))).cell? ⟨w.heap.size, 0, none⟩ = some (.int .i64 x.f0) := (blk_cell hxb 0).trans rfl
  have x1 : (w.alloc (.cells #[.int .i64 x.f0, .int .i64 x.f1, .int .i64 x.f2, .int .i64 x.f3] 36 (0, 0))).cell? ⟨w.heap.size, 1, none⟩ = some (.int .i64 x.f1) := (blk_cell hxb 1).trans rfl
  have x2 : (w.alloc (.cells #[.int .i64 x.f0, .int .i64 x.f1, .int .i64 x.f2, .int .i64 x.f3] 36 (0, 0))).cell? ⟨w.heap.size, 2, none⟩ = some (.int .i64 x.f2) := (blk_cell hxb 2).trans rfl
  have x3 : (w.alloc (.cells #[.int .i64 x.f0, .int .i64 x.f1, .int .i64 x.f2, .int .i64 x.f3] 36 (0, 0))).cell? ⟨w.heap.size, 3, none⟩ = some (.int .i64 x.f3) := (blk_cell hxb 3).trans rfl
  replace f0 := pw_cell_below bx f0
  replace f1 := pw_cell_below bx f1
  replace f2 := pw_cell_below bx f2
  replace f3 := pw_cell_below bx f3
  replace f4 := pw_cell_below bx f4
  replace f5 := pw_cell_below bx f5
  replace f6 := pw_cell_below bx f6
  replace f7 := pw_cell_below bx f7
  replace f8 := pw_cell_below bx f8
  replace f9 := pw_cell_below bx f9
  have HX := Aside0.mk hx
  have HY := Aside0.mk hy
  have HB0 := Aside0.mk bx
  have HXB := Aside0.mk hxb
  have G3 := Aside0.mk g3
  have hz : (w.alloc (.cells #[.int .i64 x.f0, .int .i64 x.f1, .int .i64 x.f2, .int .i64 x.f3] 36 (0, 0))).heap.size = w.heap.size + 1 := World.size_alloc _ _
  have q1 : (0 : Int) ≤ x.f2 := hk
  go_enter Try.func21, Try.ntmps21
  go_wp2
  clear ho hC bx hx hy g3 g4 g8 g9
  generalize w.alloc (.cells #[.int .i64 x.f0, .int .i64 x.f1, .int .i64 x.f2, .int .i64 x.f3] 36 (0, 0)) = W at *
  have bz : Below W.heap.size W (W.alloc (.cells #[.int .i64 0, .int .i64 0, .int .i64 0, .slice none 0 0, .slice none 0 0, .int .i64 0, .int .i64 0, .int .i64 0, .slice none 0 0, .slice none 0 0] 34 (0, 0))) := below_alloc (Below.refl _ _) _
  have ho0z := pw_cell_below bz ho0
  have x2z := pw_cell_below bz x2
  have f0z := pw_cell_below bz f0
  have f1z := pw_cell_below bz f1
  have f2z := pw_cell_below bz f2
  have f3z := pw_cell_below bz f3
  have f4z := pw_cell_below bz f4
  have f5z := pw_cell_below bz f5
  have f6z := pw_cell_below bz f6
  have f7z := pw_cell_below bz f7
  have f8z := pw_cell_below bz f8
  have f9z := pw_cell_below bz f9
  clear bz
  go_region
  have hkb := blk_drew (blk_new W (.cells #[.int .i64 s.f0, .int .i64 s.f1, .int .i64 s.f2, .slice A3 s.f3.length c3, .slice A4 s.f4.length c4, .int .i64 s.f5, .int .i64 s.f6, .int .i64 s.f7, .slice A8 s.f8.length c8, .slice A9 s.f9.length c9] 34 (0, 0)))
  have bk : Below W.heap.size W (W.alloc (.cells #[.int .i64 s.f0, .int .i64 s.f1, .int .i64 s.f2, .slice A3 s.f3.length c3, .slice A4 s.f4.length c4, .int .i64 s.f5, .int .i64 s.f6, .int .i64 s.f7, .slice A8 s.f8.length c8, .slice A9 s.f9.length c9] 34 (0, 0))).drew := below_drew (below_alloc (Below.refl _ _) _)
  have hz2 : (W.alloc (.cells #[.int .i64 s.f0, .int .i64 s.f1, .int .i64 s.f2, .slice A3 s.f3.length c3, .slice A4 s.f4.length c4, .int .i64 s.f5, .int .i64 s.f6, .int .i64 s.f7, .slice A8 s.f8.length c8, .slice A9 s.f9.length c9] 34 (0, 0))).drew.heap.size = w.heap.size + 2 := by
    show (W.alloc (.cells #[.int .i64 s.f0, .int .i64 s.f1, .int .i64 s.f2, .slice A3 s.f3.length c3, .slice A4 s.f4.length c4, .int .i64 s.f5, .int .i64 s.f6, .int .i64 s.f7, .slice A8 s.f8.length c8, .slice A9 s.f9.length c9] 34 (0, 0))).heap.size = _
    rw [World.size_alloc, hz]
  have HXB2 := Aside0.mk (blk_below HXB.out bk)
  have HB2 := Aside0.mk (HB0.out.trans (bk.mono (by omega)))
  rw [hz] at hkb
  clear bk x0 x1 x2 x3 f0 f1 f2 f3 f4 f5 f6 f7 f8 f9 ho0z x2z f0z f1z f2z f3z f4z f5z f6z f7z f8z f9z ho0 HXB HB0
  generalize (W.alloc (.cells #[.int .i64 s.f0, .int .i64 s.f1, .int .i64 s.f2, .slice A3 s.f3.length c3, .slice A4 s.f4.length c4, .int .i64 s.f5, .int .i64 s.f6, .int .i64 s.f7, .slice A8 s.f8.length c8, .slice A9 s.f9.length c9] 34 (0, 0))).drew = W2 at *
  have HKB := Aside0.mk hkb
  have HZ2 := Aside0.mk hz2
  have k0 : W2.cell? ⟨w.heap.size + 1, 0, none⟩ = some (.int .i64 s.f0) := (blk_cell hkb 0).trans rfl
  have k3 : W2.cell? ⟨w.heap.size + 1, 3, none⟩ = some (.slice A3 s.f3.length c3) := (blk_cell hkb 3).trans rfl
  clear hkb hz2 hz
  by_cases h3 : s.f0 = 3
  · have e1 : (s.f0 == 3) = true := by rw [h3]; rfl
    have e2 : (s.f0 != 3) = false := by rw [h3]; rfl
    rw [if_pos h3] at hF
    subst hF
    clear h3
    go_wp2
    go_loopg [6, 27] (s.f3.length + 1) (fun kx v6 v27 wr => ∃ i : Nat, i ≤ s.f3.length ∧ s.f3.length - i + 1 ≤ kx ∧ v27 = .int .i64 i ∧ Aside0 (Kd.R k36 36 wr w.heap.size (fun k => w.heap.size + 2 ≤ k) v6 (fuseK x (s.f3.take i))) ∧ Aside0 (Below w.heap.size w wr) ∧ Aside0 (wr.heap[w.heap.size]? = some (.cells #[.int .i64 x.f0, .int .i64 x.f1, .int .i64 x.f2, .int .i64 x.f3] 36 (0, 0))) ∧ Aside0 (w.heap.size + 2 ≤ wr.heap.size))
    case atStart => exact ⟨0, Nat.zero_le _, by omega, rfl, ⟨Kd.R_nil _ _ _ _ _⟩, ⟨HB2.out⟩, ⟨HXB2.out⟩, ⟨by have := HZ2.out; omega⟩⟩
    case round =>
      obtain ⟨i, hi, hg, rfl, RR, BB, XB, SZ⟩ := hrel
      obtain ⟨Ao, co, eo, _⟩ := Kd.R_reads RR.out
      generalize hn_ : (fuseK x (s.f3.take i)).length = n_ at eo
      subst eo
      by_cases hlt : i < s.f3.length
      · have hd : decide ((i : Int) < (s.f3.length : Int)) = true := decide_eq_true (by omega)
        have q3 : (0 : Int) ≤ (i : Int) := by omega
        obtain ⟨ad3, ea, y0, y1, y2, y3⟩ := at_T36 (Kd.C_below G3.out BB.out) (i : Int) q3 (by omega)
        have hyo := HY.out i hlt
        have hsn := fuseK_snoc x s.f3 i hlt
        have LF := Aside0.mk (show n_ + 2 ≤ 100002 by have := fuseK_len x (s.f3.take i); rw [List.length_take] at this; omega)
        subst ea
        generalize rd_T36 s.f3 (i : Int) = y at *
        have BY := Aside0.mk (below_alloc (Below.refl _ wr) (.cells #[.int .i64 y.f0, .int .i64 y.f1, .int .i64 y.f2, .int .i64 y.f3] 36 (0, 0)))
        have hyb := blk_new wr (.cells #[.int .i64 y.f0, .int .i64 y.f1, .int .i64 y.f2, .int .i64 y.f3] 36 (0, 0))
        have hxb := blk_below XB.out BY.out
        have BA := Aside0.mk (BB.out.trans (BY.out.mono BB.out.size))
        rw [Int.toNat_natCast] at y0 y1 y2 y3
        have x0 : (wr.alloc (.cells #[.int .i64 y.f0, .int .i64 y.f1, .int .i64 y.f2, .int .i64 y.f3] 36 (0, 0))).cell? ⟨w.heap.size, 0, none⟩ = some (.int .i64 x.f0) := (blk_cell hxb 0).trans rfl
        have x1 : (wr.alloc (.cells #[.int .i64 y.f0, .int .i64 y.f1, .int .i64 y.f2, .int .i64 y.f3] 36 (0, 0))).cell? ⟨w.heap.size, 1, none⟩ = some (.int .i64 x.f1) := (blk_cell hxb 1).trans rfl
        have x3 : (wr.alloc (.cells #[.int .i64 y.f0, .int .i64 y.f1, .int .i64 y.f2, .int .i64 y.f3] 36 (0, 0))).cell? ⟨w.heap.size, 3, none⟩ = some (.int .i64 x.f3) := (blk_cell hxb 3).trans rfl
        have z0 : (wr.alloc (.cells #[.int .i64 y.f0, .int .i64 y.f1, .int .i64 y.f2, .int .i64 y.f3] 36 (0, 0))).cell? ⟨wr.heap.size, 0, none⟩ = some (.int .i64 y.f0) := (blk_cell hyb 0).trans rfl
        have z1 : (wr.alloc (.cells #[.int .i64 y.f0, .int .i64 y.f1, .int .i64 y.f2, .int .i64 y.f3] 36 (0, 0))).cell? ⟨wr.heap.size, 1, none⟩ = some (.int .i64 y.f1) := (blk_cell hyb 1).trans rfl
        have z2 : (wr.alloc (.cells #[.int .i64 y.f0, .int .i64 y.f1, .int .i64 y.f2, .int .i64 y.f3] 36 (0, 0))).cell? ⟨wr.heap.size, 2, none⟩ = some (.int .i64 y.f2) := (blk_cell hyb 2).trans rfl
        have z3 : (wr.alloc (.cells #[.int .i64 y.f0, .int .i64 y.f1, .int .i64 y.f2, .int .i64 y.f3] 36 (0, 0))).cell? ⟨wr.heap.size, 3, none⟩ = some (.int .i64 y.f3) := (blk_cell hyb 3).trans rfl
        obtain ⟨a0, a1, a2, a3, a4, a5, a6⟩ := HX.out
        obtain ⟨b0, b1, b2, b3, b4, b5, b6⟩ := hyo
        have hXB' := Aside0.mk hxb
        clear hyb hxb
        have hsk : (if y.f0 < x.f3 then x.f3 - y.f0 else 0) = skipL x y := rfl
        have hsk1 : 0 ≤ skipL x y ∧ skipL x y ≤ 8192 := by unfold skipL; split <;> omega
        have hnm : (if x.f3 + x.f1 - y.f0 < y.f1 then x.f3 + x.f1 - y.f0 - skipL x y else y.f1 - skipL x y) = numL x y := rfl
        have hf1 : fuse1 x y = if numL x y > 0 then [⟨x.f0 + y.f0 + skipL x y - x.f3, numL x y, y.f2, y.f3 + skipL x y⟩] else [] := rfl
        generalize skipL x y = sk at *
        generalize numL x y = nm at *
        by_cases hn : nm > 0
        · have hdn : decide (nm > 0) = true := decide_eq_true hn
          have hdn2 : decide (0 < nm) = true := decide_eq_true hn
          rw [if_pos hn] at hf1
          rw [hf1] at hsn
          clear hf1 hn
          have HSN := Aside0.mk hsn
          clear hsn
          go_wp2_with (first | ((with_reducible refine gate_builtin (b := .append) (xs := #[.tmp 54, .tmp 73]) rfl ?_); (try (refine gate_guard (by rfl) ?_; dsimp only)); at_builtin; refine Kd.R_append k36 (w0 := w) w.heap.size rfl (.tmp 54) (.tmp 73) 31 36 (.agg #[(.int .i64 0), (.int .i64 0), (.int .i64 0), (.int .i64 0)]) 32 rfl Try.underlying31 info36 rfl (by decide) (by omega) (.slice Ao n_ co) (fuseK x (s.f3.take i)) ⟨x.f0 + y.f0 + sk - x.f3, nm, y.f2, y.f3 + sk⟩ [.int .i64 (x.f0 + y.f0 + sk - x.f3), .int .i64 nm, .int .i64 y.f2, .int .i64 (y.f3 + sk)] (fun k => w.heap.size + 2 ≤ k) (fun _ => False) rfl ?aX ?aP (fun _ hk => hk.elim) ?aF ?aO ?aB ?aS ?aL ?_; (case aX => first | rfl | (simp [World.size_alloc, Act.eval]; done)); (case aP => exact k36_mkM _ _ _ _); (case aB => exact BA.out); (case aF => intro k hk; have := SZ.out; have := BY.out.size; omega); (case aO => exact Kd.R_below RR.out BY.out); (case aS => exact BA.out.size); (case aL => have := LF.out; omega); intro v1 w1 ho1 hb1 hg1 hat1; have HO1 := Aside0.mk ho1; have HBB1 := Aside0.mk hb1; have HG1 := Aside0.mk hg1; clear ho1 hb1 hg1 hat1))
          go_roundg (s.f3.length - (i + 1) + 1)
          case rel => exact ⟨i + 1, by omega, by omega, by go_num, ⟨by rw [HSN.out]; exact HO1.out⟩, ⟨HBB1.out⟩, ⟨(HG1.out.block _ (blk_lt hXB'.out) (fun e_ => by have := RR.out.1 _ e_.symm; omega)).trans hXB'.out⟩, ⟨by have := HG1.out.size; have := SZ.out; have := BY.out.size; omega⟩⟩
          case measure => omega
        · have hdn : decide (nm > 0) = false := decide_eq_false hn
          have hdn2 : decide (0 < nm) = false := decide_eq_false hn
          rw [if_neg hn] at hf1
          rw [hf1, List.append_nil] at hsn
          clear hf1 hn
          have HSN := Aside0.mk hsn
          clear hsn
          go_wp2
          go_roundg (s.f3.length - (i + 1) + 1)
          case rel => exact ⟨i + 1, by omega, by omega, by go_num, ⟨by rw [HSN.out]; exact Kd.R_below RR.out BY.out⟩, ⟨BA.out⟩, ⟨hXB'.out⟩, ⟨by have := SZ.out; have := BY.out.size; omega⟩⟩
          case measure => omega
      · have hd : decide ((i : Int) < (s.f3.length : Int)) = false := decide_eq_false (by omega)
        obtain rfl : i = s.f3.length := by omega
        go_wp2
        go_ret
        refine ⟨_, rfl, ?_, BB.out⟩
        have := Kd.R_mono RR.out (fun _ _ => trivial)
        rwa [List.take_length] at this
  · have e1 : (s.f0 == 3) = false := beq_eq_false_iff_ne.2 h3
    have e2 : (s.f0 != 3) = true := bne_iff_ne.2 h3
    rw [if_neg h3] at hF
    subst hF
    clear h3
    have x0 : W2.cell? ⟨w.heap.size, 0, none⟩ = some (.int .i64 x.f0) := (blk_cell HXB2.out 0).trans rfl
    have x1 : W2.cell? ⟨w.heap.size, 1, none⟩ = some (.int .i64 x.f1) := (blk_cell HXB2.out 1).trans rfl
    have x2 : W2.cell? ⟨w.heap.size, 2, none⟩ = some (.int .i64 x.f2) := (blk_cell HXB2.out 2).trans rfl
    have x3 : W2.cell? ⟨w.heap.size, 3, none⟩ = some (.int .i64 x.f3) := (blk_cell HXB2.out 3).trans rfl
    go_wp2
    go_ret
    refine ⟨_, rfl, ⟨fun _ _ => trivial, ?_⟩, below_alloc HB2.out _⟩
    exact OwnRow.lit (ps := [x]) (inner := [.int .i64 x.f0, .int .i64 x.f1, .int .i64 x.f2, .int .i64 x.f3]) W2 w.heap.size ((Reps.none _ _).snoc (k36_mkM _ _ _ x) rfl) HB2.out.size (by simp)
end Go.Proofs.Ytneglmnffdmbiaa.P
