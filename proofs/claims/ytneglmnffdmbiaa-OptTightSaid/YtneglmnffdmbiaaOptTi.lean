import Derived.Test.YtneglmnffdmbiaaOptInv
namespace Go.Proofs.Ytneglmnffdmbiaa.P
open Go.RowKit Go.Proofs.YtneglmnffdmbiaaW.PrintWords Go.Proofs.YtneglmnffdmbiaaW.PrintLast Go.Proofs.YtneglmnffdmbiaaW.PrintMore
set_option linter.unusedVariables false
set_option linter.unusedSimpArgs false

/-! nothing is left to do: tight says so -/
/-- Of the steps behind x all children are marked. -/
def LvOk (q : List S34) (bs : List Bool) (x : Int) : Prop := bs.length = q.length ∧ ∀ c j : Int, x < j → j < (q.length : Int) → Chd q j c → rdOf false bs c = true
theorem rdOf_set {bs : List Bool} {i c : Int} (h0 : 0 ≤ i) (h1 : i < (bs.length : Int)) (hc : 0 ≤ c) : rdOf false (bs.set i.toNat true) c = if c = i then true else rdOf false bs c := by
  unfold rdOf
  rw [List.getD_eq_getElem?_getD, List.getElem?_set]
  by_cases h : c = i
  · subst h
    rw [if_pos rfl, if_pos (by omega), if_pos rfl]
    rfl
  · rw [if_neg (by omega), if_neg h, List.getD_eq_getElem?_getD]
/-- More is marked. -/
def Mono (bs bs' : List Bool) : Prop := bs'.length = bs.length ∧ ∀ c : Int, 0 ≤ c → rdOf false bs c = true → rdOf false bs' c = true
theorem Mono.set {bs bs' : List Bool} {i : Int} (h : Mono bs bs') (h0 : 0 ≤ i) (h1 : i < (bs.length : Int)) : Mono bs (bs'.set i.toNat true) ∧ rdOf false (bs'.set i.toNat true) i = true ∧ ∀ c : Int, 0 ≤ c → rdOf false bs' c = true → rdOf false (bs'.set i.toNat true) c = true := by
  have hl := h.1
  have hs := fun (c : Int) (hc : 0 ≤ c) => rdOf_set (bs := bs') (i := i) (c := c) h0 (by omega) hc
  have hm : ∀ c : Int, 0 ≤ c → rdOf false bs' c = true → rdOf false (bs'.set i.toNat true) c = true := by
    intro c hc hv
    rw [hs c hc]
    split
    · rfl
    · exact hv
  refine ⟨⟨by rw [List.length_set, hl], fun c hc hv => hm c hc (h.2 c hc hv)⟩, ?_, hm⟩
  rw [hs i h0, if_pos rfl]
set_option maxHeartbeats 32000000 in
set_option maxRecDepth 100000 in
theorem tight_calls (A : Option Addr) (c : Nat) (q : List S34) (qr : Int) (ro : Bool) (w : World) (hC : Kd.C k34 w A q.length q) (hc : q.length ≤ c) (hn : 1 ≤ q.length) (hn2 : q.length ≤ 1000) (hG : AllGood q) (hF : ∀ i : Int, 0 ≤ i → i < (q.length : Int) → ¬ Full q i) (hP : ∀ i : Int, 0 ≤ i → i < (q.length : Int) → i ≠ qr → ∃ j, i < j ∧ j < (q.length : Int) ∧ Chd q j i) :
    Calls Try.prog 12 #[.agg #[.slice A q.length c, .int .i64 qr, .bool ro]] w fun e w' => e = .returned (.bool true) ∧ Below w.heap.size w w' := by
  have HC := Aside0.mk hC
  have HG := Aside0.mk hG
  have HF := Aside0.mk hF
  have HP := Aside0.mk hP
  clear hC hG hF hP
  go_enter Try.func12, Try.ntmps12
  go_upto_region 1 with (fail)
  have h1 := blk_new w (.cells #[.slice A q.length c, .int .i64 qr, .bool ro] 24 (0, 0))
  have hb0 := below_alloc (Below.refl w.heap.size w) (.cells #[.slice A q.length c, .int .i64 qr, .bool ro] 24 (0, 0))
  have H1 := Aside0.mk h1
  have HB0 := Aside0.mk hb0
  clear h1 hb0
  generalize w.alloc (.cells #[.slice A q.length c, .int .i64 qr, .bool ro] 24 (0, 0)) = W0 at *
  obtain ⟨b1, hb1⟩ : ∃ b, b = w.heap.size := ⟨_, rfl⟩
  rw [← hb1] at H1 ⊢
  clear hb1
  have x0 : W0.cell? ⟨b1, 0, none⟩ = some (.slice A q.length c) := (blk_cell H1.out 0).trans rfl
  go_upto_region 2 with ((with_reducible refine gate_dst (N := 12) rfl ?_); refine Kd.R_make Kd.bool W0.heap.size 4 rfl (N := 12) rfl 48 _ _ rfl (q.length : Int) rfl rfl Try.underlying48 (.bool false) 1 info4 rfl (by decide) (by omega) false (ok := fun _ => True) (okp := fun _ => True) rfl (fun _ hk => hk) trivial (by omega) (by rw [Int.toNat_natCast]; omega) (Below.refl _ _) (Nat.le_refl _) ?_; intro v1 w1 ho1 hb1 hg1 hnew1; rw [Int.toNat_natCast] at ho1; obtain ⟨go, co, eo, gb, gl, cl⟩ := Kd.R_form ho1 (by rw [List.length_replicate]; omega); rw [List.length_replicate] at eo; subst eo; have HR1 := Aside0.mk ho1; have HB1 := Aside0.mk hb1; have HGO := Aside0.mk gb; clear ho1 hb1 hg1 hnew1 gb gl cl)
  clear x0
  have x0 : w1.cell? ⟨b1, 0, none⟩ = some (.slice A q.length c) := (blk_cell (blk_below H1.out HB1.out) 0).trans rfl
  have hw1 : IntKind.i64.wrap ((q.length : Int) - 1) = (q.length : Int) - 1 := by rw [i64_w]; unfold wrap64; omega
  go_upto_block 0 with (fail)
  go_wp2_with (fail)
  go_loopg [4] (q.length + 1) (fun kx v4 wr => ∃ (x : Int) (bs : List Bool), -1 ≤ x ∧ x < (q.length : Int) ∧ (x + 1).toNat + 1 ≤ kx ∧ v4 = .int .i64 x ∧ Aside0 (Kd.R Kd.bool 4 wr W0.heap.size (fun _ => True) (.slice (some ⟨go, 0, none⟩) q.length co) bs) ∧ Aside0 (LvOk q bs x) ∧ Aside0 (Below W0.heap.size W0 wr))
  case atStart => exact ⟨(q.length : Int) - 1, _, by omega, by omega, by omega, rfl, HR1, ⟨by rw [List.length_replicate], fun c j h1 h2 _ => by omega⟩, HB1⟩
  case round =>
    clear HR1 HB1 x0 hw1
    obtain ⟨x, bs, hx0, hx1, hg, rfl, HR, LV, BW⟩ := hrel
    by_cases hx : 0 ≤ x
    · have d0 : decide (x ≥ 0) = true := decide_eq_true hx
      have d0' : decide (0 ≤ x) = true := decide_eq_true hx
      have hHBw := Aside0.mk (HB0.out.trans (BW.out.mono HB0.out.size))
      obtain ⟨ad, A3, c3, A4, c4, A8, c8, A9, c9, rfl, f0, f1, f2, f3, f4, f5, f6, f7, f8, f9, l3, g3, l4, g4, l8, g8, l9, g9⟩ := at_T34 (Kd.C_below HC.out HB0.out) x hx hx1
      replace f0 := (BW.out.cell (World.block_lt_of_cell? _ _ f0)).trans f0
      replace f1 := (BW.out.cell (World.block_lt_of_cell? _ _ f1)).trans f1
      replace f2 := (BW.out.cell (World.block_lt_of_cell? _ _ f2)).trans f2
      replace f3 := (BW.out.cell (World.block_lt_of_cell? _ _ f3)).trans f3
      replace f4 := (BW.out.cell (World.block_lt_of_cell? _ _ f4)).trans f4
      replace f5 := (BW.out.cell (World.block_lt_of_cell? _ _ f5)).trans f5
      replace f6 := (BW.out.cell (World.block_lt_of_cell? _ _ f6)).trans f6
      replace f7 := (BW.out.cell (World.block_lt_of_cell? _ _ f7)).trans f7
      replace f8 := (BW.out.cell (World.block_lt_of_cell? _ _ f8)).trans f8
      replace f9 := (BW.out.cell (World.block_lt_of_cell? _ _ f9)).trans f9
      have HGx := Aside0.mk (HG.out x hx hx1)
      have HFx := Aside0.mk (HF.out x hx hx1)
      have n3 := HG.out.l3 x
      have n4 := HGx.out.l4
      have HCX := Aside0.mk (show ∀ c : Int, Chd q x c → 0 ≤ c ∧ c < x from fun c h_ => HG.out.down x hx hx1 c h_)
      have HCH := Aside0.mk (show (∀ j : Nat, j < (rd_T34 q x).f4.length → Chd q x (rd (rd_T34 q x).f4 (j : Int))) ∧ (∀ j : Nat, j < (rd_T34 q x).f3.length → Chd q x (rd_T36 (rd_T34 q x).f3 (j : Int)).f2) from ⟨fun j hj => .inl ⟨j, hj, rfl⟩, fun j hj => .inr ⟨j, hj, rfl⟩⟩)
      have HCD := Aside0.mk (show ∀ c : Int, Chd q x c → (∃ j : Nat, j < (rd_T34 q x).f4.length ∧ rd (rd_T34 q x).f4 (j : Int) = c) ∨ (∃ j : Nat, j < (rd_T34 q x).f3.length ∧ (rd_T36 (rd_T34 q x).f3 (j : Int)).f2 = c) from fun c h_ => h_)
      have HNJ := Aside0.mk (show ∀ j : Nat, j + 1 < (rd_T34 q x).f3.length → ¬ Jn (rd_T36 (rd_T34 q x).f3 (j : Int)) (rd_T36 (rd_T34 q x).f3 ((j + 1 : Nat) : Int)) from fun j hj => by
        by_cases hf : (rd_T34 q x).f0 = 3
        · exact NJ_at _ (HGx.out.c hf).2.2.1 j hj
        · rw [(HGx.out.o hf).1] at hj
          simp at hj)
      have HEX := Aside0.mk (show ∀ j : Nat, j < (rd_T34 q x).f3.length → (rd_T34 q (rd_T36 (rd_T34 q x).f3 (j : Int)).f2).f0 ≠ 3 ∧ (rd_T34 q x).f0 = 3 from fun j hj => by
        by_cases hf : (rd_T34 q x).f0 = 3
        · exact ⟨((HGx.out.c hf).2.1 _ (rd_mem _ j hj)).2, hf⟩
        · rw [(HGx.out.o hf).1] at hj
          simp at hj)
      have HXO := Aside0.mk (show ∀ j : Nat, j < (rd_T34 q x).f3.length → exOk (rd_T36 (rd_T34 q x).f3 (j : Int)) from fun j hj => HG.out.ex x j hj)
      have HF1 := Aside0.mk (show (rd_T34 q x).f3.length = 1 → (rd_T36 (rd_T34 q x).f3 0).f3 = 0 → (rd_T36 (rd_T34 q x).f3 0).f1 = (rd_T34 q (rd_T36 (rd_T34 q x).f3 0).f2).f1 → False from fun h1 h3 h2 => by
        have hf := (HEX.out 0 (by omega)).2
        obtain ⟨e, he⟩ := List.length_eq_one_iff.1 h1
        rw [he] at h3 h2
        exact HFx.out ⟨hf, e, he, h3, h2⟩)
      generalize hT : rd_T34 q x = t at *
      clear hT HGx HFx
      have G3 := Aside0.mk g3
      have G4 := Aside0.mk g4
      have hb5 := blk_new wr (.cells #[.int .i64 t.f0, .int .i64 t.f1, .int .i64 t.f2, .slice A3 t.f3.length c3, .slice A4 t.f4.length c4, .int .i64 t.f5, .int .i64 t.f6, .int .i64 t.f7, .slice A8 t.f8.length c8, .slice A9 t.f9.length c9] 34 (0, 0))
      have x0 : wr.cell? ⟨b1, 0, none⟩ = some (.slice (some ad) q.length c) := (blk_cell (blk_below H1.out BW.out) 0).trans rfl
      have hba : Below wr.heap.size wr (wr.alloc (.cells #[.int .i64 t.f0, .int .i64 t.f1, .int .i64 t.f2, .slice A3 t.f3.length c3, .slice A4 t.f4.length c4, .int .i64 t.f5, .int .i64 t.f6, .int .i64 t.f7, .slice A8 t.f8.length c8, .slice A9 t.f9.length c9] 34 (0, 0))) := below_alloc (Below.refl _ _) _
      have H5 := Aside0.mk hb5
      have BW5 := Aside0.mk (BW.out.trans (hba.mono BW.out.size))
      have HR5 := Aside0.mk (Kd.R_below HR.out hba)
      have HZ5 := Aside0.mk (show W0.heap.size ≤ wr.heap.size from BW.out.size)
      clear hb5 hba l3 g3 l4 g4 l8 g8 l9 g9
      go_upto_region 6 with (fail)
      clear f0 f1 f2 f3 f4 f5 f6 f7 f8 f9 x0 d0 d0'
      generalize wr.alloc (.cells #[.int .i64 t.f0, .int .i64 t.f1, .int .i64 t.f2, .slice A3 t.f3.length c3, .slice A4 t.f4.length c4, .int .i64 t.f5, .int .i64 t.f6, .int .i64 t.f7, .slice A8 t.f8.length c8, .slice A9 t.f9.length c9] 34 (0, 0)) = W5 at *
      obtain ⟨b5, hb5⟩ : ∃ b, b = wr.heap.size := ⟨_, rfl⟩
      rw [← hb5] at H5 HZ5 ⊢
      clear hb5
      have x1 : W5.cell? ⟨b1, 1, none⟩ = some (.int .i64 qr) := (blk_cell (blk_below H1.out BW5.out) 1).trans rfl
      go_cut [36] (fun v36 wc => v36 = .bool false ∧ Aside0 (wc = W5))
      case first =>
        by_cases hxr : x = qr
        · have e1 : (x == qr) = true := beq_iff_eq.2 hxr
          have e2 : (x != qr) = false := by rw [hxr]; simp
          clear hxr
          go_wp2
          repeat (go_quiet (fail); try go_wp2)
          go_meet
          case rel => exact ⟨rfl, ⟨rfl⟩⟩
        · have e1 : (x == qr) = false := beq_eq_false_iff_ne.2 hxr
          have e2 : (x != qr) = true := bne_iff_ne.2 hxr
          obtain ⟨y0, y1⟩ := Kd.R_celln false HR5.out x hx hx1
          have hlv : rdOf false bs x = true := by
            obtain ⟨j, j0, j1, jc⟩ := HP.out x hx hx1 hxr
            exact LV.out.2 x j j0 j1 jc
          rw [hlv] at y0
          have p7 : (0 ≤ x) = True := eq_true hx
          have q7 : (x < (q.length : Int)) = True := eq_true hx1
          clear hxr hlv
          go_wp2
          repeat (go_quiet (fail); try go_wp2)
          go_meet
          case rel => exact ⟨rfl, ⟨rfl⟩⟩
      case rest =>
        obtain ⟨rfl, hw⟩ := hcut
        obtain rfl := hw.out
        clear x1 hw
        have y4 : wc.cell? ⟨b5, 4, none⟩ = some (.slice A4 t.f4.length c4) := (blk_cell H5.out 4).trans rfl
        go_wp2
        have LEN := Aside0.mk LV.out.1
        go_loopg [6] (t.f4.length + 1) (fun kx v6 wr => ∃ (k : Nat) (bs2 : List Bool), k ≤ t.f4.length ∧ t.f4.length - k + 1 ≤ kx ∧ v6 = .int .i64 k ∧ Aside0 (Kd.R Kd.bool 4 wr W0.heap.size (fun _ => True) (.slice (some ⟨go, 0, none⟩) q.length co) bs2) ∧ Aside0 (Mono bs bs2) ∧ Aside0 (∀ j : Nat, j < k → rdOf false bs2 (rd t.f4 (j : Int)) = true) ∧ Aside0 (Below W0.heap.size W0 wr) ∧ Aside0 (wr.heap[b5]? = some (.cells #[.int .i64 t.f0, .int .i64 t.f1, .int .i64 t.f2, .slice A3 t.f3.length c3, .slice A4 t.f4.length c4, .int .i64 t.f5, .int .i64 t.f6, .int .i64 t.f7, .slice A8 t.f8.length c8, .slice A9 t.f9.length c9] 34 (0, 0))))
        case atStart => exact ⟨0, bs, Nat.zero_le _, by omega, rfl, HR5, ⟨rfl, fun _ _ h => h⟩, ⟨fun j hj => absurd hj (Nat.not_lt_zero _)⟩, BW5, H5⟩
        case round =>
          clear y4 HR5 BW5 H5
          obtain ⟨k, bs2, hk, hgk, rfl, HR2, MO2, DN2, BW2, H52⟩ := hrel
          have y4 : wr.cell? ⟨b5, 4, none⟩ = some (.slice A4 t.f4.length c4) := (blk_cell H52.out 4).trans rfl
          by_cases hkl : k < t.f4.length
          · have d1 : decide ((k : Int) < (t.f4.length : Int)) = true := decide_eq_true (by omega)
            have qk : (0 : Int) ≤ (k : Int) := by omega
            have hch := HCH.out.1 k hkl
            have hcx := HCX.out _ hch
            obtain ⟨a4, eA4, y0⟩ := Kd.at_int (Kd.C_below G4.out BW2.out) (k : Int) qk (by omega)
            subst eA4
            rw [Int.toNat_natCast] at y0
            have hset := MO2.out.set (i := rd t.f4 (k : Int)) hcx.1 (by have := LEN.out; omega)
            have HSE := Aside0.mk hset
            have HDN := Aside0.mk (show ∀ j : Nat, j < k + 1 → rdOf false (bs2.set (rd t.f4 (k : Int)).toNat true) (rd t.f4 (j : Int)) = true from fun j hj => by
              by_cases hjk : j = k
              · subst hjk; exact hset.2.1
              · have hjl : j < t.f4.length := by omega
                exact hset.2.2 _ (HCX.out _ (HCH.out.1 j hjl)).1 (DN2.out j (by omega)))
            clear hset hch
            generalize hkk : rd t.f4 (k : Int) = kk at *
            clear hkk
            obtain ⟨l0, l1⟩ := Kd.R_celln false HR2.out kk hcx.1 (by omega)
            have HPU := Aside0.mk (Kd.R_putg HR2.out kk true)
            have HTB := Aside0.mk (show (wr.setCell ⟨go, kk.toNat, none⟩ (.bool true)).heap[b5]? = _ from (Below.heap_setCell wr ⟨go, kk.toNat, none⟩ _ b5 (by
              obtain ⟨c1, h1⟩ := Kd.R_typed HR2.out go rfl
              exact blk_ne H52.out h1 (by decide))).trans H52.out)
            have p7 : (0 ≤ kk) = True := eq_true hcx.1
            have q7 : (kk < (q.length : Int)) = True := eq_true (by omega)
            clear hcx
            go_wp2
            repeat (go_quiet (fail); try go_wp2)
            go_roundg (t.f4.length - (k + 1) + 1)
            case rel => exact ⟨k + 1, _, by omega, by omega, by go_num, ⟨HPU.out.1⟩, ⟨HSE.out.1⟩, HDN, ⟨below_set BW2.out HGO.out⟩, HTB⟩
            case measure => omega
          · have d1 : decide ((k : Int) < (t.f4.length : Int)) = false := decide_eq_false (by omega)
            obtain rfl : k = t.f4.length := by omega
            obtain ⟨W6, hW6⟩ : ∃ W6, W6 = wr := ⟨_, rfl⟩
            subst hW6
            have y3 : W6.cell? ⟨b5, 3, none⟩ = some (.slice A3 t.f3.length c3) := (blk_cell H52.out 3).trans rfl
            go_wp2
            go_loopg [7] (t.f3.length + 1) (fun kx v7 wr => ∃ (k : Nat) (bs3 : List Bool), k ≤ t.f3.length ∧ t.f3.length - k + 1 ≤ kx ∧ v7 = .int .i64 k ∧ Aside0 (Kd.R Kd.bool 4 wr W0.heap.size (fun _ => True) (.slice (some ⟨go, 0, none⟩) q.length co) bs3) ∧ Aside0 (Mono bs2 bs3) ∧ Aside0 (∀ j : Nat, j < k → rdOf false bs3 (rd_T36 t.f3 (j : Int)).f2 = true) ∧ Aside0 (Below W0.heap.size W0 wr) ∧ Aside0 (wr.heap[b5]? = some (.cells #[.int .i64 t.f0, .int .i64 t.f1, .int .i64 t.f2, .slice A3 t.f3.length c3, .slice A4 t.f4.length c4, .int .i64 t.f5, .int .i64 t.f6, .int .i64 t.f7, .slice A8 t.f8.length c8, .slice A9 t.f9.length c9] 34 (0, 0))))
            case atStart => exact ⟨0, bs2, Nat.zero_le _, by omega, rfl, HR2, ⟨rfl, fun _ _ h => h⟩, ⟨fun j hj => absurd hj (Nat.not_lt_zero _)⟩, BW2, H52⟩
            case round =>
              clear y3 y4 HR2 BW2 H52
              obtain ⟨k, bs3, hk, hgk, rfl, HR3, MO3, DN3, BW3, H53⟩ := hrel
              have y3 : wr.cell? ⟨b5, 3, none⟩ = some (.slice A3 t.f3.length c3) := (blk_cell H53.out 3).trans rfl
              have LEN2 := Aside0.mk MO2.out.1
              by_cases hkl : k < t.f3.length
              · have d1 : decide ((k : Int) < (t.f3.length : Int)) = true := decide_eq_true (by omega)
                have qk : (0 : Int) ≤ (k : Int) := by omega
                have hch := HCH.out.2 k hkl
                have hcx := HCX.out _ hch
                obtain ⟨a3, eA3, y30, y31, y32, y33⟩ := at_T36 (Kd.C_below G3.out BW3.out) (k : Int) qk (by omega)
                subst eA3
                rw [Int.toNat_natCast] at y30 y31 y32 y33
                have hset := MO3.out.set (i := (rd_T36 t.f3 (k : Int)).f2) hcx.1 (by have := LEN.out; have := LEN2.out; omega)
                have HSE := Aside0.mk hset
                have HDN := Aside0.mk (show ∀ j : Nat, j < k + 1 → rdOf false (bs3.set (rd_T36 t.f3 (k : Int)).f2.toNat true) (rd_T36 t.f3 (j : Int)).f2 = true from fun j hj => by
                  by_cases hjk : j = k
                  · subst hjk; exact hset.2.1
                  · have hjl : j < t.f3.length := by omega
                    exact hset.2.2 _ (HCX.out _ (HCH.out.2 j hjl)).1 (DN3.out j (by omega)))
                have hk3 := (HEX.out k hkl).1
                have HFX := Aside0.mk (show t.f3.length = 1 → (rd_T36 t.f3 (k : Int)).f3 = 0 → (rd_T36 t.f3 (k : Int)).f1 = (rd_T34 q (rd_T36 t.f3 (k : Int)).f2).f1 → False from fun h1 => by
                  obtain rfl : k = 0 := by omega
                  exact HF1.out h1)
                have HNX := Aside0.mk (show ∀ k' : Nat, k' + 1 = k → ¬ Jn (rd_T36 t.f3 (k' : Int)) (rd_T36 t.f3 (k : Int)) from fun k' hk' => by
                  subst hk'
                  exact HNJ.out k' hkl)
                have hxo := HXO.out k hkl
                clear hset hch
                generalize he : rd_T36 t.f3 (k : Int) = e at *
                clear he
                have hb6 := blk_new wr (.cells #[.int .i64 e.f0, .int .i64 e.f1, .int .i64 e.f2, .int .i64 e.f3] 36 (0, 0))
                have hba : Below wr.heap.size wr (wr.alloc (.cells #[.int .i64 e.f0, .int .i64 e.f1, .int .i64 e.f2, .int .i64 e.f3] 36 (0, 0))) := below_alloc (Below.refl _ _) _
                have HR4 := Aside0.mk (Kd.R_below HR3.out hba)
                have H54 := Aside0.mk (blk_below H53.out hba)
                have BW4 := Aside0.mk (BW3.out.trans (hba.mono BW3.out.size))
                have HZ4 := Aside0.mk (show W0.heap.size ≤ wr.heap.size from BW3.out.size)
                have H64 := Aside0.mk hb6
                clear hb6 hba
                go_upto_region 16 with (fail)
                clear y3 y30 y31 y32 y33
                generalize wr.alloc (.cells #[.int .i64 e.f0, .int .i64 e.f1, .int .i64 e.f2, .int .i64 e.f3] 36 (0, 0)) = W7 at *
                obtain ⟨b8, hb8⟩ : ∃ b, b = wr.heap.size := ⟨_, rfl⟩
                rw [← hb8] at H64 HZ4 ⊢
                clear hb8
                obtain ⟨l0, l1⟩ := Kd.R_celln false HR4.out e.f2 hcx.1 (by omega)
                have HPU := Aside0.mk (Kd.R_putg HR4.out e.f2 true)
                have hne := fun (b : Nat) (cs : Array Value) (ty : TypeId) (hb : W7.heap[b]? = some (.cells cs ty (0, 0))) (hty : ty ≠ 4) => (Below.heap_setCell W7 ⟨go, e.f2.toNat, none⟩ (.bool true) b (by
                  obtain ⟨c1, h1⟩ := Kd.R_typed HR4.out go rfl
                  exact blk_ne hb h1 hty)).trans hb
                have H55 := Aside0.mk (hne b5 _ _ H54.out (by decide))
                have H65 := Aside0.mk (hne b8 _ _ H64.out (by decide))
                have BW5' := Aside0.mk (below_set (g := go) (j := e.f2.toNat) (v := .bool true) BW4.out HGO.out)
                have p7 : (0 ≤ e.f2) = True := eq_true hcx.1
                have q7 : (e.f2 < (q.length : Int)) = True := eq_true (by omega)
                have x82 : W7.cell? ⟨b8, 2, none⟩ = some (.int .i64 e.f2) := (blk_cell H64.out 2).trans rfl
                clear hne
                go_upto_region 17 with (fail)
                clear l0 l1 x82 p7 q7
                generalize W7.setCell ⟨go, e.f2.toNat, none⟩ (.bool true) = W8 at *
                have hHB8 := Aside0.mk (HB0.out.trans (BW5'.out.mono HB0.out.size))
                obtain ⟨_, _, _, _, _, _, _, _, _, eL, z0, z1, _⟩ := at_T34 (Kd.C_below HC.out hHB8.out) e.f2 hcx.1 (by omega)
                injection eL with eL
                subst eL
                have p7 : (0 ≤ e.f2) = True := eq_true hcx.1
                have q7 : (e.f2 < (q.length : Int)) = True := eq_true (by omega)
                have x0 : W8.cell? ⟨b1, 0, none⟩ = some (.slice (some ad) q.length c) := (blk_cell (blk_below H1.out BW5'.out) 0).trans rfl
                have x82 : W8.cell? ⟨b8, 2, none⟩ = some (.int .i64 e.f2) := (blk_cell H65.out 2).trans rfl
                have x83 : W8.cell? ⟨b8, 3, none⟩ = some (.int .i64 e.f3) := (blk_cell H65.out 3).trans rfl
                have x81 : W8.cell? ⟨b8, 1, none⟩ = some (.int .i64 e.f1) := (blk_cell H65.out 1).trans rfl
                have x53 : W8.cell? ⟨b5, 3, none⟩ = some (.slice (some a3) t.f3.length c3) := (blk_cell H55.out 3).trans rfl
                generalize hk34 : rd_T34 q e.f2 = kt at *
                clear hk34
                have nk : (kt.f0 == (3 : Int)) = false := beq_eq_false_iff_ne.2 hk3
                clear hk3
                go_cut [110] (fun v110 wc => v110 = .bool false ∧ Aside0 (∃ m : Nat, wc = W8.drewN m))
                case first =>
                  cases k with
                  | zero =>
                    have g0 : decide (((0 : Nat) : Int) > 0) = false := by decide
                    have g0' : decide ((0 : Int) < ((0 : Nat) : Int)) = false := by decide
                    go_wp2
                    repeat (go_quiet (fail); try go_wp2)
                    go_meet
                    case rel => exact ⟨rfl, ⟨_, rfl⟩⟩
                  | succ k' =>
                    have g0 : decide (((k' + 1 : Nat) : Int) > 0) = true := decide_eq_true (by omega)
                    have g0' : decide ((0 : Int) < ((k' + 1 : Nat) : Int)) = true := decide_eq_true (by omega)
                    have hNJ := HNX.out k' rfl
                    obtain ⟨a3', eA3', y30, y31, y32, y33⟩ := at_T36 (Kd.C_below G3.out BW5'.out) (k' : Int) (by omega) (by omega)
                    injection eA3' with eA3'
                    subst eA3'
                    have hxp := HXO.out k' (by omega)
                    rw [Int.toNat_natCast] at y30 y31 y32 y33
                    generalize rd_T36 t.f3 (k' : Int) = e' at *
                    obtain ⟨jx, hjx⟩ : ∃ j : Int, j = (k' : Int) := ⟨_, rfl⟩
                    have hw1 : IntKind.i64.wrap (((k' + 1 : Nat) : Int) - 1) = (k' : Int) := by rw [i64_w]; unfold wrap64; omega
                    have hw1' : IntKind.i64.wrap ((k' : Int) + 1 - 1) = (k' : Int) := by rw [i64_w]; unfold wrap64; omega
                    have hw1'' : IntKind.i64.wrap (k' : Int) = (k' : Int) := by rw [i64_w]; unfold wrap64; omega
                    have hw2 : IntKind.i64.wrap (e'.f3 + e'.f1) = e'.f3 + e'.f1 := by unfold exOk at hxp; rw [i64_w]; unfold wrap64; omega
                    have r7 : (k' < t.f3.length) = True := eq_true (by omega)
                    have r8 : ((k' : Int) < (t.f3.length : Int)) = True := eq_true (by omega)
                    have r9 : ((0 : Int) ≤ (k' : Int)) = True := eq_true (by omega)
                    clear hjx hxp
                    by_cases h2 : e'.f2 = e.f2
                    · have h2b : (e'.f2 == e.f2) = true := beq_iff_eq.2 h2
                      have h3b : (e'.f3 + e'.f1 == e.f3) = false := beq_eq_false_iff_ne.2 (fun h3 => hNJ ⟨h2, h3⟩)
                      clear h2 hNJ
                      go_wp2
                      repeat (go_quiet (fail); try go_wp2)
                      go_meet
                      case rel => exact ⟨rfl, ⟨_, rfl⟩⟩
                    · have h2b : (e'.f2 == e.f2) = false := beq_eq_false_iff_ne.2 h2
                      clear h2 hNJ
                      go_wp2
                      repeat (go_quiet (fail); try go_wp2)
                      go_meet
                      case rel => exact ⟨rfl, ⟨_, rfl⟩⟩
                case rest =>
                  obtain ⟨rfl, hw⟩ := hcut
                  obtain ⟨mw, rfl⟩ := hw.out
                  clear hw
                  have B9 := Aside0.mk (pw_below_drewN (Below.refl W8.heap.size W8) mw)
                  have H59 := Aside0.mk (blk_below H55.out B9.out)
                  have H69 := Aside0.mk (blk_below H65.out B9.out)
                  have BW9 := Aside0.mk (pw_below_drewN BW5'.out mw)
                  have HR9 := Aside0.mk (Kd.R_below HPU.out.1 B9.out)
                  replace x0 : (W8.drewN mw).cell? ⟨b1, 0, none⟩ = some (.slice (some ad) q.length c) := (blk_cell (blk_below H1.out BW9.out) 0).trans rfl
                  replace x82 : (W8.drewN mw).cell? ⟨b8, 2, none⟩ = some (.int .i64 e.f2) := (blk_cell H69.out 2).trans rfl
                  replace x83 : (W8.drewN mw).cell? ⟨b8, 3, none⟩ = some (.int .i64 e.f3) := (blk_cell H69.out 3).trans rfl
                  replace x81 : (W8.drewN mw).cell? ⟨b8, 1, none⟩ = some (.int .i64 e.f1) := (blk_cell H69.out 1).trans rfl
                  replace x53 : (W8.drewN mw).cell? ⟨b5, 3, none⟩ = some (.slice (some a3) t.f3.length c3) := (blk_cell H59.out 3).trans rfl
                  replace z1 := (B9.out.cell (World.block_lt_of_cell? _ _ z1)).trans z1
                  replace z0 := (B9.out.cell (World.block_lt_of_cell? _ _ z0)).trans z0
                  generalize W8.drewN mw = W9 at *
                  go_upto_region 19 with (fail)
                  go_cut [131] (fun v131 wc => v131 = .bool false ∧ Aside0 (∃ m : Nat, wc = W9.drewN m))
                  case first =>
                    by_cases u1 : t.f3.length = 1
                    · have u1b : ((t.f3.length : Int) == 1) = true := by rw [u1]; rfl
                      have u1c : (t.f3.length == 1) = true := by rw [u1]; rfl
                      by_cases u2 : e.f3 = 0
                      · have u2b : (e.f3 == (0 : Int)) = true := beq_iff_eq.2 u2
                        have u3b : (e.f1 == kt.f1) = false := beq_eq_false_iff_ne.2 (fun h_ => HFX.out u1 u2 h_)
                        clear u1 u2
                        go_wp2
                        repeat (go_quiet (fail); try go_wp2)
                        go_meet
                        case rel => exact ⟨rfl, ⟨_, rfl⟩⟩
                      · have u2b : (e.f3 == (0 : Int)) = false := beq_eq_false_iff_ne.2 u2
                        clear u1 u2
                        go_wp2
                        repeat (go_quiet (fail); try go_wp2)
                        go_meet
                        case rel => exact ⟨rfl, ⟨_, rfl⟩⟩
                    · have u1b : ((t.f3.length : Int) == 1) = false := beq_eq_false_iff_ne.2 (by omega)
                      have u1c : (t.f3.length == 1) = false := beq_eq_false_iff_ne.2 u1
                      clear u1
                      go_wp2
                      repeat (go_quiet (fail); try go_wp2)
                      go_meet
                      case rel => exact ⟨rfl, ⟨_, rfl⟩⟩
                  case rest =>
                    obtain ⟨rfl, hw⟩ := hcut
                    obtain ⟨mw2, rfl⟩ := hw.out
                    clear hw x0 x82 x83 x81 x53 z0 z1
                    go_wp2
                    go_roundg (t.f3.length - (k + 1) + 1)
                    case rel => exact ⟨k + 1, _, by omega, by omega, by go_num, ⟨Kd.R_below HR9.out (pw_below_drewN (Below.refl _ _) _)⟩, ⟨HSE.out.1⟩, HDN, ⟨pw_below_drewN BW9.out _⟩, ⟨blk_below H59.out (pw_below_drewN (Below.refl _ _) _)⟩⟩
                    case measure => omega
              · have d1 : decide ((k : Int) < (t.f3.length : Int)) = false := decide_eq_false (by omega)
                obtain rfl : k = t.f3.length := by omega
                have hw2 : IntKind.i64.wrap (x - 1) = x - 1 := by rw [i64_w]; unfold wrap64; omega
                have HLV := Aside0.mk (show LvOk q bs3 (x - 1) from by
                  refine ⟨by have h1_ := MO3.out.1; have h2_ := LEN2.out; have h3_ := LEN.out; omega, fun c j j0 j1 jc => ?_⟩
                  by_cases hjx : j = x
                  · subst hjx
                    rcases HCD.out c jc with ⟨p, hp, rfl⟩ | ⟨p, hp, rfl⟩
                    · exact MO3.out.2 _ (HCX.out _ jc).1 (DN2.out p hp)
                    · exact DN3.out p hp
                  · have hc0 := (HG.out.down j (by omega) j1 c jc).1
                    exact MO3.out.2 c hc0 (MO2.out.2 c hc0 (LV.out.2 c j (by omega) j1 jc)))
                go_wp2
                go_roundg ((x - 1 + 1).toNat + 1)
                case rel => exact ⟨x - 1, bs3, by omega, by omega, by omega, rfl, HR3, HLV, BW3⟩
                case measure => omega
    · have d0 : decide (x ≥ 0) = false := decide_eq_false hx
      have d0' : decide (0 ≤ x) = false := decide_eq_false hx
      go_wp2
      first | go_end0 | ((try simp only [Exit.inBlock, Exit.then]); refine bodyPost_ret (results_tmp rfl _ _ _) rfl ?_)
      exact ⟨rfl, HB0.out.trans (BW.out.mono HB0.out.size)⟩
end Go.Proofs.Ytneglmnffdmbiaa.P
