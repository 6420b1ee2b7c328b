import Derived.Test.YtneglmnffdmbiaaOptOpt
import Derived.Test.YtneglmnffdmbiaaOptInv
import Derived.Test.YtneglmnffdmbiaaPEq36
namespace Go.Proofs.Ytneglmnffdmbiaa.P
open Go.RowKit Go.Proofs.YtneglmnffdmbiaaW.PrintWords Go.Proofs.YtneglmnffdmbiaaW.PrintLast Go.Proofs.YtneglmnffdmbiaaW.PrintMore
set_option linter.unusedVariables false
set_option linter.unusedSimpArgs false

/-- The fixed plan. -/
def LA : List S34 := [⟨1, 8, 0, [], [], 0, 0, 0, [], []⟩, ⟨3, 4, 0, [⟨0, 4, 0, 4⟩], [], 0, 0, 0, [], []⟩, ⟨3, 2, 0, [⟨0, 2, 1, 1⟩], [], 0, 0, 0, [], []⟩]
def MA : List S34 := [⟨1, 8, 0, [], [], 0, 0, 0, [], []⟩, ⟨3, 4, 0, [⟨0, 4, 0, 4⟩], [], 0, 0, 0, [], []⟩, ⟨3, 2, 0, [⟨0, 2, 0, 5⟩], [], 0, 0, 0, [], []⟩]
def QA : List S34 := [⟨1, 8, 0, [], [], 0, 0, 0, [], []⟩, ⟨3, 2, 0, [⟨0, 2, 0, 5⟩], [], 0, 0, 0, [], []⟩]
theorem LA_ok : BdOk LA 2 := by
  refine ⟨by decide, fun p h0 h1 => ?_, by decide, by decide, by decide, fun p h0 h1 => ?_⟩
  · have h1' : p < 3 := h1
    have : p = 0 ∨ p = 1 ∨ p = 2 := by omega
    rcases this with rfl | rfl | rfl <;> decide
  · have h1' : p < 3 := h1
    have : p = 0 ∨ p = 1 ∨ p = 2 := by omega
    rcases this with rfl | rfl | rfl
    · exact ⟨by decide, fun h => absurd h (by decide), fun _ => ⟨rfl, fun q hq => absurd hq (Nat.not_lt_zero _)⟩, by decide, by decide⟩
    · refine ⟨by decide, fun _ => ⟨⟨⟨rfl, by decide, rfl⟩, fun e he => ?_, by decide, by decide⟩, rfl, rfl, rfl, rfl, rfl, rfl, rfl⟩, fun h => absurd rfl h, by decide, by decide⟩
      have he' : e ∈ [(⟨0, 4, 0, 4⟩ : S36)] := he
      rw [List.mem_singleton] at he'
      subst he'
      exact ⟨by decide, by decide, by decide, by decide, by decide⟩
    · refine ⟨by decide, fun _ => ⟨⟨⟨rfl, by decide, rfl⟩, fun e he => ?_, by decide, by decide⟩, rfl, rfl, rfl, rfl, rfl, rfl, rfl⟩, fun h => absurd rfl h, by decide, by decide⟩
      have he' : e ∈ [(⟨0, 2, 1, 1⟩ : S36)] := he
      rw [List.mem_singleton] at he'
      subst he'
      exact ⟨by decide, by decide, by decide, by decide, by decide⟩
theorem LA_opt1 : opt1 LA = (MA, [0, 1, 2]) := by rfl
theorem MA_chd2 {c : Int} (h : Chd MA 2 c) : c = 0 := by
  rcases h with ⟨q, hq, rfl⟩ | ⟨q, hq, rfl⟩
  · exact absurd hq (Nat.not_lt_zero _)
  · have : q = 0 := by
      have h1 : q < 1 := hq
      omega
    subst this
    rfl
theorem MA_chd0 {c : Int} (h : Chd MA 0 c) : False := by
  rcases h with ⟨q, hq, rfl⟩ | ⟨q, hq, rfl⟩
  · exact absurd hq (Nat.not_lt_zero _)
  · exact absurd hq (Nat.not_lt_zero _)
theorem MA_rch0 {k : Int} (h : Rch MA 0 k) : k = 0 := by
  cases h with
  | refl => rfl
  | step hc _ => exact (MA_chd0 hc).elim
theorem MA_rch2 {k : Int} (h : Rch MA 2 k) : k = 2 ∨ k = 0 := by
  cases h with
  | refl => exact .inl rfl
  | step hc hr =>
    have := MA_chd2 hc
    subst this
    exact .inr (MA_rch0 hr)
theorem LA_V : optV LA 2 = fun k => decide (k = 2 ∨ k = 0) := by
  funext k
  have e : optV LA 2 = liveV MA 2 := by
    unfold optV
    rw [LA_opt1]
    rfl
  rw [e]
  have h2 : liveV MA 2 k = true ↔ (k = 2 ∨ k = 0) := by
    rw [liveV_iff]
    constructor
    · exact MA_rch2
    · rintro (rfl | rfl)
      · exact .refl _
      · exact .step (.inr ⟨0, by decide, rfl⟩) (.refl _)
  by_cases h : k = 2 ∨ k = 0
  · rw [h2.2 h]; simp [h]
  · have : liveV MA 2 k = false := by
      cases hv : liveV MA 2 k with
      | false => rfl
      | true => exact absurd (h2.1 hv) h
    rw [this]; simp [h]
theorem LA_L : optL LA 2 = QA := by
  unfold optL
  rw [LA_opt1, LA_V]
  rfl
theorem LA_R : optR LA 2 = 1 := by
  unfold optR
  rw [LA_opt1, LA_V]
  rfl
theorem C34_of {W : World} {base : Nat} {A : Option Addr} {n c : Nat} {ps : List (S34 × Lie)} (ho : OwnRow CellsOf 34 10 W base (.slice A n c) ps) (hK : ∀ p ∈ ps, k34.K W p.1 (cells1 p)) : n = ps.length ∧ Kd.C k34 W A n (ps.map Prod.fst) := by
  obtain ⟨A', c', hv, hl, hr⟩ := ho.reads
  injection hv with e1 e2 e3
  subst e1 e2
  refine ⟨rfl, by rw [List.length_map], hr.2.1, fun hp => ?_⟩
  obtain ⟨ad, e, hc⟩ := hr.2.2 hp
  refine ⟨ad, e, fun j t hj => ?_⟩
  rw [List.getElem?_map, Option.map_eq_some_iff] at hj
  obtain ⟨p, hj, rfl⟩ := hj
  obtain ⟨cs, hcl, rfl, hcell⟩ := hc j p hj
  exact ⟨cells1 p, hcl, hK p (List.mem_of_getElem? hj), hcell⟩
theorem C8_nil (W : World) : Kd.C (Kd.int .u8) W none 0 [] := ⟨rfl, by simp, fun h => absurd h (Nat.lt_irrefl 0)⟩
theorem key_nil (W : World) (t : S34) (r : Lie) (h8 : r.v8 = .slice none 0 0) (h9 : r.v9 = .slice none 0 0) (e8 : t.f8 = []) (e9 : t.f9 = []) : KeyAt W t r :=
  ⟨none, 0, none, 0, by rw [e8]; exact h8, by rw [e8]; exact Nat.le_refl _, by rw [e8]; exact C8_nil W, by rw [e9]; exact h9, by rw [e9]; exact Nat.le_refl _, by rw [e9]; exact C8_nil W⟩
def PA (g : Nat) : List (S34 × Lie) := [(⟨1, 8, 0, [], [], 0, 0, 0, [], []⟩, zL), (⟨3, 4, 0, [⟨0, 4, 0, 4⟩], [], 0, 0, 0, [], []⟩, { zL with ev := .slice (some ⟨g, 0, none⟩) 1 1 }), (⟨3, 2, 0, [⟨0, 2, 1, 1⟩], [], 0, 0, 0, [], []⟩, { zL with ev := .slice (some ⟨g + 1, 0, none⟩) 1 1 })]
theorem LA_C (w : World) : Kd.C k34 (((w.alloc (.cells #[.int .i64 0, .int .i64 4, .int .i64 0, .int .i64 4] 36 (0, 0))).alloc (.cells #[.int .i64 0, .int .i64 2, .int .i64 1, .int .i64 1] 36 (0, 0))).alloc (.cells #[.int .i64 1, .int .i64 8, .int .i64 0, .slice none 0 0, .slice none 0 0, .int .i64 0, .int .i64 0, .int .i64 0, .slice none 0 0, .slice none 0 0, .int .i64 3, .int .i64 4, .int .i64 0, .slice (some ⟨w.heap.size, 0, none⟩) 1 1, .slice none 0 0, .int .i64 0, .int .i64 0, .int .i64 0, .slice none 0 0, .slice none 0 0, .int .i64 3, .int .i64 2, .int .i64 0, .slice (some ⟨w.heap.size + 1, 0, none⟩) 1 1, .slice none 0 0, .int .i64 0, .int .i64 0, .int .i64 0, .slice none 0 0, .slice none 0 0] 34 (0, 0))) (some ⟨w.heap.size + 1 + 1, 0, none⟩) 3 LA := by
  have ho := OwnRow.lit (R := CellsOf) (e := 34) (size := 10) (ps := PA w.heap.size) ((w.alloc (.cells #[.int .i64 0, .int .i64 4, .int .i64 0, .int .i64 4] 36 (0, 0))).alloc (.cells #[.int .i64 0, .int .i64 2, .int .i64 1, .int .i64 1] 36 (0, 0))) w.heap.size (inner := [.int .i64 1, .int .i64 8, .int .i64 0, .slice none 0 0, .slice none 0 0, .int .i64 0, .int .i64 0, .int .i64 0, .slice none 0 0, .slice none 0 0, .int .i64 3, .int .i64 4, .int .i64 0, .slice (some ⟨w.heap.size, 0, none⟩) 1 1, .slice none 0 0, .int .i64 0, .int .i64 0, .int .i64 0, .slice none 0 0, .slice none 0 0, .int .i64 3, .int .i64 2, .int .i64 0, .slice (some ⟨w.heap.size + 1, 0, none⟩) 1 1, .slice none 0 0, .int .i64 0, .int .i64 0, .int .i64 0, .slice none 0 0, .slice none 0 0])
    ⟨rfl, fun j p hj => by
      rcases j with _ | _ | _ | j
      · obtain rfl := Option.some.inj hj; rfl
      · obtain rfl := Option.some.inj hj; rfl
      · obtain rfl := Option.some.inj hj; rfl
      · simp [PA] at hj⟩ (by simp; omega) (by simp [PA])
  rw [World.size_alloc, World.size_alloc] at ho
  have ho1 := World.ownsRow_lit (base := w.heap.size) (e := 36) (size := 4) w #[.int .i64 0, .int .i64 4, .int .i64 0, .int .i64 4] 1 (Nat.le_refl _) (by decide) (by simp)
  have ho2 := World.ownsRow_lit (base := w.heap.size) (e := 36) (size := 4) (w.alloc (.cells #[.int .i64 0, .int .i64 4, .int .i64 0, .int .i64 4] 36 (0, 0))) #[.int .i64 0, .int .i64 2, .int .i64 1, .int .i64 1] 1 (by simp) (by decide) (by simp)
  rw [World.size_alloc] at ho2
  have hk := C34_of ho (fun p hp => by
    simp only [PA, List.mem_cons, List.not_mem_nil, or_false] at hp
    rcases hp with rfl | rfl | rfl
    · exact RowAt.K (base := w.heap.size) ⟨own_nil _ _ _ _, fun h => absurd h (by decide), fun _ => ⟨rfl, none, 0, rfl⟩⟩ (key_nil _ _ _ rfl rfl rfl rfl)
    · exact RowAt.K (base := w.heap.size) ⟨own_nil _ _ _ _, fun _ => own_alloc (own_alloc ho1 _) _, fun h => absurd rfl h⟩ (key_nil _ _ _ rfl rfl rfl rfl)
    · exact RowAt.K (base := w.heap.size) ⟨own_nil _ _ _ _, fun _ => own_alloc ho2 _, fun h => absurd rfl h⟩ (key_nil _ _ _ rfl rfl rfl rfl))
  exact hk.2
attribute [local go_sem high] eqA36
set_option maxHeartbeats 16000000 in
set_option maxRecDepth 100000 in
theorem alive_calls (w : World) : Calls Try.prog 7 #[] w fun e w' => e = .returned (.bool true) ∧ Below w.heap.size w w' := by
  go_enter Try.func7, Try.ntmps7
  have hC := LA_C w
  have hb := below_alloc (below_alloc (below_alloc (below_alloc (Below.refl w.heap.size w) (.cells #[.int .i64 0, .int .i64 4, .int .i64 0, .int .i64 4] 36 (0, 0))) (.cells #[.int .i64 0, .int .i64 2, .int .i64 1, .int .i64 1] 36 (0, 0))) (.cells #[.int .i64 1, .int .i64 8, .int .i64 0, .slice none 0 0, .slice none 0 0, .int .i64 0, .int .i64 0, .int .i64 0, .slice none 0 0, .slice none 0 0, .int .i64 3, .int .i64 4, .int .i64 0, .slice (some ⟨w.heap.size, 0, none⟩) 1 1, .slice none 0 0, .int .i64 0, .int .i64 0, .int .i64 0, .slice none 0 0, .slice none 0 0, .int .i64 3, .int .i64 2, .int .i64 0, .slice (some ⟨w.heap.size + 1, 0, none⟩) 1 1, .slice none 0 0, .int .i64 0, .int .i64 0, .int .i64 0, .slice none 0 0, .slice none 0 0] 34 (0, 0))) (.cells #[.slice (some ⟨w.heap.size + 1 + 1, 0, none⟩) 3 3, .int .i64 2, .bool false] 24 (0, 0))
  replace hC := Kd.C_below hC (below_alloc (Below.refl _ _) (.cells #[.slice (some ⟨w.heap.size + 1 + 1, 0, none⟩) 3 3, .int .i64 2, .bool false] 24 (0, 0)))
  have HOP := Aside0.mk (show ∀ W : World, Kd.C k34 W (some ⟨w.heap.size + 1 + 1, 0, none⟩) 3 LA → Calls Try.prog 9 #[.agg #[.slice (some ⟨w.heap.size + 1 + 1, 0, none⟩) 3 3, .int .i64 2, .bool false]] W fun e w' => ∃ v, e = .returned (.agg #[v, .int .i64 1, .bool false]) ∧ (∃ A c, v = .slice A 2 c ∧ 2 ≤ c ∧ Kd.C k34 w' A 2 QA) ∧ Below W.heap.size W w' from fun W hC => by
    have h := optimize_calls (some ⟨w.heap.size + 1 + 1, 0, none⟩) 3 LA 2 false W hC (by decide) (planOk (.of LA_ok))
    rw [LA_L, LA_R] at h
    exact h)
  have HC := Aside0.mk hC
  have HB := Aside0.mk hb
  clear hC hb
  go_upto_region 3 with (go_at_call 9; (with_reducible refine (HOP.out _ HC.out).mono ?_); rintro e w5 ⟨v, rfl, ⟨A, c, rfl, hle, hQ⟩, hb5⟩; have HB5 := Aside0.mk (HB.out.trans (hb5.mono HB.out.size)); have HQ := Aside0.mk hQ; clear hb5 hQ)
  have hQ := HQ.out
  have h2 : (1 : Int) < ((2 : Nat) : Int) := by decide
  obtain ⟨ad, A3, c3, A4, c4, A8, c8, A9, c9, rfl, f0, f1, f2, f3, f4, f5, f6, f7, f8, f9, l3, g3, l4, g4, l8, g8, l9, g9⟩ := at_T34 hQ 1 (by decide) h2
  obtain ⟨ae, rfl, e0, e1, e2, e3⟩ := at_T36 g3 0 (by decide) (by decide)
  have b2 : Below w5.heap.size w5 (w5.alloc (.cells #[.slice (some ad) 2 c, .int .i64 1, .bool false] 24 (0, 0))) := below_alloc (Below.refl _ _) _
  have hb6 := Aside0.mk (HB5.out.trans (b2.mono HB5.out.size))
  have f3' := (b2.cell (World.block_lt_of_cell? _ _ f3)).trans f3
  have e0' := (b2.cell (World.block_lt_of_cell? _ _ e0)).trans e0
  have e1' := (b2.cell (World.block_lt_of_cell? _ _ e1)).trans e1
  have e2' := (b2.cell (World.block_lt_of_cell? _ _ e2)).trans e2
  have e3' := (b2.cell (World.block_lt_of_cell? _ _ e3)).trans e3
  clear f0 f1 f2 f3 f4 f5 f6 f7 f8 f9 g3 g4 g8 g9 l3 l4 l8 l9 e0 e1 e2 e3 hQ HQ b2
  have F3 : (w5.alloc (.cells #[.slice (some ad) 2 c, .int .i64 1, .bool false] 24 (0, 0))).cell? ⟨ad.block, ad.off + 10 + 3, none⟩ = some (.slice (some ae) 1 c3) := f3'
  have E0 : (w5.alloc (.cells #[.slice (some ad) 2 c, .int .i64 1, .bool false] 24 (0, 0))).cell? ae = some (.int .i64 0) := by rw [show ae = ae.add ((0 : Int).toNat * 4) by unfold Addr.add; simp]; exact e0'
  have E1 : (w5.alloc (.cells #[.slice (some ad) 2 c, .int .i64 1, .bool false] 24 (0, 0))).cell? ⟨ae.block, ae.off + 1, none⟩ = some (.int .i64 2) := by have := e1'; simp [Addr.add] at this; exact this
  have E2 : (w5.alloc (.cells #[.slice (some ad) 2 c, .int .i64 1, .bool false] 24 (0, 0))).cell? ⟨ae.block, ae.off + 2, none⟩ = some (.int .i64 0) := by have := e2'; simp [Addr.add] at this; exact this
  have E3 : (w5.alloc (.cells #[.slice (some ad) 2 c, .int .i64 1, .bool false] 24 (0, 0))).cell? ⟨ae.block, ae.off + 3, none⟩ = some (.int .i64 5) := by have := e3'; simp [Addr.add] at this; exact this
  clear f3' e0' e1' e2' e3'
  go_wp2
  repeat (go_quiet (fail); try go_wp2)
  first | go_end0 | ((try simp only [Exit.inBlock, Exit.then]); refine bodyPost_ret (results_tmp rfl _ _ _) rfl ?_)
  exact ⟨rfl, hb6.out⟩
end Go.Proofs.Ytneglmnffdmbiaa.P
