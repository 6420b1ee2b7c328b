import Derived.Test.YtneglmnffdmbiaaOptFuse
import Derived.Test.YtneglmnffdmbiaaOptMap
import Derived.WalkCall
namespace Go.Proofs.Ytneglmnffdmbiaa.P
open Go.RowKit Go.Proofs.YtneglmnffdmbiaaW.PrintWords Go.Proofs.YtneglmnffdmbiaaW.PrintLast Go.Proofs.YtneglmnffdmbiaaW.PrintMore
set_option linter.unusedVariables false
set_option linter.unusedSimpArgs false

/-- c is one of the kids of step i, or the kid of one of its extents. -/
def Chd (L : List S34) (i c : Int) : Prop := (∃ j : Nat, j < (rd_T34 L i).f4.length ∧ rd (rd_T34 L i).f4 (j : Int) = c) ∨ (∃ j : Nat, j < (rd_T34 L i).f3.length ∧ (rd_T36 (rd_T34 L i).f3 (j : Int)).f2 = c)
/-- k lies below i, or is i. -/
inductive Rch (L : List S34) : Int → Int → Prop
  | refl (i : Int) : Rch L i i
  | step {i c k : Int} : Chd L i c → Rch L c k → Rch L i k
def Down (L : List S34) : Prop := ∀ i : Int, 0 ≤ i → i < (L.length : Int) → ∀ c, Chd L i c → 0 ≤ c ∧ c < i
theorem Rch.le {L : List S34} (hD : Down L) {i k : Int} (h : Rch L i k) : 0 ≤ i → i < (L.length : Int) → 0 ≤ k ∧ k ≤ i := by
  induction h with
  | refl i => intro h0 _; exact ⟨h0, Int.le_refl _⟩
  | step hc _ ih =>
    intro h0 h1
    have h2 := hD _ h0 h1 _ hc
    have := ih h2.1 (by omega)
    omega
def Clo (L : List S34) (V : Int → Bool) (k : Int) : Prop := ∀ c, Chd L k c → V c = true
theorem wf_small {i : Int} (h0 : 0 ≤ i) (h1 : i < 1000000000000) : (Lit.int .i64 i).wf = true := by
  have e1 : IntKind.i64.min = -9223372036854775808 := by decide
  have e2 : IntKind.i64.max = 9223372036854775807 := by decide
  simp only [Lit.wf, e1, e2, Bool.and_eq_true, decide_eq_true_eq]
  omega
/-- What a walk from i makes of a set. -/
structure Wk (L : List S34) (V V' : Int → Bool) (i : Int) : Prop where
  mono : ∀ k, V k = true → V' k = true
  has : V' i = true
  new : ∀ k, V' k = true → V k = true ∨ Rch L i k
  clo : ∀ k, k ≤ i → V' k = true → Clo L V' k
/-- .. under way. -/
structure Wj (L : List S34) (V Vj : Int → Bool) (i : Int) (jk je : Nat) : Prop where
  mono : ∀ k, V k = true → Vj k = true
  has : Vj i = true
  new : ∀ k, Vj k = true → V k = true ∨ Rch L i k
  clo : ∀ k, k < i → Vj k = true → Clo L Vj k
  dk : ∀ q : Nat, q < jk → Vj (rd (rd_T34 L i).f4 (q : Int)) = true
  de : ∀ q : Nat, q < je → Vj (rd_T36 (rd_T34 L i).f3 (q : Int)).f2 = true
theorem Wk.stay {L : List S34} {V : Int → Bool} {i : Int} (h : V i = true) (hc : ∀ k, k ≤ i → V k = true → Clo L V k) : Wk L V V i := ⟨fun _ h => h, h, fun _ h => .inl h, hc⟩
theorem Wj.start {L : List S34} {V : Int → Bool} {i : Int} (hc : ∀ k, k ≤ i → V k = true → Clo L V k) : Wj L V (vput V i) i 0 0 := by
  refine ⟨fun k h => ?_, by simp [vput], fun k h => ?_, fun k hk h c hcc => ?_, fun q hq => absurd hq (Nat.not_lt_zero _), fun q hq => absurd hq (Nat.not_lt_zero _)⟩
  · unfold vput; split
    · rfl
    · exact h
  · unfold vput at h
    split at h
    · rename_i e; subst e; exact .inr (.refl _)
    · exact .inl h
  · unfold vput at h
    rw [if_neg (by omega)] at h
    have := hc k (by omega) h c hcc
    unfold vput; split
    · rfl
    · exact this
theorem Wj.next {L : List S34} {V Vj V' : Int → Bool} {i c : Int} {jk je : Nat} (hD : Down L) (hi0 : 0 ≤ i) (hi1 : i < (L.length : Int)) (h : Wj L V Vj i jk je) (hc : Chd L i c) (hw : Wk L Vj V' c) (jk' je' : Nat)
    (hk' : ∀ q : Nat, q < jk' → q < jk ∨ rd (rd_T34 L i).f4 (q : Int) = c) (he' : ∀ q : Nat, q < je' → q < je ∨ (rd_T36 (rd_T34 L i).f3 (q : Int)).f2 = c) : Wj L V V' i jk' je' := by
  have hlt := hD i hi0 hi1 c hc
  refine ⟨fun k hk => hw.mono k (h.mono k hk), hw.mono _ h.has, fun k hk => ?_, fun k hk hv => ?_, fun q hq => ?_, fun q hq => ?_⟩
  · rcases hw.new k hk with h1 | h1
    · exact h.new k h1
    · exact .inr (.step hc h1)
  · rcases hw.new k hv with h1 | h1
    · exact fun c2 hc2 => hw.mono _ (h.clo k hk h1 c2 hc2)
    · exact hw.clo k (h1.le hD hlt.1 (by omega)).2 hv
  · rcases hk' q hq with h1 | h1
    · exact hw.mono _ (h.dk q h1)
    · rw [h1]; exact hw.has
  · rcases he' q hq with h1 | h1
    · exact hw.mono _ (h.de q h1)
    · rw [h1]; exact hw.has
theorem Wj.pre {L : List S34} {V Vj : Int → Bool} {i c : Int} {jk je : Nat} (h : Wj L V Vj i jk je) (hlt : c < i) : ∀ k, k ≤ c → Vj k = true → Clo L Vj k := fun k hk hv => h.clo k (by omega) hv
theorem Wj.fin {L : List S34} {V Vj : Int → Bool} {i : Int} (h : Wj L V Vj i (rd_T34 L i).f4.length (rd_T34 L i).f3.length) : Wk L V Vj i := by
  refine ⟨h.mono, h.has, h.new, fun k hk hv => ?_⟩
  by_cases hki : k = i
  · subst hki
    rintro c (⟨j, hj, rfl⟩ | ⟨j, hj, rfl⟩)
    · exact h.dk j hj
    · exact h.de j hj
  · exact h.clo k (by omega) hv
/-- What the walk finds as it is. -/
structure WkW (w : World) (mb lv ov fv : Nat) (N : Nat) (V : Int → Bool) : Prop where
  map : BMap w mb N V
  bl : w.heap[lv]? = some (.cells #[.map (some mb)] 43 (0, 0))
  bf : w.heap[fv]? = some (.cells #[.func (.func 15) #[] #[.pointer (some ⟨lv, 0, none⟩), .pointer (some ⟨ov, 0, none⟩), .pointer (some ⟨fv, 0, none⟩)]] 44 (0, 0))
theorem WkW.ne {w : World} {mb lv ov fv N : Nat} {V : Int → Bool} (h : WkW w mb lv ov fv N V) : lv ≠ mb ∧ fv ≠ mb := by
  obtain ⟨n, D, hn, ⟨es, clock, hb, _⟩, _⟩ := h.map
  refine ⟨fun e => ?_, fun e => ?_⟩
  · subst e
    have := h.bl
    rw [hb] at this
    cases this
  · subst e
    have := h.bf
    rw [hb] at this
    cases this
theorem WkW.alloc {w : World} {mb lv ov fv N : Nat} {V : Int → Bool} (h : WkW w mb lv ov fv N V) (ob : Obj) : WkW (w.alloc ob) mb lv ov fv N V := ⟨h.map.kept (World.grownBy_alloc w ob none) (by simp), blk_alloc h.bl _, blk_alloc h.bf _⟩
theorem WkW.store {w w' : World} {mb lv ov fv N : Nat} {V V' : Int → Bool} (h : WkW w mb lv ov fv N V) (hm : BMap w' mb N V') (hg : w.grownBy w' (some mb)) : WkW w' mb lv ov fv N V' :=
  ⟨hm, (hg.block _ (blk_lt h.bl) (by have := h.ne.1; simpa using this)).trans h.bl, (hg.block _ (blk_lt h.bf) (by have := h.ne.2; simpa using this)).trans h.bf⟩

set_option maxHeartbeats 16000000 in
set_option maxRecDepth 100000 in
theorem walk_calls (o ov lv fv : Nat) (A : Option Addr) (c : Nat) (L : List S34) (pv : Value) (w1 : World) (hO : OptAt w1 o (.slice A L.length c) pv) (hC : Kd.C k34 w1 A L.length L) (hov : w1.heap[ov]? = some (.cells #[.pointer (some ⟨o, 0, none⟩)] 39 (0, 0)))
    (hD : Down L) (hN : L.length ≤ 100000) (hl4 : ∀ i, (rd_T34 L i).f4.length ≤ 100000) (hl3 : ∀ i, (rd_T34 L i).f3.length ≤ 10000000000) :
    ∀ (n : Nat) (i : Int), i.toNat = n → 0 ≤ i → i < (L.length : Int) → ∀ (V : Int → Bool) (w : World), Below w1.heap.size w1 w → WkW w w1.heap.size lv ov fv L.length V → (∀ k, k ≤ i → V k = true → Clo L V k) →
      Calls Try.prog 15 #[.int .i64 i, .pointer (some ⟨lv, 0, none⟩), .pointer (some ⟨ov, 0, none⟩), .pointer (some ⟨fv, 0, none⟩)] w fun e w' => e = .returned (.tuple #[]) ∧ Below w1.heap.size w1 w' ∧ ∃ V', WkW w' w1.heap.size lv ov fv L.length V' ∧ Wk L V V' i := by
  intro n
  induction n using Nat.strongRecOn with
  | _ n ih =>
  intro i hin h0 h1 V w hB hW hcl
  have hwf : (Lit.int .i64 i).wf = true := wf_small h0 (by omega)
  have hlk := hW.map.lookup i hwf
  have cl : w.cell? ⟨lv, 0, none⟩ = some (.map (some w1.heap.size)) := (blk_cell hW.bl 0).trans rfl
  have hov' : w.heap[ov]? = _ := (hB.block ov (blk_lt hov)).trans hov
  by_cases hV : V i = true
  · rw [hV] at hlk
    go_enter Try.func15, Try.ntmps15
    go_wp2
    first | go_end0 | ((try simp only [Exit.inBlock, Exit.then]); refine bodyPost_ret (results_none rfl _ _ _) rfl ?_)
    exact ⟨rfl, hB, V, hW, Wk.stay hV hcl⟩
  · replace hV : V i = false := by simpa using hV
    rw [hV] at hlk
    obtain ⟨w2, hup, hm2, hg2⟩ := hW.map.store i hwf h0 h1 hV hN
    have hW2 := hW.store hm2 hg2
    have hB2 : Below w1.heap.size w1 w2 := hB.grown hg2 (by have := hB.size; omega) (fun k hk => by injection hk with hk; omega)
    obtain ⟨ad, A3, c3, A4, c4, A8, c8, A9, c9, rfl, f0, f1, f2, f3, f4, f5, f6, f7, f8, f9, l3, g3, l4, g4, l8, g8, l9, g9⟩ := at_T34 hC i h0 h1
    replace f4 := pw_cell_below hB2 f4
    have x0 : w2.cell? ⟨o, 0, none⟩ = some (.slice (some ad) L.length c) := (blk_cell (blk_below hO.at_ hB2) 0).trans rfl
    have xov : w2.cell? ⟨ov, 0, none⟩ = some (.pointer (some ⟨o, 0, none⟩)) := (blk_cell (blk_below hov hB2) 0).trans rfl
    have HST := Aside0.mk (Wj.start (L := L) (i := i) hcl)
    have HB2 := Aside0.mk hB2
    have HW2 := Aside0.mk hW2
    have HO := Aside0.mk hO
    have HC := Aside0.mk hC
    have HOV := Aside0.mk hov
    have HD := Aside0.mk hD
    have HN := Aside0.mk hN
    have B4 := hl4 i
    have B3 := hl3 i
    have IH := Aside0.mk ih
    have HI := Aside0.mk hin
    have F3 := Aside0.mk f3
    have G3 := Aside0.mk g3
    have G4 := Aside0.mk g4
    have P0 := Aside0.mk h0
    have P1 := Aside0.mk h1
    clear hW hB hcl hwf hov' hm2 hg2 hB2 hW2 hO hC hov hD hN hl4 hl3 ih hin f0 f1 f2 f3 f5 f6 f7 f8 f9 l3 l4 l8 l9 g3 g4 g8 g9
    have p0 : (0 ≤ i) = True := eq_true h0
    have p1 : (i < (L.length : Int)) = True := eq_true h1
    go_enter Try.func15, Try.ntmps15
    go_wp2
    go_loopg [23] ((rd_T34 L i).f4.length + 1) (fun kx v23 wr => ∃ (j : Nat) (Vj : Int → Bool), j ≤ (rd_T34 L i).f4.length ∧ (rd_T34 L i).f4.length - j + 1 ≤ kx ∧ v23 = .int .i64 j ∧ Aside0 (Below w1.heap.size w1 wr) ∧ Aside0 (WkW wr w1.heap.size lv ov fv L.length Vj) ∧ Aside0 (Wj L V Vj i j 0))
    case atStart => exact ⟨0, _, Nat.zero_le _, by omega, rfl, HB2, HW2, HST⟩
    case round =>
      obtain ⟨j, Vj, hj, hg, rfl, BB, WW, JJ⟩ := hrel
      by_cases hlt : j < (rd_T34 L i).f4.length
      · have hd : decide ((j : Int) < ((rd_T34 L i).f4.length : Int)) = true := decide_eq_true (by omega)
        have q3 : (0 : Int) ≤ (j : Int) := by omega
        obtain ⟨ad4, ea, y0⟩ := Kd.at_int (Kd.C_below G4.out BB.out) (j : Int) q3 (by omega)
        subst ea
        have hch : Chd L i (rd (rd_T34 L i).f4 (j : Int)) := .inl ⟨j, hlt, rfl⟩
        have hdn := HD.out i P0.out P1.out _ hch
        have hca := IH.out (rd (rd_T34 L i).f4 (j : Int)).toNat (by have := HI.out; omega) _ rfl hdn.1 (by omega) Vj wr BB.out WW.out (JJ.out.pre hdn.2)
        have y1 : wr.cell? ⟨fv, 0, none⟩ = some (.func (.func 15) #[] #[.pointer (some ⟨lv, 0, none⟩), .pointer (some ⟨ov, 0, none⟩), .pointer (some ⟨fv, 0, none⟩)]) := (blk_cell WW.out.bf 0).trans rfl
        have HCH := Aside0.mk hch
        have HCA := Aside0.mk hca
        clear hch hca hdn f4 x0 xov cl hup hlk
        rw [Int.toNat_natCast] at y0
        go_wp2_with (go_at_call 15; (with_reducible refine HCA.out.mono ?_); rintro e w3 ⟨rfl, hb3, V', hw3, hk3⟩; have HB3 := Aside0.mk hb3; have HW3 := Aside0.mk hw3; have HK3 := Aside0.mk hk3; clear hb3 hw3 hk3)
        go_roundg ((rd_T34 L i).f4.length - (j + 1) + 1)
        case rel => exact ⟨j + 1, _, by omega, by omega, by go_num, HB3, HW3, ⟨JJ.out.next HD.out P0.out P1.out HCH.out HK3.out (j + 1) 0 (fun q hq => (Nat.lt_succ_iff_lt_or_eq.1 hq).elim .inl (fun h_ => .inr (by rw [h_]))) (fun q hq => absurd hq (Nat.not_lt_zero _))⟩⟩
        case measure => omega
      · have hd : decide ((j : Int) < ((rd_T34 L i).f4.length : Int)) = false := decide_eq_false (by omega)
        obtain rfl : j = (rd_T34 L i).f4.length := by omega
        clear f4 x0 xov cl hup hlk
        obtain ⟨W3, hW3⟩ : ∃ W3, W3 = wr := ⟨_, rfl⟩
        subst hW3
        have f3 := pw_cell_below BB.out F3.out
        have x0 : W3.cell? ⟨o, 0, none⟩ = some (.slice (some ad) L.length c) := (blk_cell (blk_below HO.out.at_ BB.out) 0).trans rfl
        have xov : W3.cell? ⟨ov, 0, none⟩ = some (.pointer (some ⟨o, 0, none⟩)) := (blk_cell (blk_below HOV.out BB.out) 0).trans rfl
        go_wp2
        go_loopg [40] ((rd_T34 L i).f3.length + 1) (fun kx v40 wr => ∃ (j : Nat) (Vj : Int → Bool), j ≤ (rd_T34 L i).f3.length ∧ (rd_T34 L i).f3.length - j + 1 ≤ kx ∧ v40 = .int .i64 j ∧ Aside0 (Below w1.heap.size w1 wr) ∧ Aside0 (WkW wr w1.heap.size lv ov fv L.length Vj) ∧ Aside0 (Wj L V Vj i (rd_T34 L i).f4.length j))
        case atStart => exact ⟨0, _, Nat.zero_le _, by omega, rfl, BB, WW, JJ⟩
        case round =>
          clear BB WW JJ f3 x0 xov hd hg hj
          obtain ⟨j, Vj, hj, hg, rfl, BB, WW, JJ⟩ := hrel
          by_cases hlt : j < (rd_T34 L i).f3.length
          · have hd : decide ((j : Int) < ((rd_T34 L i).f3.length : Int)) = true := decide_eq_true (by omega)
            have q3 : (0 : Int) ≤ (j : Int) := by omega
            obtain ⟨ad3, ea, y0, y1, y2, y3⟩ := at_T36 (Kd.C_below G3.out BB.out) (j : Int) q3 (by omega)
            subst ea
            rw [Int.toNat_natCast] at y0 y1 y2 y3
            have hch : Chd L i (rd_T36 (rd_T34 L i).f3 (j : Int)).f2 := .inr ⟨j, hlt, rfl⟩
            have hdn := HD.out i P0.out P1.out _ hch
            have ba : Below w1.heap.size w1 (wr.alloc (.cells #[.int .i64 (rd_T36 (rd_T34 L i).f3 (j : Int)).f0, .int .i64 (rd_T36 (rd_T34 L i).f3 (j : Int)).f1, .int .i64 (rd_T36 (rd_T34 L i).f3 (j : Int)).f2, .int .i64 (rd_T36 (rd_T34 L i).f3 (j : Int)).f3] 36 (0, 0))) := BB.out.alloc BB.out.size _
            have hwa := WW.out.alloc (.cells #[.int .i64 (rd_T36 (rd_T34 L i).f3 (j : Int)).f0, .int .i64 (rd_T36 (rd_T34 L i).f3 (j : Int)).f1, .int .i64 (rd_T36 (rd_T34 L i).f3 (j : Int)).f2, .int .i64 (rd_T36 (rd_T34 L i).f3 (j : Int)).f3] 36 (0, 0))
            have hca := IH.out (rd_T36 (rd_T34 L i).f3 (j : Int)).f2.toNat (by have := HI.out; omega) _ rfl hdn.1 (by omega) Vj _ ba hwa (JJ.out.pre hdn.2)
            have z1 : (wr.alloc (.cells #[.int .i64 (rd_T36 (rd_T34 L i).f3 (j : Int)).f0, .int .i64 (rd_T36 (rd_T34 L i).f3 (j : Int)).f1, .int .i64 (rd_T36 (rd_T34 L i).f3 (j : Int)).f2, .int .i64 (rd_T36 (rd_T34 L i).f3 (j : Int)).f3] 36 (0, 0))).cell? ⟨fv, 0, none⟩ = some (.func (.func 15) #[] #[.pointer (some ⟨lv, 0, none⟩), .pointer (some ⟨ov, 0, none⟩), .pointer (some ⟨fv, 0, none⟩)]) := (blk_cell hwa.bf 0).trans rfl
            have z2 : (wr.alloc (.cells #[.int .i64 (rd_T36 (rd_T34 L i).f3 (j : Int)).f0, .int .i64 (rd_T36 (rd_T34 L i).f3 (j : Int)).f1, .int .i64 (rd_T36 (rd_T34 L i).f3 (j : Int)).f2, .int .i64 (rd_T36 (rd_T34 L i).f3 (j : Int)).f3] 36 (0, 0))).cell? ⟨wr.heap.size, 2, none⟩ = some (.int .i64 (rd_T36 (rd_T34 L i).f3 (j : Int)).f2) := (blk_cell (blk_new wr (.cells #[.int .i64 (rd_T36 (rd_T34 L i).f3 (j : Int)).f0, .int .i64 (rd_T36 (rd_T34 L i).f3 (j : Int)).f1, .int .i64 (rd_T36 (rd_T34 L i).f3 (j : Int)).f2, .int .i64 (rd_T36 (rd_T34 L i).f3 (j : Int)).f3] 36 (0, 0))) 2).trans rfl
            have HCH := Aside0.mk hch
            have HCA := Aside0.mk hca
            clear hch hca hdn ba hwa
            go_wp2_with (go_at_call 15; (with_reducible refine HCA.out.mono ?_); rintro e w3 ⟨rfl, hb3, V', hw3, hk3⟩; have HB3 := Aside0.mk hb3; have HW3 := Aside0.mk hw3; have HK3 := Aside0.mk hk3; clear hb3 hw3 hk3)
            go_roundg ((rd_T34 L i).f3.length - (j + 1) + 1)
            case rel => exact ⟨j + 1, _, by omega, by omega, by go_num, HB3, HW3, ⟨JJ.out.next HD.out P0.out P1.out HCH.out HK3.out _ (j + 1) (fun q hq => .inl hq) (fun q hq => (Nat.lt_succ_iff_lt_or_eq.1 hq).elim .inl (fun h_ => .inr (by rw [h_])))⟩⟩
            case measure => omega
          · have hd : decide ((j : Int) < ((rd_T34 L i).f3.length : Int)) = false := decide_eq_false (by omega)
            obtain rfl : j = (rd_T34 L i).f3.length := by omega
            go_wp2
            first | go_end0 | ((try simp only [Exit.inBlock, Exit.then]); refine bodyPost_ret (results_none rfl _ _ _) rfl ?_)
            exact ⟨rfl, BB.out, _, WW.out, JJ.out.fin⟩
end Go.Proofs.Ytneglmnffdmbiaa.P
