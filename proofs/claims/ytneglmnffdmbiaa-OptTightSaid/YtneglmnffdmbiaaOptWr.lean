import Derived.Test.YtneglmnffdmbiaaOptInv
namespace Go.Proofs.Ytneglmnffdmbiaa.P
open Go.RowKit Go.Proofs.YtneglmnffdmbiaaW.PrintWords Go.Proofs.YtneglmnffdmbiaaW.PrintLast Go.Proofs.YtneglmnffdmbiaaW.PrintMore
set_option linter.unusedVariables false
set_option linter.unusedSimpArgs false

/-! a wrapper is nothing -/
def wrapE (n root cut : Int) : List S36 := if cut > 0 then [⟨0, cut, root, 0⟩, ⟨cut, n - cut, root, cut⟩] else [⟨0, n, root, 0⟩]
def wrapT (n root cut : Int) : S34 := ⟨3, n, 0, wrapE n root cut, [], 0, 0, 0, [], []⟩
theorem StOk_app {L : List S34} {x : S34} {i : Int} (h0 : 0 ≤ i) (h1 : i < (L.length : Int)) (h : StOk L i) : StOk (L ++ [x]) i := by
  unfold StOk ExOk at h ⊢
  rw [rdT_app L x i h1 h0]
  obtain ⟨a, b, c⟩ := h
  refine ⟨a, fun hf => ?_, c⟩
  obtain ⟨⟨p, q, r⟩, s⟩ := b hf
  refine ⟨⟨p, fun e he => ?_, r⟩, s⟩
  obtain ⟨a0, a1, a2, a3, a4⟩ := q e he
  refine ⟨a0, a1, a2, a3, ?_⟩
  rw [rdT_app L x e.f2 (by omega) a0]
  exact a4
theorem wrap_pk {L : List S34} {root : Int} (hb : BdOk L root) (n cut : Int) (hn : n = (rd_T34 L root).f1) (h0 : 0 ≤ cut) (h1 : cut < n) : Pk (L ++ [wrapT n root cut]) (L.length : Int) := by
  obtain ⟨h60, hl, hr⟩ := hb
  have hs := (hr.2.2.2 root hr.2.1 hr.2.2.1).1
  have hnew : rd_T34 (L ++ [wrapT n root cut]) (L.length : Int) = wrapT n root cut := rdT_new _ _
  have hroot : rd_T34 (L ++ [wrapT n root cut]) root = rd_T34 L root := rdT_app _ _ _ hr.2.2.1 hr.2.1
  have hlen : (wrapE n root cut).length ≤ 2 := by unfold wrapE; split <;> simp
  refine ⟨by rw [List.length_append, List.length_singleton]; omega, fun p p0 p1 => ?_, by rw [List.length_append, List.length_singleton]; omega, by omega, by rw [List.length_append, List.length_singleton]; omega, fun i i0 i1 => ?_⟩
  · rw [List.length_append, List.length_singleton] at p1
    by_cases hp : p < (L.length : Int)
    · rw [rdT_app _ _ _ hp p0]
      exact hl p p0 hp
    · obtain rfl : p = (L.length : Int) := by omega
      rw [hnew]
      exact ⟨by show (wrapE n root cut).length ≤ 60; omega, by show (0 : Nat) ≤ 60; omega⟩
  · rw [List.length_append, List.length_singleton] at i1
    by_cases hp : i < (L.length : Int)
    · exact StOk_app i0 hp (hr.2.2.2 i i0 hp)
    · obtain rfl : i = (L.length : Int) := by omega
      unfold StOk ExOk
      rw [hnew]
      have hex : ∀ e : S36, e.f2 = root → 1 ≤ e.f1 → 0 ≤ e.f3 → e.f3 + e.f1 ≤ n → ExIn (L ++ [wrapT n root cut]) (L.length : Int) e := fun e e2 e1 e3 e4 => ⟨by rw [e2]; exact hr.2.1, by rw [e2]; exact hr.2.2.1, e1, e3, by rw [e2, hroot, ← hn]; exact e4⟩
      refine ⟨⟨by show 1 ≤ n; omega, by show n ≤ 8192; omega⟩, fun _ => ⟨⟨?_, fun e he => ?_, ?_, by show (wrapE n root cut).length ≤ 1000; omega⟩, rfl, rfl, rfl, rfl, rfl, rfl, rfl⟩, fun h => absurd rfl h, by show (0 : Nat) ≤ 32; omega, by show (0 : Nat) ≤ 32; omega⟩
      · show Tile 0 (wrapE n root cut) n
        unfold wrapE
        split
        · exact ⟨rfl, by show 1 ≤ cut; omega, by show cut = 0 + cut; omega, by show 1 ≤ n - cut; omega, by show 0 + cut + (n - cut) = n; omega⟩
        · exact ⟨rfl, by show 1 ≤ n; omega, by show 0 + n = n; omega⟩
      · have he' : e ∈ wrapE n root cut := he
        unfold wrapE at he'
        split at he'
        · simp only [List.mem_cons, List.not_mem_nil, or_false] at he'
          rcases he' with rfl | rfl
          · exact hex _ rfl (by show 1 ≤ cut; omega) (by show (0 : Int) ≤ 0; omega) (by show 0 + cut ≤ n; omega)
          · exact hex _ rfl (by show 1 ≤ n - cut; omega) (by show 0 ≤ cut; omega) (by show cut + (n - cut) ≤ n; omega)
        · rw [List.mem_singleton] at he'
          subst he'
          exact hex _ rfl (by show 1 ≤ n; omega) (by show (0 : Int) ≤ 0; omega) (by show 0 + n ≤ n; omega)
      · show 1 ≤ (wrapE n root cut).length
        unfold wrapE
        split <;> simp
theorem opt1_app (L : List S34) (x : S34) : opt1 (L ++ [x]) = addS (opt1 L) x := by
  unfold opt1
  rw [List.foldl_append]
  rfl
theorem chd_app {M : List S34} {x : S34} {i c : Int} (h0 : 0 ≤ i) (h1 : i < (M.length : Int)) : Chd (M ++ [x]) i c ↔ Chd M i c := by
  unfold Chd
  rw [rdT_app M x i h1 h0]
theorem rch_app {M : List S34} {x : S34} (hD : Down M) {i k : Int} (h0 : 0 ≤ i) (h1 : i < (M.length : Int)) : Rch (M ++ [x]) i k ↔ Rch M i k := by
  constructor
  · intro h
    induction h with
    | refl i => exact .refl i
    | step hc _ ih =>
      have hc' := (chd_app h0 h1).1 hc
      have := hD _ h0 h1 _ hc'
      exact .step hc' (ih this.1 (by omega))
  · intro h
    induction h with
    | refl i => exact .refl i
    | step hc _ ih =>
      have := hD _ h0 h1 _ hc
      exact .step ((chd_app h0 h1).2 hc) (ih this.1 (by omega))
theorem idxV_congr {V V' : Int → Bool} {n : Nat} (h : ∀ k : Int, 0 ≤ k → k < (n : Int) → V k = V' k) : idxV V n = idxV V' n := by
  unfold idxV
  apply List.filter_congr
  intro i hi
  have := List.mem_range.1 hi
  exact h _ (by omega) (by omega)
theorem idxV_stay {V : Int → Bool} {a : Nat} : ∀ d : Nat, (∀ k : Int, (a : Int) ≤ k → k < ((a + d : Nat) : Int) → V k = false) → idxV V (a + d) = idxV V a
  | 0, _ => rfl
  | d + 1, h => by
    rw [← Nat.add_assoc, idxV_succ, if_neg (by rw [h _ (by omega) (by omega)]; decide)]
    exact idxV_stay d (fun k h0 h1 => h k h0 (by omega))
theorem ren_congr {V V' : Int → Bool} {t : S34} (h4 : ∀ c ∈ t.f4, cntI V c = cntI V' c) (h3 : ∀ e ∈ t.f3, cntI V e.f2 = cntI V' e.f2) : ren V t = ren V' t := by
  unfold ren
  have e4 : t.f4.map (cntI V) = t.f4.map (cntI V') := List.map_congr_left h4
  have e3 : t.f3.map (renE V) = t.f3.map (renE V') := List.map_congr_left (fun e he => by unfold renE; rw [h3 e he])
  rw [e4, e3]
theorem rd_mem4 {ks : List Int} {c : Int} (h : c ∈ ks) : ∃ q : Nat, q < ks.length ∧ rd ks (q : Int) = c := by
  obtain ⟨i, hi, rfl⟩ := List.mem_iff_getElem.1 h
  exact ⟨i, hi, by simp [rd, List.getD, hi]⟩
theorem liveV_le {M : List S34} (hD : Down M) {r k : Int} (h0 : 0 ≤ r) (h1 : r < (M.length : Int)) (h : liveV M r k = true) : 0 ≤ k ∧ k ≤ r := ((liveV_iff _ _ _).1 h).le hD h0 h1
theorem Good.kids4 {M : List S34} {j : Int} (h : Good M j) {c : Int} (hc : c ∈ (rd_T34 M j).f4) : 0 ≤ c ∧ c < j := by
  obtain ⟨q, hq, rfl⟩ := rd_mem4 hc
  by_cases hf : (rd_T34 M j).f0 = 3
  · rw [(h.c hf).2.2.2.1] at hq
    cases hq
  · exact (h.o hf).2.1 q hq
theorem Good.kids3 {M : List S34} {j : Int} (h : Good M j) {e : S36} (he : e ∈ (rd_T34 M j).f3) : 0 ≤ e.f2 ∧ e.f2 < j := by
  by_cases hf : (rd_T34 M j).f0 = 3
  · have := ((h.c hf).2.1 e he).1
    exact ⟨this.1, this.2.1⟩
  · rw [(h.o hf).1] at he
    cases he
theorem wrap_same {L : List S34} {root : Int} (hb : BdOk L root) (n cut : Int) (hn : n = (rd_T34 L root).f1) (h0 : 0 ≤ cut) (h1 : cut < n) :
    optL (L ++ [wrapT n root cut]) (L.length : Int) = optL L root ∧ optR (L ++ [wrapT n root cut]) (L.length : Int) = optR L root := by
  have hI := Inv.all (.of hb) L.length (Nat.le_refl _)
  rw [List.take_length] at hI
  have hr := hb.2.2
  obtain ⟨r0, rle, hrs, hrF⟩ := hI.pl root hr.2.1 hr.2.2.1
  have hD := hI.g.down
  have hrN : rd (opt1 L).2 root < ((opt1 L).1.length : Int) := by have := hr.2.2.1; rw [hI.lm]; omega
  have hG := hI.g _ r0 hrN
  unfold optL optR optV
  rw [opt1_app]
  generalize hs : opt1 L = s at *
  obtain ⟨M, P⟩ := s
  simp only at *
  have hmn : M.length = L.length := hI.lm
  have hPn : rd (P ++ [newP (M, P) (wrapT n root cut)]) (L.length : Int) = newP (M, P) (wrapT n root cut) := by
    have := rdI_new P (newP (M, P) (wrapT n root cut))
    rw [hI.lp] at this
    exact this
  show optG (M ++ [newT (M, P) (wrapT n root cut)]) (liveV (M ++ [newT (M, P) (wrapT n root cut)]) (rd (P ++ [newP (M, P) (wrapT n root cut)]) (L.length : Int))) = _ ∧ cntI (liveV (M ++ [newT (M, P) (wrapT n root cut)]) (rd (P ++ [newP (M, P) (wrapT n root cut)]) (L.length : Int))) (rd (P ++ [newP (M, P) (wrapT n root cut)]) (L.length : Int)) = _
  rw [hPn]
  have hNT : newT (M, P) (wrapT n root cut) = ⟨3, n, 0, addE M P (wrapE n root cut), [], 0, 0, 0, [], []⟩ := rfl
  have hNP : newP (M, P) (wrapT n root cut) = atL M (addE M P (wrapE n root cut)) := rfl
  rw [hNT, hNP]
  generalize hrr : rd P root = r at *
  have hk : ∀ a b c : Int, kidE P ⟨a, b, root, c⟩ = ⟨a, b, r, c⟩ := fun a b c => by unfold kidE; rw [hrr]
  by_cases hf : (rd_T34 M r).f0 = 3
  · obtain ⟨t1, t2, t3, t4, t5⟩ := hG.c hf
    have hE : addE M P (wrapE n root cut) = (rd_T34 M r).f3 := by
      unfold addE wrapE
      split
      · rw [List.foldl_cons, List.foldl_cons, List.foldl_nil, hk, hk]
        unfold fuseL
        rw [if_pos hf, if_pos hf]
        have := fuse_cut ⟨0, cut, r, 0⟩ ⟨cut, n - cut, r, cut⟩ cut rfl rfl rfl rfl rfl (rd_T34 M r).f3 [] 0 _ t1 (Int.le_refl _) h0 (by show (rd_T34 M r).f1 ≤ cut + (n - cut); omega) t3 (fun l' z y ys' e _ => by simp at e)
        exact this
      · rw [List.foldl_cons, List.foldl_nil, hk]
        unfold fuseL
        rw [if_pos hf, fuseK_same ⟨0, n, r, 0⟩ rfl _ 0 _ t1 (Int.le_refl _) (by show (rd_T34 M r).f1 ≤ 0 + n; omega), join_same _ [] t3 (fun l' z y ys' e _ => by simp at e)]
        rfl
    rw [hE]
    have hat : atL M (rd_T34 M r).f3 = (M.length : Int) := by
      rcases atL_cases M (rd_T34 M r).f3 with h | ⟨e, he, e3, e1, _⟩
      · exact h.1
      · exact absurd ⟨hf, e, he, e3, e1⟩ hrF
    rw [hat]
    generalize hX : (⟨3, n, 0, (rd_T34 M r).f3, [], 0, 0, 0, [], []⟩ : S34) = X
    have hXM : X = rd_T34 M r := by
      subst hX
      obtain ⟨b2, b5, b6, b7, b8, b9⟩ := t5
      generalize rd_T34 M r = t at *
      obtain ⟨a0, a1, a2, a3, a4, a5, a6, a7, a8, a9⟩ := t
      simp only at *
      subst hf b2 b5 b6 b7 b8 b9 t4
      rw [hn, ← hrs]
    have hnew : rd_T34 (M ++ [X]) (M.length : Int) = rd_T34 M r := by rw [rdT_new, hXM]
    -- what lies below
    have hchN : ∀ c, Chd (M ++ [X]) (M.length : Int) c ↔ Chd M r c := fun c => by unfold Chd; rw [hnew]
    have hV' : ∀ k, Rch (M ++ [X]) (M.length : Int) k ↔ k = (M.length : Int) ∨ ∃ c, Chd M r c ∧ Rch M c k := by
      intro k
      constructor
      · intro h
        cases h with
        | refl => exact .inl rfl
        | step hc hk =>
          have hc' := (hchN _).1 hc
          have := hD r r0 hrN _ hc'
          exact .inr ⟨_, hc', (rch_app hD this.1 (by omega)).1 hk⟩
      · rintro (rfl | ⟨c, hc, hk⟩)
        · exact .refl _
        · have := hD r r0 hrN _ hc
          exact .step ((hchN _).2 hc) ((rch_app hD this.1 (by omega)).2 hk)
    have hV : ∀ k, Rch M r k ↔ k = r ∨ ∃ c, Chd M r c ∧ Rch M c k := by
      intro k
      constructor
      · intro h
        cases h with
        | refl => exact .inl rfl
        | step hc hk => exact .inr ⟨_, hc, hk⟩
      · rintro (rfl | ⟨c, hc, hk⟩)
        · exact .refl _
        · exact .step hc hk
    have hlow : ∀ k c, Chd M r c → Rch M c k → 0 ≤ k ∧ k < r := by
      intro k c hc hk
      have h2 := hD r r0 hrN _ hc
      have := hk.le hD h2.1 (by omega)
      omega
    have bt : ∀ {a b : Bool}, (a = true ↔ b = true) → a = b := by
      intro a b h
      cases a <;> cases b <;> simp_all
    have F1 : ∀ k : Int, 0 ≤ k → k < r → liveV (M ++ [X]) (M.length : Int) k = liveV M r k := by
      intro k k0 k1
      apply bt
      rw [liveV_iff, liveV_iff, hV', hV]
      constructor
      · rintro (h | h)
        · omega
        · exact .inr h
      · rintro (h | h)
        · omega
        · exact .inr h
    have F2 : ∀ k : Int, r ≤ k → k < (M.length : Int) → liveV (M ++ [X]) (M.length : Int) k = false := by
      intro k k0 k1
      cases hv : liveV (M ++ [X]) (M.length : Int) k with
      | false => rfl
      | true =>
        rw [liveV_iff, hV'] at hv
        rcases hv with h | ⟨c, hc, hk⟩
        · omega
        · have := hlow k c hc hk
          omega
    have F3 : liveV (M ++ [X]) (M.length : Int) (M.length : Int) = true := by
      rw [liveV_iff]
      exact .refl _
    have F4 : liveV M r r = true := by
      rw [liveV_iff]
      exact .refl _
    have F5 : ∀ k : Int, r < k → k < (M.length : Int) → liveV M r k = false := by
      intro k k0 k1
      cases hv : liveV M r k with
      | false => rfl
      | true =>
        have := liveV_le hD r0 hrN hv
        omega
    generalize liveV (M ++ [X]) (M.length : Int) = V' at *
    generalize liveV M r = V at *
    obtain ⟨q, rfl⟩ : ∃ q : Nat, r = (q : Int) := ⟨r.toNat, by omega⟩
    obtain ⟨d, hd⟩ : ∃ d : Nat, M.length = q + d := ⟨M.length - q, by omega⟩
    have hi : idxV V' q = idxV V q := idxV_congr (fun k k0 k1 => F1 k k0 k1)
    have i1 : idxV V' (M.length + 1) = idxV V q ++ [M.length] := by
      rw [idxV_succ, if_pos F3, hd, idxV_stay d (fun k k0 k1 => F2 k k0 (by omega)), hi]
    have i2 : idxV V M.length = idxV V q ++ [q] := by
      have e1 : idxV V (q + 1) = idxV V q ++ [q] := by rw [idxV_succ, if_pos F4]
      rw [show M.length = (q + 1) + (d - 1) by omega, idxV_stay (d - 1) (fun k k0 k1 => F5 k (by omega) (by omega)), e1]
    have hc : ∀ c : Int, 0 ≤ c → c ≤ (q : Int) → cntI V' c = cntI V c := by
      intro c c0 c1
      unfold cntI
      rw [← idxV_len, ← idxV_len, idxV_congr (fun k k0 k1 => F1 k k0 (by omega))]
    have hren : ∀ i : Int, 0 ≤ i → i ≤ (q : Int) → ren V' (rd_T34 M i) = ren V (rd_T34 M i) := by
      intro i i0 i1
      have hg := hI.g i i0 (show i < (M.length : Int) by omega)
      refine ren_congr (fun c hcm => ?_) (fun e he => ?_)
      · have := hg.kids4 hcm
        exact hc c this.1 (by omega)
      · have := hg.kids3 he
        exact hc e.f2 this.1 (by omega)
    refine ⟨?_, ?_⟩
    · unfold optG
      rw [List.length_append, List.length_singleton, i1, i2, List.map_append, List.map_append]
      congr 1
      · apply List.map_congr_left
        intro i him
        have hil : i < q := List.mem_range.1 (List.mem_filter.1 him).1
        rw [rdT_app M X (i : Int) (by omega) (by omega)]
        exact hren _ (by omega) (by omega)
      · show [ren V' (rd_T34 (M ++ [X]) (M.length : Int))] = [ren V (rd_T34 M (q : Int))]
        rw [hnew, hren _ (by omega) (Int.le_refl _)]
    · unfold cntI
      rw [Int.toNat_natCast, Int.toNat_natCast, ← idxV_len, ← idxV_len, hd, idxV_stay d (fun k k0 k1 => F2 k k0 (by omega)), hi]
  · have hE : addE M P (wrapE n root cut) = [⟨0, n, r, 0⟩] := by
      unfold addE wrapE
      split
      · rw [List.foldl_cons, List.foldl_cons, List.foldl_nil, hk, hk]
        unfold fuseL
        rw [if_neg hf, if_neg hf]
        show joinStep [⟨0, cut, r, 0⟩] ⟨cut, n - cut, r, cut⟩ = _
        have := joinStep_snoc [] ⟨0, cut, r, 0⟩ ⟨cut, n - cut, r, cut⟩
        rw [List.nil_append] at this
        rw [this, if_pos ⟨rfl, by show (0 : Int) + cut = cut; omega⟩]
        show [(⟨0, cut + (n - cut), r, 0⟩ : S36)] = _
        rw [show cut + (n - cut) = n by omega]
      · rw [List.foldl_cons, List.foldl_nil, hk]
        unfold fuseL
        rw [if_neg hf]
        rfl
    rw [hE]
    have hat : atL M [⟨0, n, r, 0⟩] = r := by
      unfold atL
      show (if 1 = 1 then (if (0 : Int) = 0 then (if n = (rd_T34 M r).f1 then r else _) else _) else _) = r
      rw [if_pos rfl, if_pos rfl, if_pos (by omega)]
    rw [hat]
    generalize (⟨3, n, 0, [⟨0, n, r, 0⟩], [], 0, 0, 0, [], []⟩ : S34) = X
    have hVV : liveV (M ++ [X]) r = liveV M r := by
      funext k
      have h2 : liveV (M ++ [X]) r k = true ↔ liveV M r k = true := by
        rw [liveV_iff, liveV_iff]
        exact rch_app hD r0 hrN
      cases ha : liveV (M ++ [X]) r k <;> cases hb : liveV M r k <;> simp_all
    rw [hVV]
    refine ⟨?_, rfl⟩
    have hfalse : liveV M r (M.length : Int) = false := by
      cases hv : liveV M r (M.length : Int) with
      | false => rfl
      | true =>
        have := liveV_le hD r0 hrN hv
        omega
    unfold optG
    rw [List.length_append, List.length_singleton, idxV_succ, if_neg (by rw [hfalse]; decide)]
    apply List.map_congr_left
    intro i him
    have hil : i < M.length := List.mem_range.1 (List.mem_filter.1 him).1
    rw [rdT_app M X (i : Int) (by omega) (by omega)]
end Go.Proofs.Ytneglmnffdmbiaa.P
