import Derived.Test.YtneglmnffdmbiaaOptAdd2
namespace Go.Proofs.Ytneglmnffdmbiaa.P
open Go.RowKit Go.Proofs.YtneglmnffdmbiaaW.PrintWords Go.Proofs.YtneglmnffdmbiaaW.PrintLast Go.Proofs.YtneglmnffdmbiaaW.PrintMore
set_option linter.unusedVariables false
set_option linter.unusedSimpArgs false

/-- Where a step's lists lie. -/
structure Lie where
  ev : Value
  kv : Value
  v8 : Value
  v9 : Value
def zL : Lie := ⟨.slice none 0 0, .slice none 0 0, .slice none 0 0, .slice none 0 0⟩
def cells1 (p : S34 × Lie) : List Value := sc p.1 p.2.ev p.2.kv p.2.v8 p.2.v9
def CellsOf (p : S34 × Lie) (c : List Value) : Prop := c = cells1 p
/-- The rows of a step's own. -/
structure RowAt (w : World) (base : Nat) (t : S34) (r : Lie) : Prop where
  k : w.ownsRow base 3 1 r.kv t.f4.length (nums .i64 t.f4)
  e : t.f0 = 3 → w.ownsRow base 36 4 r.ev t.f3.length (ec t.f3)
  n : t.f0 ≠ 3 → t.f3 = [] ∧ ∃ A c, r.ev = .slice A 0 c
/-- The rows that came in. -/
def KeyAt (w : World) (t : S34) (r : Lie) : Prop := ∃ A8 c8 A9 c9, r.v8 = .slice A8 t.f8.length c8 ∧ t.f8.length ≤ c8 ∧ Kd.C (Kd.int .u8) w A8 t.f8.length t.f8 ∧ r.v9 = .slice A9 t.f9.length c9 ∧ t.f9.length ≤ c9 ∧ Kd.C (Kd.int .u8) w A9 t.f9.length t.f9
theorem KeyAt.below {w w1 : World} {t : S34} {r : Lie} (h : KeyAt w t r) (hb : Below w.heap.size w w1) : KeyAt w1 t r := by
  obtain ⟨A8, c8, A9, c9, h1, h2, h3, h4, h5, h6⟩ := h
  exact ⟨A8, c8, A9, c9, h1, h2, Kd.C_below h3 hb, h4, h5, Kd.C_below h6 hb⟩
/-- Block k is one of a step's own rows. -/
def Owns (p : S34 × Lie) (k : Nat) : Prop := p.2.kv.ownBlock = some k ∨ (p.1.f0 = 3 ∧ p.2.ev.ownBlock = some k)
theorem RowAt.move {w w1 : World} {base : Nat} {t : S34} {r : Lie} (h : RowAt w base t r) (hm : ∀ k, Owns (t, r) k → w1.heap[k]? = w.heap[k]?) : RowAt w1 base t r :=
  ⟨own_move h.k (fun k hk => hm k (.inl hk)), fun h3 => own_move (h.e h3) (fun k hk => hm k (.inr ⟨h3, hk⟩)), h.n⟩
theorem RowAt.lt {w : World} {base : Nat} {t : S34} {r : Lie} (h : RowAt w base t r) {k : Nat} (hk : Owns (t, r) k) : base ≤ k ∧ k < w.heap.size ∧ ∃ cells q, w.heap[k]? = some (.cells cells q (0, 0)) ∧ (q = 3 ∨ q = 36) := by
  rcases hk with hk | ⟨h3, hk⟩
  · obtain ⟨cells, hc⟩ := own_typed h.k k hk
    exact ⟨own_base h.k k hk, own_lt h.k k hk, cells, 3, hc, .inl rfl⟩
  · obtain ⟨cells, hc⟩ := own_typed (h.e h3) k hk
    exact ⟨own_base (h.e h3) k hk, own_lt (h.e h3) k hk, cells, 36, hc, .inr rfl⟩
def tags (ps : List (S34 × Lie)) : List (Int × Lie) := ps.map (fun p => (p.1.f0, p.2))
def NeT (a b : Int × Lie) : Prop := NeRow a.2.kv b.2.kv ∧ (a.1 = 3 → b.1 = 3 → NeRow a.2.ev b.2.ev)
/-- Steps whose lists are the call's own, each apart from the others'. -/
structure StepsW (w : World) (base : Nat) (ps : List (S34 × Lie)) : Prop where
  row : ∀ (j : Nat) (p : S34 × Lie), ps[j]? = some p → RowAt w base p.1 p.2
  ne : (tags ps).Pairwise NeT
theorem StepsW.nil (w : World) (base : Nat) : StepsW w base [] := ⟨fun j p h => by simp at h, List.Pairwise.nil⟩
theorem StepsW.move {w w1 : World} {base : Nat} {ps : List (S34 × Lie)} (h : StepsW w base ps) (hm : ∀ p ∈ ps, ∀ k, Owns p k → base ≤ k → k < w.heap.size → w1.heap[k]? = w.heap[k]?) : StepsW w1 base ps :=
  ⟨fun j p hj => (h.row j p hj).move (fun k hk => hm p (List.mem_of_getElem? hj) k hk ((h.row j p hj).lt hk).1 ((h.row j p hj).lt hk).2.1), h.ne⟩
theorem StepsW.below {w w1 : World} {base : Nat} {ps : List (S34 × Lie)} (h : StepsW w base ps) (hb : Below w.heap.size w w1) : StepsW w1 base ps := h.move (fun _ _ k _ _ hk => hb.block k hk)
/-- A block that is no row of numbers or extents has turned. -/
theorem StepsW.but {w w1 : World} {base : Nat} {ps : List (S34 × Lie)} (h : StepsW w base ps) (row : Option Nat) (hk : ∀ k, k < w.heap.size → some k ≠ row → w1.heap[k]? = w.heap[k]?) (hr : ∀ g, row = some g → ∀ cells q, w.heap[g]? = some (.cells cells q (0, 0)) → q ≠ 3 ∧ q ≠ 36) : StepsW w1 base ps :=
  h.move (fun p hp k ho hb hlt => hk k hlt (fun e => by
    obtain ⟨j, hj⟩ := List.mem_iff_getElem?.1 hp
    obtain ⟨_, _, cells, q, hc, hq⟩ := (h.row j p hj).lt ho
    have := hr k e.symm cells q hc
    rcases hq with rfl | rfl
    · exact this.1 rfl
    · exact this.2 rfl))
theorem StepsW.snoc {w : World} {base : Nat} {ps : List (S34 × Lie)} {t : S34} {r : Lie} (h : StepsW w base ps) (hr : RowAt w base t r) (hn : ∀ p ∈ ps, NeRow p.2.kv r.kv ∧ (p.1.f0 = 3 → t.f0 = 3 → NeRow p.2.ev r.ev)) : StepsW w base (ps ++ [(t, r)]) := by
  refine ⟨fun j p hj => ?_, ?_⟩
  · rcases Nat.lt_trichotomy j ps.length with hlt | heq | hgt
    · rw [List.getElem?_append_left hlt] at hj
      exact h.row j p hj
    · subst heq
      obtain rfl : (t, r) = p := by simpa using hj
      exact hr
    · rw [List.getElem?_eq_none (by rw [List.length_append, List.length_singleton]; omega)] at hj
      cases hj
  · unfold tags
    rw [List.map_append, List.pairwise_append]
    refine ⟨h.ne, List.pairwise_singleton _ _, fun a ha b hb => ?_⟩
    obtain ⟨p, hp, rfl⟩ := List.mem_map.1 ha
    obtain rfl : b = (t.f0, r) := by simpa using hb
    exact hn p hp
theorem NeT.symm {a b : Int × Lie} (h : NeT a b) : NeT b a := ⟨ne_symm h.1, fun h1 h2 => ne_symm (h.2 h2 h1)⟩
theorem StepsW.apart {w : World} {base : Nat} {ps : List (S34 × Lie)} (h : StepsW w base ps) {i j : Nat} {p q : S34 × Lie} (hi : ps[i]? = some p) (hj : ps[j]? = some q) (hne : i ≠ j) : NeT (p.1.f0, p.2) (q.1.f0, q.2) := by
  have hp := List.pairwise_iff_getElem.1 h.ne
  obtain ⟨hi1, rfl⟩ := List.getElem?_eq_some_iff.1 hi
  obtain ⟨hj1, rfl⟩ := List.getElem?_eq_some_iff.1 hj
  rcases Nat.lt_or_ge i j with hlt | hge
  · have := hp i j (by simpa [tags] using hi1) (by simpa [tags] using hj1) hlt
    simpa [tags] using this
  · have := hp j i (by simpa [tags] using hj1) (by simpa [tags] using hi1) (by omega)
    have h2 := NeT.symm this
    simpa [tags] using h2
/-- One step's own lists have turned: no other's. -/
theorem StepsW.set {w w1 : World} {base : Nat} {ps : List (S34 × Lie)} {i : Nat} {t t' : S34} {r : Lie} (h : StepsW w base ps) (hi : ps[i]? = some (t, r)) (h0 : t'.f0 = t.f0) (hr : RowAt w1 base t' r) (g : Nat) (hg : Owns (t, r) g) (hk : ∀ k, k ≠ g → w1.heap[k]? = w.heap[k]?) : StepsW w1 base (ps.set i (t', r)) := by
  refine ⟨fun j p hj => ?_, ?_⟩
  · rw [List.getElem?_set] at hj
    split at hj
    · split at hj
      · obtain rfl : (t', r) = p := by simpa using hj
        exact hr
      · cases hj
    · rename_i hne
      refine (h.row j p hj).move (fun k hkk => hk k (fun e => ?_))
      subst e
      have hap := h.apart hi hj hne
      have hti := (h.row i _ hi).lt hg
      have htj := (h.row j p hj).lt hkk
      rcases hg with hg | ⟨hg3, hg⟩ <;> rcases hkk with hkk | ⟨hk3, hkk⟩
      · exact hap.1 _ hg hkk
      · obtain ⟨c1, e1⟩ := own_typed (h.row i _ hi).k _ hg
        obtain ⟨c2, e2⟩ := own_typed ((h.row j p hj).e hk3) _ hkk
        rw [e1] at e2
        injection e2 with e2
        injection e2 with _ e2
        exact absurd e2 (by decide)
      · obtain ⟨c1, e1⟩ := own_typed ((h.row i _ hi).e hg3) _ hg
        obtain ⟨c2, e2⟩ := own_typed (h.row j p hj).k _ hkk
        rw [e1] at e2
        injection e2 with e2
        injection e2 with _ e2
        exact absurd e2 (by decide)
      · exact hap.2 hg3 hk3 _ hg hkk
  · have hlt := (List.getElem?_eq_some_iff.1 hi).1
    have he : tags (ps.set i (t', r)) = tags ps := by
      unfold tags
      rw [List.map_set]
      apply List.ext_getElem?
      intro q
      rw [List.getElem?_set]
      split
      · rename_i e
        subst e
        rw [if_pos (by simpa using hlt), List.getElem?_map, hi]
        simp [h0]
      · rfl
    rw [he]
    exact h.ne
/-- The steps' own row stays as it is where no slice's header and no number turns. -/
theorem cells_set {w : World} {base : Nat} {v : Value} {ps : List (S34 × Lie)} {i : Nat} {t t' : S34} {r : Lie} (h : OwnRow CellsOf 34 10 w base v ps) (hi : ps[i]? = some (t, r)) (hc : cells1 (t', r) = cells1 (t, r)) : OwnRow CellsOf 34 10 w base v (ps.set i (t', r)) := by
  obtain ⟨inner, ho, hr⟩ := h
  refine ⟨inner, by rw [List.length_set]; exact ho, by rw [List.length_set]; exact hr.1, fun j p hj => ?_⟩
  rw [List.getElem?_set] at hj
  split at hj
  · rename_i e
    subst e
    split at hj
    · obtain rfl : (t', r) = p := by simpa using hj
      have := hr.2 i _ hi
      unfold CellsOf at this ⊢
      rw [this, hc]
    · cases hj
  · exact hr.2 j p hj
/-- What one step reads as. -/
theorem RowAt.K {w : World} {base : Nat} {p : S34 × Lie} (hrow : RowAt w base p.1 p.2) (hk : KeyAt w p.1 p.2) : k34.K w p.1 (cells1 p) := by
  obtain ⟨A8, c8, A9, c9, e8, l8, g8, e9, l9, g9⟩ := hk
  obtain ⟨A4, c4, e4⟩ := own_slice hrow.k
  have k4 := (Kd.R_reads' (Kd.R_of_own (ok := fun _ => True) (h1 := fun _ => rfl) (by rw [← e4]; exact hrow.k) (fun _ _ => trivial)))
  have k3 : ∃ A3 c3, p.2.ev = .slice A3 p.1.f3.length c3 ∧ p.1.f3.length ≤ c3 ∧ Kd.C k36 w A3 p.1.f3.length p.1.f3 := by
    by_cases h3 : p.1.f0 = 3
    · obtain ⟨A3, c3, e3, l3, g3⟩ := Kd.R_reads (R36 (ok := fun _ => True) (hrow.e h3) (fun _ _ => trivial))
      exact ⟨A3, c3, e3, l3, g3⟩
    · obtain ⟨hn, A3, c3, e3⟩ := hrow.n h3
      rw [hn]
      exact ⟨A3, c3, e3, Nat.zero_le _, rfl, by simp, fun h => absurd h (Nat.lt_irrefl 0)⟩
  obtain ⟨A3, c3, e3, l3, g3⟩ := k3
  have e0 : cells1 p = [.int .i64 p.1.f0, .int .i64 p.1.f1, .int .i64 p.1.f2, .slice A3 p.1.f3.length c3, .slice A4 p.1.f4.length c4, .int .i64 p.1.f5, .int .i64 p.1.f6, .int .i64 p.1.f7, .slice A8 p.1.f8.length c8, .slice A9 p.1.f9.length c9] := by
    unfold cells1 sc
    rw [e3, e4, e8, e9]
  rw [e0]
  exact k34_mk w p.1 l3 g3 k4.2.1 k4.2.2 l8 g8 l9 g9
/-- A reading of steps whose rows lie among others. -/
theorem StepsW.C_of {w : World} {base : Nat} {v : Value} {ps qs : List (S34 × Lie)} (h : StepsW w base ps) (hsub : ∀ p ∈ qs, p ∈ ps) (hk : ∀ p ∈ qs, KeyAt w p.1 p.2) (ho : OwnRow CellsOf 34 10 w base v qs) :
    ∃ A c, v = .slice A qs.length c ∧ qs.length ≤ c ∧ Kd.C k34 w A qs.length (qs.map Prod.fst) := by
  obtain ⟨A, c, hv, hl, hr⟩ := ho.reads
  refine ⟨A, c, hv, hl, by rw [List.length_map], hr.2.1, fun hp => ?_⟩
  obtain ⟨ad, e, hc⟩ := hr.2.2 hp
  refine ⟨ad, e, fun j t hj => ?_⟩
  rw [List.getElem?_map, Option.map_eq_some_iff] at hj
  obtain ⟨p, hj, rfl⟩ := hj
  obtain ⟨cs, hcl, rfl, hcell⟩ := hc j p hj
  have hpq := List.mem_of_getElem? hj
  obtain ⟨j2, hj2⟩ := List.mem_iff_getElem?.1 (hsub p hpq)
  exact ⟨cells1 p, hcl, (h.row j2 _ hj2).K (hk p hpq), hcell⟩
theorem StepsW.C {w : World} {base : Nat} {v : Value} {ps : List (S34 × Lie)} (h : StepsW w base ps) (hk : ∀ p ∈ ps, KeyAt w p.1 p.2) (ho : OwnRow CellsOf 34 10 w base v ps) :
    ∃ A c, v = .slice A ps.length c ∧ ps.length ≤ c ∧ Kd.C k34 w A ps.length (ps.map Prod.fst) := h.C_of (fun _ hp => hp) hk ho
theorem one_cells {p : S34 × Lie} (hv : p.2.ev.oneCell' = true ∧ p.2.kv.oneCell' = true ∧ p.2.v8.oneCell' = true ∧ p.2.v9.oneCell' = true) : ∀ u ∈ cells1 p, u.oneCell' = true := by
  intro u hu
  unfold cells1 sc at hu
  simp only [List.mem_cons, List.not_mem_nil, or_false] at hu
  rcases hu with rfl | rfl | rfl | rfl | rfl | rfl | rfl | rfl | rfl | rfl
  all_goals first | rfl | exact hv.1 | exact hv.2.1 | exact hv.2.2.1 | exact hv.2.2.2
theorem cells_snoc {w : World} {base : Nat} {v : Value} {ps : List (S34 × Lie)} {inner : List Value} {p : S34 × Lie} (hr : Reps CellsOf 10 ps inner) (ho : w.ownsRow base 34 10 v (ps.length + 1) (inner ++ cells1 p)) : OwnRow CellsOf 34 10 w base v (ps ++ [p]) :=
  ⟨inner ++ cells1 p, by rw [List.length_append, List.length_singleton]; exact ho, hr.snoc rfl rfl⟩
/-- The cells of one step. -/
theorem cells_at {w : World} {base : Nat} {v : Value} {ps : List (S34 × Lie)} (h : OwnRow CellsOf 34 10 w base v ps) (i : Int) (h0 : 0 ≤ i) (p : S34 × Lie) (hp : ps[i.toNat]? = some p) : ∃ ad c, v = .slice (some ad) ps.length c ∧ w.cell? (ad.add (i.toNat * 10)) = some (.int .i64 p.1.f0) ∧ w.cell? ⟨(ad.add (i.toNat * 10)).block, (ad.add (i.toNat * 10)).off + 1, none⟩ = some (.int .i64 p.1.f1) ∧ w.cell? ⟨(ad.add (i.toNat * 10)).block, (ad.add (i.toNat * 10)).off + 2, none⟩ = some (.int .i64 p.1.f2) ∧ w.cell? ⟨(ad.add (i.toNat * 10)).block, (ad.add (i.toNat * 10)).off + 3, none⟩ = some p.2.ev ∧ w.cell? ⟨(ad.add (i.toNat * 10)).block, (ad.add (i.toNat * 10)).off + 4, none⟩ = some p.2.kv ∧ w.cell? ⟨(ad.add (i.toNat * 10)).block, (ad.add (i.toNat * 10)).off + 5, none⟩ = some (.int .i64 p.1.f5) ∧ w.cell? ⟨(ad.add (i.toNat * 10)).block, (ad.add (i.toNat * 10)).off + 6, none⟩ = some (.int .i64 p.1.f6) ∧ w.cell? ⟨(ad.add (i.toNat * 10)).block, (ad.add (i.toNat * 10)).off + 7, none⟩ = some (.int .i64 p.1.f7) ∧ w.cell? ⟨(ad.add (i.toNat * 10)).block, (ad.add (i.toNat * 10)).off + 8, none⟩ = some p.2.v8 ∧ w.cell? ⟨(ad.add (i.toNat * 10)).block, (ad.add (i.toNat * 10)).off + 9, none⟩ = some p.2.v9 := by
  obtain ⟨A, c, hv, hl, hr⟩ := h.reads
  have hlt := (List.getElem?_eq_some_iff.1 hp).1
  obtain ⟨ad, e, hc⟩ := hr.2.2 (by omega)
  obtain ⟨cs, hcl, rfl, hcell⟩ := hc i.toNat p hp
  subst e
  exact ⟨ad, c, hv, hcell 0 _ rfl, by rw [← add_field _ _ 1 (by omega)]; exact hcell 1 _ rfl, by rw [← add_field _ _ 2 (by omega)]; exact hcell 2 _ rfl, by rw [← add_field _ _ 3 (by omega)]; exact hcell 3 _ rfl, by rw [← add_field _ _ 4 (by omega)]; exact hcell 4 _ rfl, by rw [← add_field _ _ 5 (by omega)]; exact hcell 5 _ rfl, by rw [← add_field _ _ 6 (by omega)]; exact hcell 6 _ rfl, by rw [← add_field _ _ 7 (by omega)]; exact hcell 7 _ rfl, by rw [← add_field _ _ 8 (by omega)]; exact hcell 8 _ rfl, by rw [← add_field _ _ 9 (by omega)]; exact hcell 9 _ rfl⟩
end Go.Proofs.Ytneglmnffdmbiaa.P
