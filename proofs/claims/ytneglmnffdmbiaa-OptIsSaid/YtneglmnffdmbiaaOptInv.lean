import Derived.Test.YtneglmnffdmbiaaOptPl
namespace Go.Proofs.Ytneglmnffdmbiaa.P
open Go.RowKit Go.Proofs.YtneglmnffdmbiaaW.PrintWords Go.Proofs.YtneglmnffdmbiaaW.PrintLast Go.Proofs.YtneglmnffdmbiaaW.PrintMore
set_option linter.unusedVariables false
set_option linter.unusedSimpArgs false

/-! what holds of the steps that were gone through -/
theorem rdT_app (M : List S34) (x : S34) (j : Int) (h1 : j < (M.length : Int)) (h0 : 0 ≤ j) : rd_T34 (M ++ [x]) j = rd_T34 M j := by
  unfold rd_T34
  rw [List.getD_eq_getElem?_getD, List.getElem?_append_left (by omega), List.getD_eq_getElem?_getD]
theorem rdT_new (M : List S34) (x : S34) : rd_T34 (M ++ [x]) (M.length : Int) = x := by
  unfold rd_T34
  rw [Int.toNat_natCast, List.getD_eq_getElem?_getD, List.getElem?_append_right (Nat.le_refl _), Nat.sub_self]
  rfl
theorem rdI_app (M : List Int) (x : Int) (j : Int) (h1 : j < (M.length : Int)) (h0 : 0 ≤ j) : rd (M ++ [x]) j = rd M j := by
  unfold rd
  rw [List.getD_eq_getElem?_getD, List.getElem?_append_left (by omega), List.getD_eq_getElem?_getD]
theorem rdI_new (M : List Int) (x : Int) : rd (M ++ [x]) (M.length : Int) = x := by
  unfold rd
  rw [Int.toNat_natCast, List.getD_eq_getElem?_getD, List.getElem?_append_right (Nat.le_refl _), Nat.sub_self]
  rfl
theorem rdI_map (f : Int → Int) (ks : List Int) (q : Nat) (hq : q < ks.length) : rd (ks.map f) (q : Int) = f (rd ks (q : Int)) := by
  simp [rd, List.getD, hq]
theorem rdT_nat (M : List S34) (p : Int) : rd_T34 M p = rd_T34 M ((p.toNat : Nat) : Int) := by
  unfold rd_T34
  rw [Int.toNat_natCast]
theorem rdT_out (M : List S34) (p : Int) (h : M.length ≤ p.toNat) : rd_T34 M p = z34 := by
  unfold rd_T34
  rw [List.getD_eq_getElem?_getD, List.getElem?_eq_none h]
  rfl
def Bare (t : S34) : Prop := t.f2 = 0 ∧ t.f5 = 0 ∧ t.f6 = 0 ∧ t.f7 = 0 ∧ t.f8 = [] ∧ t.f9 = []
/-- A Concat that is all of one kid. -/
def Full (M : List S34) (k : Int) : Prop := (rd_T34 M k).f0 = 3 ∧ ∃ e, (rd_T34 M k).f3 = [e] ∧ e.f3 = 0 ∧ e.f1 = (rd_T34 M e.f2).f1
/-- A step on which nothing is left to do. -/
structure Good (M : List S34) (j : Int) : Prop where
  s : 1 ≤ (rd_T34 M j).f1 ∧ (rd_T34 M j).f1 ≤ 8192
  l4 : (rd_T34 M j).f4.length ≤ 60
  c : (rd_T34 M j).f0 = 3 → Tile 0 (rd_T34 M j).f3 (rd_T34 M j).f1 ∧ (∀ e ∈ (rd_T34 M j).f3, EIn M j e) ∧ NJ (rd_T34 M j).f3 ∧ (rd_T34 M j).f4 = [] ∧ Bare (rd_T34 M j)
  o : (rd_T34 M j).f0 ≠ 3 → (rd_T34 M j).f3 = [] ∧ KidsIn (rd_T34 M j).f4 j ∧ ∀ q : Nat, q < (rd_T34 M j).f4.length → ¬ Full M (rd (rd_T34 M j).f4 (q : Int))
def AllGood (M : List S34) : Prop := ∀ k : Int, 0 ≤ k → k < (M.length : Int) → Good M k
theorem EIn_app {M : List S34} {x : S34} {n : Int} {e : S36} (hn : n ≤ (M.length : Int)) (h : EIn M n e) : EIn (M ++ [x]) n e := by
  obtain ⟨⟨a0, a1, a2, a3, a4⟩, a5⟩ := h
  have := rdT_app M x e.f2 (by omega) a0
  unfold EIn ExIn
  rw [this]
  exact ⟨⟨a0, a1, a2, a3, a4⟩, a5⟩
theorem Full_app {M : List S34} {x : S34} {k : Int} (hG : AllGood M) (h0 : 0 ≤ k) (h1 : k < (M.length : Int)) (h : Full (M ++ [x]) k) : Full M k := by
  unfold Full at h ⊢
  rw [rdT_app M x k h1 h0] at h
  obtain ⟨hf, e, he, e3, e1⟩ := h
  have hg := ((hG k h0 h1).c hf).2.1 e (by rw [he]; simp)
  rw [rdT_app M x e.f2 (by have := hg.1.2.1; omega) hg.1.1] at e1
  exact ⟨hf, e, he, e3, e1⟩
theorem Good.app {M : List S34} {x : S34} {j : Int} (hG : AllGood M) (h0 : 0 ≤ j) (h1 : j < (M.length : Int)) : Good (M ++ [x]) j := by
  have h := hG j h0 h1
  have e := rdT_app M x j h1 h0
  refine ⟨by rw [e]; exact h.s, by rw [e]; exact h.l4, ?_, ?_⟩
  · rw [e]
    intro hf
    obtain ⟨a, b, c⟩ := h.c hf
    exact ⟨a, fun q hq => EIn_app (by omega) (b q hq), c⟩
  · rw [e]
    intro hf
    obtain ⟨a, b, c⟩ := h.o hf
    exact ⟨a, b, fun q hq hF => c q hq (Full_app hG (b q hq).1 (by have := (b q hq).2; omega) hF)⟩
theorem AllGood.snoc {M : List S34} {x : S34} (hG : AllGood M) (hx : Good (M ++ [x]) (M.length : Int)) : AllGood (M ++ [x]) := by
  intro k h0 h1
  rw [List.length_append, List.length_singleton] at h1
  by_cases hk : k < (M.length : Int)
  · exact Good.app hG h0 hk
  · obtain rfl : k = (M.length : Int) := by omega
    exact hx
theorem AllGood.l3 {M : List S34} (hG : AllGood M) (p : Int) : (rd_T34 M p).f3.length ≤ 8192 := by
  rw [rdT_nat]
  by_cases hp : p.toNat < M.length
  · have h := hG (p.toNat : Int) (by omega) (by omega)
    by_cases hf : (rd_T34 M (p.toNat : Int)).f0 = 3
    · have h1 := tile_le _ _ _ (h.c hf).1
      have h2 := h.s
      omega
    · rw [(h.o hf).1]
      simp
  · rw [rdT_out M _ (by omega)]
    simp [z34]
theorem AllGood.l4 {M : List S34} (hG : AllGood M) (p : Int) : (rd_T34 M p).f4.length ≤ 60 := by
  rw [rdT_nat]
  by_cases hp : p.toNat < M.length
  · exact (hG (p.toNat : Int) (by omega) (by omega)).l4
  · rw [rdT_out M _ (by omega)]
    simp [z34]
theorem AllGood.ex {M : List S34} (hG : AllGood M) (p : Int) (j : Nat) (hj : j < (rd_T34 M p).f3.length) : exOk (rd_T36 (rd_T34 M p).f3 (j : Int)) := by
  have hm := rd_mem _ j hj
  generalize rd_T36 (rd_T34 M p).f3 (j : Int) = e at *
  rw [rdT_nat] at hm hj
  by_cases hp : p.toNat < M.length
  · have h := hG (p.toNat : Int) (by omega) (by omega)
    by_cases hf : (rd_T34 M (p.toNat : Int)).f0 = 3
    · have h1 := tile_mem _ _ _ (h.c hf).1 e hm
      have h2 := h.s
      obtain ⟨⟨a0, a1, a2, a3, a4⟩, a5⟩ := (h.c hf).2.1 e hm
      have h3 := (hG e.f2 a0 (by omega)).s
      unfold exOk
      omega
    · rw [(h.o hf).1] at hm
      cases hm
  · rw [rdT_out M _ (by omega)] at hm
    cases hm
theorem AllGood.down {M : List S34} (hG : AllGood M) : Down M := by
  intro i h0 h1 c hc
  have h := hG i h0 h1
  rcases hc with ⟨q, hq, rfl⟩ | ⟨q, hq, rfl⟩
  · by_cases hf : (rd_T34 M i).f0 = 3
    · rw [(h.c hf).2.2.2.1] at hq
      cases hq
    · exact (h.o hf).2.1 q hq
  · by_cases hf : (rd_T34 M i).f0 = 3
    · have := ((h.c hf).2.1 _ (rd_mem _ q hq)).1
      exact ⟨this.1, this.2.1⟩
    · rw [(h.o hf).1] at hq
      cases hq
/-- No child is a Concat that is all of one kid. -/
theorem AllGood.tight {M : List S34} (hG : AllGood M) {i c : Int} (h0 : 0 ≤ i) (h1 : i < (M.length : Int)) (hc : Chd M i c) : ¬ Full M c := by
  have h := hG i h0 h1
  rcases hc with ⟨q, hq, rfl⟩ | ⟨q, hq, rfl⟩
  · by_cases hf : (rd_T34 M i).f0 = 3
    · rw [(h.c hf).2.2.2.1] at hq
      cases hq
    · exact (h.o hf).2.2 q hq
  · by_cases hf : (rd_T34 M i).f0 = 3
    · have := ((h.c hf).2.1 _ (rd_mem _ q hq)).2
      exact fun hF => this hF.1
    · rw [(h.o hf).1] at hq
      cases hq
/-- The steps gone through so far, and what stands for each. -/
structure Inv (L0 : List S34) (n : Nat) (s : List S34 × List Int) : Prop where
  lm : s.1.length = n
  lp : s.2.length = n
  g : AllGood s.1
  pl : ∀ j : Int, 0 ≤ j → j < (n : Int) → 0 ≤ rd s.2 j ∧ rd s.2 j ≤ j ∧ (rd_T34 s.1 (rd s.2 j)).f1 = (rd_T34 L0 j).f1 ∧ ¬ Full s.1 (rd s.2 j)
theorem fuseL_tile {M : List S34} {n : Int} (x : S36) (hk0 : 0 ≤ x.f2) (hk1 : x.f2 < n) (hg : Good M x.f2) (h1 : 1 ≤ x.f1) (h3 : 0 ≤ x.f3) (h4 : x.f3 + x.f1 ≤ (rd_T34 M x.f2).f1) :
    Tile x.f0 (fuseL M x) (x.f0 + x.f1) ∧ ∀ e ∈ fuseL M x, EIn M n e := by
  unfold fuseL
  by_cases hf : (rd_T34 M x.f2).f0 = 3
  · rw [if_pos hf]
    obtain ⟨a, b, _⟩ := hg.c hf
    have := fuseK_tile x h1 _ 0 _ a h4 (by omega)
    have hp := pos_spec x 0
    rw [show x.f0 + posL x 0 = x.f0 by omega] at this
    exact ⟨this, fuseK_in h3 hk1 b⟩
  · rw [if_neg hf]
    refine ⟨⟨rfl, h1, rfl⟩, fun e he => ?_⟩
    rw [List.mem_singleton] at he
    subst he
    exact ⟨⟨hk0, hk1, h1, h3, h4⟩, hf⟩
theorem addE_good {L0 : List S34} {n : Nat} {s : List S34 × List Int} (hI : Inv L0 n s) : ∀ (es l : List S36) (a N : Int), Tile 0 l a → NJ l → (∀ e ∈ l, EIn s.1 n e) → Tile a es N → (∀ e ∈ es, ExIn L0 n e) →
    Tile 0 (es.foldl (fun l x => (fuseL s.1 (kidE s.2 x)).foldl joinStep l) l) N ∧ NJ (es.foldl (fun l x => (fuseL s.1 (kidE s.2 x)).foldl joinStep l) l) ∧ ∀ e ∈ es.foldl (fun l x => (fuseL s.1 (kidE s.2 x)).foldl joinStep l) l, EIn s.1 n e
  | [], l, a, N, h, hn, hi, ht, _ => by
    have : a = N := ht
    subst this
    exact ⟨h, hn, hi⟩
  | x :: es, l, a, N, h, hn, hi, ht, hx => by
    obtain ⟨h0, h1, h2⟩ := ht
    obtain ⟨a0, a1, a2, a3, a4⟩ := hx x (by simp)
    obtain ⟨p0, p1, p2, p3⟩ := hI.pl x.f2 a0 a1
    have hg := hI.g (rd s.2 x.f2) p0 (by rw [hI.lm]; omega)
    obtain ⟨t1, t2⟩ := fuseL_tile (M := s.1) (n := (n : Int)) (kidE s.2 x) p0 (by show rd s.2 x.f2 < _; omega) hg a2 a3 (by show x.f3 + x.f1 ≤ (rd_T34 s.1 (rd s.2 x.f2)).f1; rw [p2]; exact a4)
    have t1' : Tile a (fuseL s.1 (kidE s.2 x)) (a + x.f1) := by
      have : Tile x.f0 (fuseL s.1 (kidE s.2 x)) (x.f0 + x.f1) := t1
      rw [h0] at this
      exact this
    obtain ⟨q1, q2, q3⟩ := join_all _ l 0 a (a + x.f1) h hn hi t1' t2
    rw [List.foldl_cons]
    exact addE_good hI es _ (a + x.f1) N q1 q2 q3 h2 (fun e he => hx e (by simp [he]))
theorem atL_cases (M : List S34) (E : List S36) : (atL M E = (M.length : Int) ∧ ¬ ∃ e, E = [e] ∧ e.f3 = 0 ∧ e.f1 = (rd_T34 M e.f2).f1) ∨ ∃ e, E = [e] ∧ e.f3 = 0 ∧ e.f1 = (rd_T34 M e.f2).f1 ∧ atL M E = e.f2 := by
  by_cases hl : E.length = 1
  · obtain ⟨e, rfl⟩ := List.length_eq_one_iff.1 hl
    have e0 : rd_T36 [e] 0 = e := rfl
    unfold atL
    rw [e0, if_pos hl]
    by_cases h3 : e.f3 = 0
    · rw [if_pos h3]
      by_cases h1 : e.f1 = (rd_T34 M e.f2).f1
      · rw [if_pos h1]
        exact .inr ⟨e, rfl, h3, h1, rfl⟩
      · rw [if_neg h1]
        refine .inl ⟨rfl, ?_⟩
        rintro ⟨e', he, _, h⟩
        obtain rfl : e = e' := by simpa using he
        exact h1 h
    · rw [if_neg h3]
      refine .inl ⟨rfl, ?_⟩
      rintro ⟨e', he, h, _⟩
      obtain rfl : e = e' := by simpa using he
      exact h3 h
  · unfold atL
    rw [if_neg hl]
    refine .inl ⟨rfl, ?_⟩
    rintro ⟨e', he, _⟩
    exact hl (by rw [he]; rfl)
theorem Inv.step {L0 : List S34} {n : Nat} {s : List S34 × List Int} (hI : Inv L0 n s) (hn : n < L0.length) (hst : StOk L0 (n : Int)) (hl3 : (rd_T34 L0 (n : Int)).f3.length ≤ 60) (hl4 : (rd_T34 L0 (n : Int)).f4.length ≤ 60) (hz : ∀ p : Int, 0 ≤ p → p < (n : Int) → 1 ≤ (rd_T34 L0 p).f1 ∧ (rd_T34 L0 p).f1 ≤ 8192) :
    Inv L0 (n + 1) (addS s (rd_T34 L0 (n : Int))) ∧ AddOk s.1 s.2 (rd_T34 L0 (n : Int)) := by
  obtain ⟨⟨s1, s2⟩, hc, ho, _⟩ := hst
  have hsz : ∀ t : S34, (newT s t).f1 = t.f1 ∧ (newT s t).f0 = t.f0 := by
    intro t
    unfold newT
    split <;> exact ⟨rfl, rfl⟩
  have hE : (rd_T34 L0 (n : Int)).f0 = 3 → Tile 0 (addE s.1 s.2 (rd_T34 L0 (n : Int)).f3) (rd_T34 L0 (n : Int)).f1 ∧ NJ (addE s.1 s.2 (rd_T34 L0 (n : Int)).f3) ∧ ∀ e ∈ addE s.1 s.2 (rd_T34 L0 (n : Int)).f3, EIn s.1 n e := by
    intro hf
    obtain ⟨⟨e1, e2, _⟩, _⟩ := hc hf
    exact addE_good hI _ [] 0 _ rfl trivial (fun e he => by cases he) e1 e2
  have hml : (s.1.length : Int) = (n : Int) := by rw [hI.lm]
  have hpl : (s.2.length : Int) = (n : Int) := by rw [hI.lp]
  generalize ht : rd_T34 L0 (n : Int) = t at *
  have hT := hsz t
  have hnew : rd_T34 (s.1 ++ [newT s t]) (n : Int) = newT s t := by rw [← hml]; exact rdT_new _ _
  have hgood : Good (s.1 ++ [newT s t]) (s.1.length : Int) := by
    rw [hml]
    refine ⟨by rw [hnew, hT.1]; exact ⟨s1, s2⟩, ?_, ?_, ?_⟩
    · rw [hnew]
      unfold newT
      split <;> (show (List.map _ _).length ≤ 60; rw [List.length_map]; exact hl4)
    · rw [hnew, hT.2]
      intro hf
      obtain ⟨p1, p2, p3⟩ := hE hf
      obtain ⟨_, q1, q2⟩ := hc hf
      unfold newT
      rw [if_pos hf]
      refine ⟨p1, fun e he => EIn_app (by omega) (p3 e he), p2, by show List.map _ _ = []; rw [q1]; rfl, q2⟩
    · rw [hnew, hT.2]
      intro hf
      obtain ⟨p1, p2⟩ := ho hf
      unfold newT
      rw [if_neg hf]
      refine ⟨p1, fun q hq => ?_, fun q hq hF => ?_⟩
      · have hq' : q < t.f4.length := by simpa using hq
        show 0 ≤ rd (t.f4.map (rd s.2)) (q : Int) ∧ rd (t.f4.map (rd s.2)) (q : Int) < _
        rw [rdI_map _ _ _ hq']
        obtain ⟨k0, k1⟩ := p2 q hq'
        have := hI.pl _ k0 k1
        omega
      · have hq' : q < t.f4.length := by simpa using hq
        have hF' : Full (s.1 ++ [newT s t]) (rd (t.f4.map (rd s.2)) (q : Int)) := by
          unfold newT
          rw [if_neg hf]
          exact hF
        rw [rdI_map _ _ _ hq'] at hF'
        obtain ⟨k0, k1⟩ := p2 q hq'
        have hp := hI.pl _ k0 k1
        exact hp.2.2.2 (Full_app hI.g hp.1 (by omega) hF')
  refine ⟨⟨by show (s.1 ++ [_]).length = _; rw [List.length_append, hI.lm]; rfl, by show (s.2 ++ [_]).length = _; rw [List.length_append, hI.lp]; rfl, hI.g.snoc hgood, ?_⟩, ?_⟩
  · intro j h0 h1
    show 0 ≤ rd (s.2 ++ [newP s t]) j ∧ rd (s.2 ++ [newP s t]) j ≤ j ∧ (rd_T34 (s.1 ++ [newT s t]) (rd (s.2 ++ [newP s t]) j)).f1 = _ ∧ ¬ Full (s.1 ++ [newT s t]) (rd (s.2 ++ [newP s t]) j)
    by_cases hj : j < (n : Int)
    · obtain ⟨p0, p1, p2, p3⟩ := hI.pl j h0 hj
      rw [rdI_app _ _ _ (by omega) h0, rdT_app _ _ _ (by omega) p0]
      exact ⟨p0, p1, p2, fun hF => p3 (Full_app hI.g p0 (by omega) hF)⟩
    · obtain rfl : j = (n : Int) := by omega
      rw [← hpl, rdI_new, hpl, ht]
      have hself : ∀ v : Int, v = (n : Int) → (t.f0 = 3 → ¬ ∃ e, addE s.1 s.2 t.f3 = [e] ∧ e.f3 = 0 ∧ e.f1 = (rd_T34 s.1 e.f2).f1) → 0 ≤ v ∧ v ≤ (n : Int) ∧ (rd_T34 (s.1 ++ [newT s t]) v).f1 = t.f1 ∧ ¬ Full (s.1 ++ [newT s t]) v := by
        intro v hv hno
        subst hv
        rw [hnew]
        refine ⟨by omega, Int.le_refl _, hT.1, fun hF => ?_⟩
        unfold Full at hF
        rw [hnew, hT.2] at hF
        obtain ⟨hf, e, he, e3, e1⟩ := hF
        have he' : addE s.1 s.2 t.f3 = [e] := by
          unfold newT at he
          rw [if_pos hf] at he
          exact he
        have hin := (hE hf).2.2 e (by rw [he']; simp)
        rw [rdT_app _ _ _ (by have := hin.1.2.1; omega) hin.1.1] at e1
        exact hno hf ⟨e, he', e3, e1⟩
      by_cases hf : t.f0 = 3
      · have hv : newP s t = atL s.1 (addE s.1 s.2 t.f3) := by unfold newP; rw [if_pos hf]
        rcases atL_cases s.1 (addE s.1 s.2 t.f3) with ⟨h1', h2'⟩ | ⟨e, he, e3, e1, h'⟩
        · exact hself _ (by rw [hv, h1', hml]) (fun _ => h2')
        · obtain ⟨p1, p2, p3⟩ := hE hf
          have hin := p3 e (by rw [he]; simp)
          rw [he] at p1
          have hsz1 : 0 + e.f1 = t.f1 := p1.2.2
          have hb := hin.1.2.1
          rw [hv, h', rdT_app _ _ _ (by omega) hin.1.1]
          refine ⟨hin.1.1, by omega, by omega, fun hF => ?_⟩
          have := Full_app hI.g hin.1.1 (by omega) hF
          exact hin.2 this.1
      · exact hself _ (by unfold newP; rw [if_neg hf, hml]) (fun h => absurd h hf)
  · refine ⟨by omega, fun i hi => ?_, fun p => Nat.le_trans (hI.g.l3 p) (by omega), fun p j hj => hI.g.ex p j hj, by omega, fun i hi => ?_, fun hf => ?_, fun hf => (ho hf).1⟩
    · by_cases hf : t.f0 = 3
      · rw [(hc hf).2.1] at hi
        cases hi
      · rw [hpl]
        exact (ho hf).2 i hi
    · by_cases hf : t.f0 = 3
      · obtain ⟨⟨e1, e2, _⟩, _⟩ := hc hf
        rw [ht] at e1 e2
        have hm := rd_mem _ i hi
        have h1 := tile_mem _ _ _ e1 _ hm
        obtain ⟨a0, a1, a2, a3, a4⟩ := e2 _ hm
        have h3 := hz _ a0 a1
        obtain ⟨p0, p1, p2, p3⟩ := hI.pl _ a0 a1
        refine ⟨?_, a0, by omega, p0, by omega⟩
        unfold exOk
        omega
      · rw [(ho hf).1] at hi
        cases hi
    · obtain ⟨p1, p2, p3⟩ := hE hf
      refine ⟨?_, fun e he => ?_⟩
      · rcases Nat.eq_zero_or_pos (addE s.1 s.2 t.f3).length with h | h
        · rw [List.length_eq_zero_iff.1 h] at p1
          have : (0 : Int) = t.f1 := p1
          omega
        · exact h
      · have := (p3 e he).1
        exact ⟨this.1, by have := this.2.1; omega⟩
theorem Inv.zero (L0 : List S34) : Inv L0 0 ([], []) := ⟨rfl, rfl, fun k h0 h1 => by simp at h1; omega, fun j h0 h1 => by omega⟩
/-- A plan that is right, of few kids and extents each. -/
def Pk (L : List S34) (root : Int) : Prop := L.length ≤ 1000 ∧ (∀ p : Int, 0 ≤ p → p < (L.length : Int) → (rd_T34 L p).f3.length ≤ 60 ∧ (rd_T34 L p).f4.length ≤ 60) ∧ RtOk L root
theorem Pk.of {L : List S34} {root : Int} (h : BdOk L root) : Pk L root := ⟨by have := h.1; omega, h.2⟩
theorem Inv.all {L0 : List S34} {root : Int} (hb : Pk L0 root) : ∀ n : Nat, n ≤ L0.length → Inv L0 n (opt1 (L0.take n))
  | 0, _ => Inv.zero L0
  | n + 1, h => by
    obtain ⟨_, hl, hr⟩ := id hb
    rw [opt1_snoc L0 n h]
    exact ((Inv.all hb n (by omega)).step (by omega) (hr.2.2.2 _ (by omega) (by omega)) (hl _ (by omega) (by omega)).1 (hl _ (by omega) (by omega)).2 (fun p p0 p1 => (hr.2.2.2 p p0 (by omega)).1)).1
theorem planOk {L0 : List S34} {root : Int} (hb : Pk L0 root) : PlanOk L0 root := by
  have hall := Inv.all hb L0.length (Nat.le_refl _)
  rw [List.take_length] at hall
  obtain ⟨h60, hl, hr⟩ := id hb
  have hp := hall.pl root hr.2.1 hr.2.2.1
  refine ⟨by omega, hr.2.1, hr.2.2.1, fun i hi => ?_, hall.g.down, hp.1, by have := hr.2.2.1; omega, fun p => Nat.le_trans (hall.g.l4 p) (by omega), fun p => Nat.le_trans (hall.g.l3 p) (by omega)⟩
  exact ((Inv.all hb i (by omega)).step hi (hr.2.2.2 _ (by omega) (by omega)) (hl _ (by omega) (by omega)).1 (hl _ (by omega) (by omega)).2 (fun p p0 p1 => (hr.2.2.2 p p0 (by omega)).1)).2
end Go.Proofs.Ytneglmnffdmbiaa.P
