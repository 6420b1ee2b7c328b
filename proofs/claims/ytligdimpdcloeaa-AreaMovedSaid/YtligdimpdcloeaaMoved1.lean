import Derived.Test.YtligdimpdcloeaaOverlap3
namespace Go.Proofs.Ytligdimpdcloeaa.P
open Go.RowKit Go.Proofs.YtligdimpdcloeaaW.PrintWords Go.Proofs.YtligdimpdcloeaaW.PrintLast Go.Proofs.YtligdimpdcloeaaW.PrintMore
set_option linter.unusedVariables false
set_option linter.unusedSimpArgs false

def E3 (p : R3) (cs : List Value) : Prop := cs = [.int .i64 p.1, .int .i64 p.2.1, .int .i64 p.2.2]
theorem add_zero (a : Addr) : a.add 0 = a := by unfold Addr.add; simp
/-- area.Overlap of a row of one's own. -/
theorem overlap_own {base : Nat} {v : Value} {ps : List R3} (hl : ps.length ≤ 100000) (w : World) (h : OwnRow E3 33 3 w base v ps) :
    Calls Try.prog 15 #[v] w fun e w' => e = .returned (ovR (ovJ ps (ps.length + 1) 0)) ∧ Below w.heap.size w w' := by
  obtain ⟨A, c, rfl, hlc, h1, h2, h3⟩ := h.reads
  have nil : ps.length = 0 → Reads3 w (A.getD ⟨0, 0, none⟩) ps := fun h0 i hi => by omega
  by_cases h0 : 0 < ps.length
  · obtain ⟨ad, rfl, hc⟩ := h3 h0
    refine overlap_calls ad c ps hl hlc w ?_
    intro i hi
    obtain ⟨cs, _, hE, hcell⟩ := hc i _ (List.getElem?_eq_getElem hi)
    unfold E3 at hE
    subst hE
    have hg : ps.getD i (0, 0, 0) = ps[i] := by simp [List.getD, hi]
    rw [hg]
    have c0 := hcell 0 _ rfl
    have c1 := hcell 1 _ rfl
    have c2 := hcell 2 _ rfl
    rw [add_field _ _ _ (by decide)] at c1 c2
    exact ⟨by simpa using c0, c1, c2⟩
  · have hps : ps = [] := List.length_eq_zero_iff.1 (by omega)
    subst hps
    cases A with
    | some ad => exact overlap_calls ad c [] (by decide) hlc w (fun i hi => absurd hi (Nat.not_lt_zero _))
    | none =>
      obtain ⟨inner, ho, _⟩ := h
      rcases ho.2 with ⟨hv, _⟩ | ⟨g, cap, cur, hv, _⟩
      · injection hv with _ _ hcc
        subst hcc
        exact overlap_nil w
      · injection hv with hA
        cases hA

/-! the plain law: where they lie does not matter -/
def mvR (b : Int) (r : R3) : R3 := (3 * r.1 + 1, r.2.1 + b, r.2.2)
def okM (r : R3) : Prop := 0 ≤ r.2.1 ∧ r.2.1 ≤ 1048576 ∧ r.2.2 ≤ 1048576 ∧ -1099511627776 ≤ r.1 ∧ r.1 ≤ 1099511627776
theorem okR_mv {b : Int} (hb : 0 ≤ b ∧ b < 1000) {r : R3} (h : okM r) : okR (mvR b r).2.1 (mvR b r).2.2 = okR r.2.1 r.2.2 := by
  unfold okM at h
  unfold okR okF mvR
  rw [Bool.eq_iff_iff]
  simp only [Bool.and_eq_true, decide_eq_true_eq]
  omega
theorem share3_mv {b : Int} (hb : 0 ≤ b ∧ b < 1000) {p q : R3} (hp : okM p) (hq : okM q) : share3 (mvR b p) (mvR b q) = share3 p q := by
  unfold share3 shareB
  rw [okR_mv hb hp, okR_mv hb hq]
  congr 1
  · congr 1
    rw [decide_eq_decide]
    unfold mvR
    simp only
    omega
  · rw [decide_eq_decide]
    unfold mvR
    simp only
    omega
theorem getD_map (f : R3 → R3) (l : List R3) (i : Nat) (hi : i < l.length) : (l.map f).getD i (0, 0, 0) = f (l.getD i (0, 0, 0)) := by
  simp [List.getD, hi]
theorem ovI_mv {b : Int} (hb : 0 ≤ b ∧ b < 1000) (l : List R3) (hl : ∀ i, i < l.length → okM (l.getD i (0, 0, 0))) (j : Nat) (hj : j < l.length) : ∀ f i, ovI (l.map (mvR b)) j f i = ovI l j f i
  | 0, _ => rfl
  | f + 1, i => by
    unfold ovI
    by_cases hij : i < j
    · rw [if_pos hij, if_pos hij, getD_map _ _ _ (by omega), getD_map _ _ _ hj, share3_mv hb (hl i (by omega)) (hl j hj), ovI_mv hb l hl j hj f (i + 1)]
    · rw [if_neg hij, if_neg hij]
theorem ovJ_mv {b : Int} (hb : 0 ≤ b ∧ b < 1000) (l : List R3) (hl : ∀ i, i < l.length → okM (l.getD i (0, 0, 0))) : ∀ f j, ovJ (l.map (mvR b)) f j = ovJ l f j
  | 0, _ => rfl
  | f + 1, j => by
    unfold ovJ
    rw [List.length_map]
    by_cases hj : j < l.length
    · rw [if_pos hj, if_pos hj, ovI_mv hb l hl j hj]
      cases ovI l j (j + 1) 0 with
      | some i => rfl
      | none => exact ovJ_mv hb l hl f (j + 1)
    · rw [if_neg hj, if_neg hj]
theorem ovI_lt (l : List R3) (j : Nat) : ∀ f i r, ovI l j f i = some r → r < j
  | 0, _, _, h => by cases h
  | f + 1, i, r, h => by
    unfold ovI at h
    by_cases hij : i < j
    · rw [if_pos hij] at h
      by_cases hs : share3 (l.getD i (0, 0, 0)) (l.getD j (0, 0, 0)) = true
      · rw [if_pos hs] at h
        injection h with h
        omega
      · rw [if_neg hs] at h
        exact ovI_lt l j f (i + 1) r h
    · rw [if_neg hij] at h
      cases h
theorem ovJ_lt (l : List R3) : ∀ f j p q, ovJ l f j = some (p, q) → p < q ∧ q < l.length
  | 0, _, _, _, h => by cases h
  | f + 1, j, p, q, h => by
    unfold ovJ at h
    by_cases hj : j < l.length
    · rw [if_pos hj] at h
      cases hi : ovI l j (j + 1) 0 with
      | some i =>
        rw [hi] at h
        injection h with h
        injection h with h1 h2
        subst h1 h2
        exact ⟨ovI_lt l j _ _ _ hi, hj⟩
      | none =>
        rw [hi] at h
        exact ovJ_lt l f (j + 1) p q h
    · rw [if_neg hj] at h
      cases h
end Go.Proofs.Ytligdimpdcloeaa.P
