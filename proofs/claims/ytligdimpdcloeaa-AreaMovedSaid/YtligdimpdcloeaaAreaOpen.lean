/- Proved here: an argument that is a row of ranges: its cells, its numbers. -/
import Derived.Test.YtligdimpdcloeaaOverlap2
import Derived.Deep.Slices
import Derived.OpenShut
namespace Go.Proofs.Ytligdimpdcloeaa.P
open Go.RowKit Go.Deep
set_option linter.unusedVariables false
set_option linter.unusedSimpArgs false

theorem cells3 : Try.prog.cellsOf 33 = 3 := by kernel_rfl
theorem cells1 : Try.prog.cellsOf 3 = 1 := by kernel_rfl
def okR3 (a : R3) : Prop := (Lit.int .i64 a.1).wf = true ∧ (Lit.int .i64 a.2.1).wf = true ∧ (Lit.int .i64 a.2.2).wf = true
theorem add_pos (a : Addr) (j : Nat) (hj : j ≠ 0) : a.add j = ⟨a.block, a.off + j, none⟩ := by unfold Addr.add; simp [hj]
theorem open_r3 {H : Type} {enc : TypeId × Value → H} {w : World} {v : Value} {d : DataW H} {ps : List MemPlace} (h : DataW.Trod enc Try.prog w 0 (fun _ => true) true 27 v d ps) (hs : ∃ A n c, v = .slice A n c) :
    v = .slice none 0 0 ∨ ∃ (a : Addr) (c : Nat) (l : List R3), v = .slice (some a) l.length c ∧ l.length ≤ c ∧ c ≤ 9223372036854775807 ∧ Reads3 w a l ∧ ∀ i, i < l.length → okR3 (l.getD i (0, 0, 0)) := by
  obtain ⟨n, hn⟩ := h
  obtain ⟨A0, n0, c0, rfl⟩ := hs
  rcases open_slice Try.underlying27 hn with ⟨hv, _⟩ | ⟨a, len, cap, m, n, D, Pl, hv, hb, hl, hm, hmm, _, hx⟩
  · left
    simpa [Value.cells] using hv
  · right
    simp only [if_true] at hmm
    have each : ∀ i, i < len → ∃ q : R3, (w.cell? (a.add (i * 3)) = some (.int .i64 q.1) ∧ w.cell? ⟨(a.add (i * 3)).block, (a.add (i * 3)).off + 1, none⟩ = some (.int .i64 q.2.1) ∧ w.cell? ⟨(a.add (i * 3)).block, (a.add (i * 3)).off + 2, none⟩ = some (.int .i64 q.2.2)) ∧ okR3 q := by
      intro i hi
      obtain ⟨cs', h1, h2⟩ := hx i (by omega)
      rw [cells3] at h1
      obtain ⟨_, hlen, hcell⟩ := World.cells?_some h1
      obtain ⟨xs, k, hk, hxy, _, hxl, hf⟩ := DataW.trod_array Try.underlying33 h2
      match cs', hlen with
      | [v0, v1, v2], _ =>
        have g0 := hf 0 (by omega)
        have g1 := hf 1 (by omega)
        have g2 := hf 2 (by omega)
        rw [cells1] at g0 g1 g2
        have hx0 : xs[0]? = some (xs[0]'(by omega)) := List.getElem?_eq_getElem _
        have hx1 : xs[1]? = some (xs[1]'(by omega)) := List.getElem?_eq_getElem _
        have hx2 : xs[2]? = some (xs[2]'(by omega)) := List.getElem?_eq_getElem _
        rw [hx0] at g0
        rw [hx1] at g1
        rw [hx2] at g2
        obtain ⟨n0, e0, _, w0⟩ := DataW.trod_int Try.underlying3 g0
        obtain ⟨n1, e1, _, w1⟩ := DataW.trod_int Try.underlying3 g1
        obtain ⟨n2, e2, _, w2⟩ := DataW.trod_int Try.underlying3 g2
        have f0 : v0 = .int .i64 n0 := by simpa using e0
        have f1 : v1 = .int .i64 n1 := by simpa using e1
        have f2 : v2 = .int .i64 n2 := by simpa using e2
        subst f0 f1 f2
        have c0 := hcell 0 (by omega)
        have c1 := hcell 1 (by omega)
        have c2 := hcell 2 (by omega)
        rw [add_pos _ _ (by decide)] at c1 c2
        exact ⟨(n0, n1, n2), ⟨by simpa [Addr.add] using c0, by simpa using c1, by simpa using c2⟩, w0, w1, w2⟩
    obtain ⟨q, hq⟩ := choose_lt each
    refine ⟨a, cap, (List.range len).map q, ?_, by rw [List.length_map, List.length_range]; exact hl, by simpa [maxLen] using hm, ?_, ?_⟩
    · rw [List.length_map, List.length_range]
      simpa [Value.cells] using hv
    · intro i hi
      rw [List.length_map, List.length_range] at hi
      have : ((List.range len).map q).getD i (0, 0, 0) = q i := by simp [List.getD, hi]
      rw [this]
      exact (hq i hi).1
    · intro i hi
      rw [List.length_map, List.length_range] at hi
      have : ((List.range len).map q).getD i (0, 0, 0) = q i := by simp [List.getD, hi]
      rw [this]
      exact (hq i hi).2
theorem Reads3.take {w : World} {A : Addr} {l : List R3} (h : Reads3 w A l) (n : Nat) : Reads3 w A (l.take n) := by
  intro i hi
  rw [List.length_take] at hi
  have : (l.take n).getD i (0, 0, 0) = l.getD i (0, 0, 0) := by
    simp only [List.getD]
    rw [List.getElem?_take, if_pos (by omega)]
  rw [this]
  exact h i (by omega)
end Go.Proofs.Ytligdimpdcloeaa.P
