/- Nothing is wasted: data and the rest together fit; with one data sector more they would not; at every number. -/
import Derived.Test.YtocclfjddihmbaaPcofferdamlaw12AreaBest
import Derived.Test.YtocclfjddihmbaaAreaPure
namespace Go.Proofs.Ytocclfjddihmbaa.Pure
open Go.RowKit Go.Proofs.Ytocclfjddihmbaa.P Go.Proofs.YtocclfjddihmbaaW.PrintWords Go.Proofs.YtocclfjddihmbaaW.PrintLast
set_option linter.unusedVariables false
set_option linter.unusedSimpArgs false

theorem w64 {x : Int} (h : -9223372036854775808 ≤ x) (h2 : x ≤ 9223372036854775807) : wrap64 x = x := by unfold wrap64; omega
theorem rd_lev (l : List (Nat × Nat)) (i : Nat) (h : i < l.length) : rd (l.map (fun x => ((x.2 : Nat) : Int))) (i : Int) = ((l[i].2 : Nat) : Int) := by
  unfold rd
  rw [Int.toNat_natCast, List.getD_eq_getElem?_getD, List.getElem?_map, List.getElem?_eq_getElem h]
  rfl
theorem best_l1 (l : List (Nat × Nat)) (hl : l.length ≤ 100000) (hs : (l.map (fun x => x.2)).sum ≤ 1000000) (x0 x5 x6 x7 : Int) (K : Nat) : ∀ (d i k s : Nat), l.length - i ≤ d → i ≤ l.length → K + d < k → s + ((l.drop i).map (fun x => x.2)).sum = (l.map (fun x => x.2)).sum →
    ∃ k', K ≤ k' ∧ cofferdamlaw12_AreaBest.l1 k x0 x5 x6 x7 s (l.map (fun x => ((x.2 : Nat) : Int))) i = cofferdamlaw12_AreaBest.l1 (k' + 1) x0 x5 x6 x7 (((l.map (fun x => x.2)).sum : Nat) : Int) (l.map (fun x => ((x.2 : Nat) : Int))) (l.length : Int) := by
  intro d
  induction d with
  | zero =>
    intro i k s hd hi hk hsum
    obtain rfl : i = l.length := by omega
    rw [List.drop_length] at hsum
    refine ⟨k - 1, by omega, ?_⟩
    rw [← hsum, show k - 1 + 1 = k by omega]
    rfl
  | succ d ih =>
    intro i k s hd hi hk hsum
    by_cases hlt : i < l.length
    · obtain ⟨k, rfl⟩ : ∃ m, k = m + 1 := ⟨k - 1, by omega⟩
      have hx := sum_drop l i hlt
      have c2 : ((i : Nat) : Int) < ((l.map (fun x => ((x.2 : Nat) : Int))).length : Int) := by rw [List.length_map]; omega
      have c3 : s + l[i].2 ≤ 1000000 := by omega
      obtain ⟨k', e1, e2⟩ := ih (i + 1) k (s + l[i].2) (by omega) (by omega) (by omega) (by omega)
      refine ⟨k', e1, ?_⟩
      rw [← e2, cofferdamlaw12_AreaBest.l1, if_pos c2, if_pos (Int.natCast_nonneg _), rd_lev l i hlt]
      rw [w64 (by omega) (by omega), w64 (x := (i : Int) + 1) (by omega) (by omega)]
      rfl
    · obtain rfl : i = l.length := by omega
      rw [List.drop_length] at hsum
      refine ⟨k - 1, by omega, ?_⟩
      rw [← hsum, show k - 1 + 1 = k by omega]
      rfl
theorem best_l0 (l : List (Nat × Nat)) (hl : l.length ≤ 100000) (hs : (l.map (fun x => x.2)).sum ≤ 1000000) (x0 x5 x6 : Int) (K : Nat) : ∀ (d i k s : Nat), l.length - i ≤ d → i ≤ l.length → K + d < k → s + ((l.drop i).map (fun x => x.2)).sum = (l.map (fun x => x.2)).sum →
    ∃ k', K ≤ k' ∧ cofferdamlaw12_AreaBest.l0 k x0 x5 x6 s (l.map (fun x => ((x.2 : Nat) : Int))) i = cofferdamlaw12_AreaBest.l0 (k' + 1) x0 x5 x6 (((l.map (fun x => x.2)).sum : Nat) : Int) (l.map (fun x => ((x.2 : Nat) : Int))) (l.length : Int) := by
  intro d
  induction d with
  | zero =>
    intro i k s hd hi hk hsum
    obtain rfl : i = l.length := by omega
    rw [List.drop_length] at hsum
    refine ⟨k - 1, by omega, ?_⟩
    rw [← hsum, show k - 1 + 1 = k by omega]
    rfl
  | succ d ih =>
    intro i k s hd hi hk hsum
    by_cases hlt : i < l.length
    · obtain ⟨k, rfl⟩ : ∃ m, k = m + 1 := ⟨k - 1, by omega⟩
      have hx := sum_drop l i hlt
      have c2 : ((i : Nat) : Int) < ((l.map (fun x => ((x.2 : Nat) : Int))).length : Int) := by rw [List.length_map]; omega
      have c3 : s + l[i].2 ≤ 1000000 := by omega
      obtain ⟨k', e1, e2⟩ := ih (i + 1) k (s + l[i].2) (by omega) (by omega) (by omega) (by omega)
      refine ⟨k', e1, ?_⟩
      rw [← e2, cofferdamlaw12_AreaBest.l0, if_pos c2, if_pos (Int.natCast_nonneg _), rd_lev l i hlt]
      rw [w64 (by omega) (by omega), w64 (x := (i : Int) + 1) (by omega) (by omega)]
      rfl
    · obtain rfl : i = l.length := by omega
      rw [List.drop_length] at hsum
      refine ⟨k - 1, by omega, ?_⟩
      rw [← hsum, show k - 1 + 1 = k by omega]
      rfl
theorem best_end (n D H M k : Nat) (hn : n ≤ 8192) (hD : D ≤ 2048) (hH : H ≤ 10000) (hM : M ≤ 10000) (l : List Int) (h1 : D + H ≤ n) (h2 : D = 2048 ∨ n < D + 1 + M) :
    cofferdamlaw12_AreaBest.l1 (k + 1) n D H H M l l.length = some true := by
  have c1 : ¬ (l.length : Int) < (l.length : Int) := by omega
  have c2 : (D : Int) ≥ 0 := by omega
  have c3 : (D : Int) + (H : Int) ≤ (n : Int) := by omega
  have c4 : wrap64 ((D : Int) + (H : Int)) = (D : Int) + (H : Int) := w64 (by omega) (by omega)
  have c5 : wrap64 ((D : Int) + 1) = (D : Int) + 1 := w64 (by omega) (by omega)
  have c6 : wrap64 ((D : Int) + 1 + (M : Int)) = (D : Int) + 1 + (M : Int) := w64 (by omega) (by omega)
  rw [cofferdamlaw12_AreaBest.l1, if_neg c1]
  unfold cofferdamlaw12_alive.f
  rw [Option.bind_some, if_pos rfl, if_pos c2, if_pos rfl, c4, if_pos c3, c5, c6]
  clear c4 c5 c6
  by_cases h : (D : Int) = 2048
  · rw [if_pos h]
  · rw [if_neg h, decide_eq_true (by omega)]
theorem best_mid (n D H S k : Nat) (l : List (Nat × Nat)) (hD : D ≤ 2048) :
    cofferdamlaw12_AreaBest.l0 (k + 1) n D H S (l.map (fun x => ((x.2 : Nat) : Int))) (l.length : Int) = cofferdamlaw12_AreaBest.l1 k n D H S 0 ((levZ ((D : Int) + 1)).map (fun x => ((x.2 : Nat) : Int))) 0 := by
  have c1 : ¬ (l.length : Int) < ((l.map (fun x => ((x.2 : Nat) : Int))).length : Int) := by rw [List.length_map]; omega
  rw [cofferdamlaw12_AreaBest.l0, if_neg c1, w64 (by omega) (by omega)]
  unfold merkle_Levels.f
  rw [Option.bind_some]
theorem levSum (a : Nat) : ((levZ (a : Int)).map (fun x => x.2)).sum = hashN a := rfl
theorem verity_at (n D : Nat) (hn : n ≤ 8192) (hD : bestF hashN 2048 n = D) : area_Verity.f n = some ((D : Int), ((hashN D : Nat) : Int)) := by
  unfold area_Verity.f
  have c1 : ¬ ((n : Int) < 0 ∨ 8192 < (n : Int)) := by omega
  rw [if_neg c1, Int.toNat_natCast, hD]
  by_cases h : D = 0
  · rw [if_pos h, h]; rfl
  · rw [if_neg h]
theorem best_j1 (n D H M K : Nat) (hn : n ≤ 8192) (hK : 10000 ≤ K) (hD : D ≤ 2048) (hV : area_Verity.f n = some ((D : Int), (H : Int))) (hH : ((levZ (D : Int)).map (fun x => x.2)).sum = H) (hM : ((levZ ((D : Int) + 1)).map (fun x => x.2)).sum = M)
    (bH : H ≤ 10000) (bM : M ≤ 10000) (h1 : D + H ≤ n) (h2 : D = 2048 ∨ n < D + 1 + M) : cofferdamlaw12_AreaBest.j1 (K + 1) n false = some true := by
  have l1 := levZ_len (D : Int)
  have l2 := levZ_len ((D : Int) + 1)
  obtain ⟨k1, e1, f1⟩ := best_l0 (levZ (D : Int)) (by omega) (by omega) n D H 5000 (levZ (D : Int)).length 0 K 0 (by omega) (by omega) (by omega) (by simp)
  obtain ⟨k2, e2, f2⟩ := best_l1 (levZ ((D : Int) + 1)) (by omega) (by omega) n D H H 100 (levZ ((D : Int) + 1)).length 0 k1 0 (by omega) (by omega) (by omega) (by simp)
  simp only [Int.natCast_zero] at f1 f2
  rw [cofferdamlaw12_AreaBest.j1, if_neg (by decide), hV]
  simp only [Option.bind_some, merkle_Levels.f]
  rw [f1, hH, best_mid n D H H k1 _ hD, f2, hM]
  have := best_end n D H M k2 hn hD bH bM ((levZ ((D : Int) + 1)).map (fun x => ((x.2 : Nat) : Int))) h1 h2
  rw [List.length_map] at this
  exact this
theorem integ_at (n D : Nat) (hn : n ≤ 8192) (hD : bestF (fun d => (d + 3) / 4) 8192 n = D) : area_Integrity.f n = some ((D : Int), (((D + 3) / 4 : Nat) : Int)) := by
  unfold area_Integrity.f
  have c1 : ¬ ((n : Int) < 0 ∨ 8192 < (n : Int)) := by omega
  rw [if_neg c1, Int.toNat_natCast, hD]
theorem wadd3 (a : Nat) (h : a ≤ 1000000) : wrap64 ((a : Int) + 3) = ((a + 3 : Nat) : Int) := by unfold wrap64; omega
theorem wadd4 (a : Nat) (h : a ≤ 1000000) : wrap64 ((a : Int) + 4) = ((a + 4 : Nat) : Int) := by unfold wrap64; omega
theorem wadd1 (a : Nat) (h : a ≤ 1000000) : wrap64 ((a : Int) + 1) = ((a + 1 : Nat) : Int) := by unfold wrap64; omega
theorem waddN (a b : Nat) (h : a + b ≤ 1000000) : wrap64 ((a : Int) + (b : Int)) = ((a + b : Nat) : Int) := by unfold wrap64; omega
theorem wone (a : Nat) (h : a ≤ 1000000) : wrap64 (a : Int) = (a : Int) := by unfold wrap64; omega
theorem best_j0 (n D K : Nat) (x0 : Int) (hx : Int.tmod x0 8193 = (n : Int)) (hn : n ≤ 8192) (hI : area_Integrity.f n = some ((D : Int), (((D + 3) / 4 : Nat) : Int))) (h1 : D + (D + 3) / 4 ≤ n) (h2 : n < D + 1 + (D + 1 + 3) / 4)
    (hj : cofferdamlaw12_AreaBest.j1 K n false = some true) : cofferdamlaw12_AreaBest.j0 (K + 1) x0 = some true := by
  have bD : D ≤ 8192 := by clear hj hI hx; omega
  have c1 : ¬ (D : Int) < 0 := by clear hj hI hx; omega
  have d1 : ¬ ((D + (D + 3) / 4 : Nat) : Int) > (n : Int) := by clear hj hI hx; omega
  have d2 : ¬ ((D + 1 + (D + 4) / 4 : Nat) : Int) ≤ (n : Int) := by clear hj hI hx; omega
  clear h1 h2
  have c2 := wadd3 D (by clear hj hI hx; omega)
  have c3 := wone ((D + 3) / 4) (by clear hj hI hx c2; omega)
  have c4 := waddN D ((D + 3) / 4) (by clear hj hI hx c2 c3; omega)
  have c5 := wadd4 D (by clear hj hI hx c2 c3 c4; omega)
  have c6 := wone ((D + 4) / 4) (by clear hj hI hx c2 c3 c4 c5; omega)
  have c7 := wadd1 D (by clear hj hI hx c2 c3 c4 c5 c6; omega)
  have c8 := waddN (D + 1) ((D + 4) / 4) (by clear hj hI hx c2 c3 c4 c5 c6 c7; omega)
  have t1 : Int.tdiv ((D + 3 : Nat) : Int) 4 = (((D + 3) / 4 : Nat) : Int) := rfl
  have t2 : Int.tdiv ((D + 4 : Nat) : Int) 4 = (((D + 4) / 4 : Nat) : Int) := rfl
  rw [cofferdamlaw12_AreaBest.j0, hx, hI, Option.bind_some]
  dsimp only
  rw [if_neg c1, c2, t1, c3, if_pos rfl, c4, if_neg d1, c7, c5, t2, c6, c8, decide_eq_false d2]
  exact hj
theorem best_x0 (n : Nat) (x0 : Int) (hx : Int.tmod x0 8193 = (n : Int)) (hn : n ≤ 8192) : cofferdamlaw12_AreaBest.j0 20000 x0 = some true := by
  have hi := integ_spec n
  have hv := verity_spec n
  have hI := integ_at n _ hn rfl
  have hV := verity_at n _ hn rfl
  generalize bestF (fun d => (d + 3) / 4) 8192 n = D at *
  generalize bestF hashN 2048 n = E at *
  have b1 := hashN_le E
  have b2 := hashN_le (E + 1)
  have hH := levSum E
  have hM := levSum (E + 1)
  have h0 : hashN 0 = 0 := rfl
  have hE : E + hashN E ≤ n := by
    rcases hv.2.1 with h | h
    · rw [h, h0]; omega
    · exact h
  generalize hashN (E + 1) = M at *
  generalize hashN E = H at *
  have hM' : ((levZ ((E : Int) + 1)).map (fun x => x.2)).sum = M := by rw [← hM]; congr 2
  refine best_j0 n D 19999 x0 hx hn hI (by omega) (by omega) (best_j1 n E H M 19998 hn (by omega) (by omega) hV hH hM' (by omega) (by omega) hE (by omega))
theorem AreaBest : cofferdamlaw12_AreaBest.Pure := by
  intro a ha
  have hr : -9223372036854775808 ≤ a ∧ a ≤ 9223372036854775807 := by
    simp only [Lit.wf, Bool.and_eq_true, decide_eq_true_eq] at ha
    have h2 : IntKind.i64.min ≤ a ∧ a ≤ 9223372036854775807 := by simpa using ha
    have h3 : IntKind.i64.min = -9223372036854775808 := by decide
    rw [h3] at h2
    exact h2
  refine ⟨20000, ?_⟩
  unfold cofferdamlaw12_AreaBest.f
  have key : ∀ x0 : Int, 0 ≤ x0 → cofferdamlaw12_AreaBest.j0 20000 x0 = some true := fun x0 h0 => by
    obtain ⟨m, rfl⟩ : ∃ m : Nat, x0 = m := ⟨x0.toNat, by omega⟩
    exact best_x0 (m % 8193) m rfl (by omega)
  by_cases h : a < 0
  · rw [if_pos h, w64 (x := a + 1) (by omega) (by omega), w64 (x := -(a + 1)) (by omega) (by omega)]
    exact key _ (by omega)
  · rw [if_neg h]
    exact key _ (by omega)
end Go.Proofs.Ytocclfjddihmbaa.Pure
