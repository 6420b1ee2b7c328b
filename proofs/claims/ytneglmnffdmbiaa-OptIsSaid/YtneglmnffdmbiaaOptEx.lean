import Derived.Test.YtneglmnffdmbiaaPcofferdamref12Integrity
import Derived.Test.YtneglmnffdmbiaaPcofferdamref12Verity
import Derived.Test.YtneglmnffdmbiaaPcofferdamref12Store
import Derived.Test.YtneglmnffdmbiaaPcofferdamref15kids
import Derived.Test.YtneglmnffdmbiaaPcofferdamref15extents
namespace Go.Proofs.Ytneglmnffdmbiaa.P
open Go.RowKit Go.Proofs.YtneglmnffdmbiaaW.PrintWords Go.Proofs.YtneglmnffdmbiaaW.PrintLast Go.Proofs.YtneglmnffdmbiaaW.PrintMore
set_option linter.unusedVariables false
set_option linter.unusedSimpArgs false

/-! that the reference's functions answer, and what a 'yes' of them says -/
theorem integ_l0 (n : Int) (hn : n ≤ 8192) : ∀ (m : Nat) (d : Int) (k : Nat), 0 ≤ d → d ≤ 8193 → (8193 - d).toNat ≤ m → m < k → ∃ r, cofferdamref12_Integrity.l0 k n d = some r
  | m, d, 0, _, _, _, h => absurd h (Nat.not_lt_zero _)
  | m, d, k + 1, h0, h1, h2, h3 => by
    rw [cofferdamref12_Integrity.l0]
    split
    · rename_i hc
      have e1 : wrap64 (d + 1) = d + 1 := by unfold wrap64; omega
      have e2 : wrap64 (d + 4) = d + 4 := by unfold wrap64; omega
      have e3 : 0 ≤ Int.tdiv (d + 4) 4 ∧ Int.tdiv (d + 4) 4 ≤ 3000 := by rw [Int.tdiv_eq_ediv_of_nonneg (by omega)]; omega
      have e4 : wrap64 (Int.tdiv (d + 4) 4) = Int.tdiv (d + 4) 4 := by unfold wrap64; omega
      have e5 : wrap64 (d + 1 + Int.tdiv (d + 4) 4) = d + 1 + Int.tdiv (d + 4) 4 := by unfold wrap64; omega
      rw [e1, e2, e4, e5] at hc
      rw [e1]
      exact integ_l0 n hn (m - 1) (d + 1) k (by omega) (by omega) (by omega) (by omega)
    · exact ⟨_, rfl⟩
theorem integ_some (n : Int) : ∃ r, cofferdamref12_Integrity.f 30000 n = some r := by
  unfold cofferdamref12_Integrity.f
  have key : ∀ b : Bool, (b = false → n ≤ 8192) → ∃ r, cofferdamref12_Integrity.j0 30000 n b = some r := by
    intro b hb
    rw [show (30000 : Nat) = 29999 + 1 from rfl, cofferdamref12_Integrity.j0]
    cases b with
    | true => exact ⟨_, if_pos rfl⟩
    | false =>
      rw [if_neg (by decide)]
      exact integ_l0 n (hb rfl) 8193 0 _ (by omega) (by omega) (by omega) (by omega)
  split
  · exact key _ (fun h => by cases h)
  · exact key _ (fun h => by have := of_decide_eq_false h; omega)
theorem lev_l0 : ∀ (m : Nat) (x : Int) (acc : List Int) (k : Nat), 1 ≤ x → x.toNat ≤ m → acc.length + m ≤ 10000 → acc ≠ [] → m < k → ∃ r, cofferdamref06_Levels.l0 k x acc = some r ∧ r.length ≤ 10000
  | m, x, acc, 0, _, _, _, _, h => absurd h (Nat.not_lt_zero _)
  | m, x, acc, k + 1, h0, h1, h2, h4, h3 => by
    have hl : (acc.length : Int) ≠ 0 := by
      intro e
      exact h4 (List.length_eq_zero_iff.1 (by omega))
    rw [cofferdamref06_Levels.l0]
    split
    · first | rw [if_neg hl] | skip
      exact ⟨_, rfl, by omega⟩
    · rename_i hx
      have e1 : wrap64 (x + 1) = x + 1 := by unfold wrap64; omega
      have e2 : Int.tdiv (x + 1) 2 = (x + 1) / 2 := Int.tdiv_eq_ediv_of_nonneg (by omega)
      have e3 : wrap64 ((x + 1) / 2) = (x + 1) / 2 := by unfold wrap64; omega
      rw [if_pos (by omega), e1, e2, e3]
      exact lev_l0 (m - 1) _ _ k (by omega) (by omega) (by rw [List.length_append, List.length_singleton]; omega) (by simp) (by omega)
theorem lev_some (n : Int) (k : Nat) (hk : 5000 ≤ k) : ∃ r, cofferdamref06_Levels.f k n = some r ∧ r.length ≤ 10000 := by
  obtain ⟨k, rfl⟩ : ∃ q, k = q + 2 := ⟨k - 2, by omega⟩
  unfold cofferdamref06_Levels.f
  have key : ∀ b : Bool, (b = false → 1 ≤ n ∧ n ≤ 2048) → ∃ r, cofferdamref06_Levels.j0 (k + 2) n b = some r ∧ r.length ≤ 10000 := by
    intro b hb
    rw [show k + 2 = (k + 1) + 1 from rfl, cofferdamref06_Levels.j0]
    cases b with
    | true => exact ⟨_, if_pos rfl, by simp⟩
    | false =>
      have hn := hb rfl
      rw [if_neg (by decide), cofferdamref06_Levels.l0]
      have e1 : wrap64 (n + 1) = n + 1 := by unfold wrap64; omega
      have e2 : Int.tdiv (n + 1) 2 = (n + 1) / 2 := Int.tdiv_eq_ediv_of_nonneg (by omega)
      have e3 : wrap64 ((n + 1) / 2) = (n + 1) / 2 := by unfold wrap64; omega
      rw [e1, e2, e3]
      have h := lev_l0 2048 ((n + 1) / 2) ([] ++ [(n + 1) / 2]) k (by omega) (by omega) (by simp) (by simp) (by omega)
      split
      · rw [if_pos (by simp), if_pos (by simp)]
        exact h
      · rw [if_pos (by simp)]
        exact h
  split
  · exact key _ (fun h => by cases h)
  · exact key _ (fun h => by have := of_decide_eq_false h; omega)
theorem hash_l0 (l : List Int) (hl : l.length ≤ 10000) : ∀ (m : Nat) (s i : Int) (k : Nat), 0 ≤ i → i ≤ l.length → ((l.length : Int) - i).toNat ≤ m → m < k → ∃ r, cofferdamref12_hashes.l0 k s l i = some r
  | m, s, i, 0, _, _, _, h => absurd h (Nat.not_lt_zero _)
  | m, s, i, k + 1, h0, h1, h2, h3 => by
    rw [cofferdamref12_hashes.l0]
    split
    · rename_i hc
      have e1 : wrap64 (i + 1) = i + 1 := by unfold wrap64; omega
      first | rw [if_pos h0, e1] | rw [e1]
      exact hash_l0 l hl (m - 1) _ (i + 1) k (by omega) (by omega) (by omega) (by omega)
    · exact ⟨_, rfl⟩
theorem hash_some (n : Int) (k : Nat) (hk : 20000 ≤ k) : ∃ r, cofferdamref12_hashes.f k n = some r := by
  obtain ⟨l, hl, hn⟩ := lev_some n k (by omega)
  unfold cofferdamref12_hashes.f
  rw [hl]
  exact hash_l0 l hn 10000 0 0 k (by omega) (by omega) (by omega) (by omega)
theorem ver_l0 (n : Int) : ∀ (m : Nat) (d : Int) (k : Nat), 0 ≤ d → d ≤ 2048 → (2048 - d).toNat ≤ m → m + 20001 ≤ k → ∃ r, cofferdamref12_Verity.l0 k n d = some r
  | m, d, 0, _, _, _, h => by omega
  | m, d, k + 1, h0, h1, h2, h3 => by
    rw [cofferdamref12_Verity.l0]
    obtain ⟨r0, hr0⟩ := hash_some d k (by omega)
    split
    · rename_i hc
      obtain ⟨r, hr⟩ := hash_some (wrap64 (d + 1)) k (by omega)
      rw [hr]
      have e1 : wrap64 (d + 1) = d + 1 := by unfold wrap64; omega
      simp only [Option.bind_some]
      split
      · rw [e1]
        exact ver_l0 n (m - 1) (d + 1) k (by omega) (by omega) (by omega) (by omega)
      · split
        · exact ⟨_, rfl⟩
        · rw [hr0]; exact ⟨_, rfl⟩
    · split
      · exact ⟨_, rfl⟩
      · rw [hr0]; exact ⟨_, rfl⟩
theorem ver_some (n : Int) : ∃ r, cofferdamref12_Verity.f 30000 n = some r := by
  unfold cofferdamref12_Verity.f
  have key : ∀ b : Bool, ∃ r, cofferdamref12_Verity.j0 30000 n b = some r := by
    intro b
    rw [show (30000 : Nat) = 29999 + 1 from rfl, cofferdamref12_Verity.j0]
    cases b with
    | true => exact ⟨_, if_pos rfl⟩
    | false =>
      rw [if_neg (by decide)]
      exact ver_l0 n 2048 0 _ (by omega) (by omega) (by omega) (by omega)
  split
  · exact key _
  · exact key _
theorem store_l0 (n c q t : Int) (hq : q ≤ 10000) : ∀ (m : Nat) (d : Int) (k : Nat), 0 ≤ d → (q - d).toNat ≤ m → m < k → ∃ r, cofferdamref12_Store.l0 k n c q t d = some r
  | m, d, 0, _, _, h => absurd h (Nat.not_lt_zero _)
  | m, d, k + 1, h0, h2, h3 => by
    rw [cofferdamref12_Store.l0]
    split
    · rename_i hc
      have e1 : wrap64 (d + 1) = d + 1 := by unfold wrap64; omega
      split
      · rw [e1]
        exact store_l0 n c q t hq (m - 1) (d + 1) k (by omega) (by omega) (by omega)
      · split <;> exact ⟨_, rfl⟩
    · split <;> exact ⟨_, rfl⟩
theorem store_some (n o c : Int) : ∃ r, cofferdamref12_Store.f 30000 n o c = some r := by
  unfold cofferdamref12_Store.f
  have key : ∀ b : Bool, (b = false → 1 ≤ o ∧ o ≤ 8192 ∧ 1 ≤ c ∧ c ≤ 16) → ∃ r, cofferdamref12_Store.j0 30000 n o c b = some r := by
    intro b hb
    rw [show (30000 : Nat) = 29999 + 1 from rfl, cofferdamref12_Store.j0]
    cases b with
    | true => exact ⟨_, if_pos rfl⟩
    | false =>
      obtain ⟨h1, h2, h3, h4⟩ := hb rfl
      rw [if_neg (by decide), if_neg (by omega)]
      have e1 : wrap64 (o + c) = o + c := by unfold wrap64; omega
      have e2 : wrap64 (o + c - 1) = o + c - 1 := by unfold wrap64; omega
      have e3 : 0 ≤ Int.tdiv (o + c - 1) c ∧ Int.tdiv (o + c - 1) c ≤ 10000 := by
        rw [Int.tdiv_eq_ediv_of_nonneg (by omega)]
        refine ⟨Int.ediv_nonneg (by omega) (by omega), ?_⟩
        exact Int.le_trans (Int.ediv_le_self _ (by omega)) (by omega)
      have e4 : wrap64 (Int.tdiv (o + c - 1) c) = Int.tdiv (o + c - 1) c := by unfold wrap64; omega
      rw [e1, e2, e4]
      exact store_l0 n c _ _ e3.2 10000 0 _ (by omega) (by omega) (by omega)
  split
  · exact key _ (fun h => by cases h)
  · split
    · exact key _ (fun h => by cases h)
    · split
      · exact key _ (fun h => by cases h)
      · split
        · exact key _ (fun h => by cases h)
        · split
          · exact key _ (fun h => by cases h)
          · exact key _ (fun h => by have := of_decide_eq_false h; omega)
/-- Each of a step's kids is a step ahead of it. -/
def KidsIn (ks : List Int) (i : Int) : Prop := ∀ q : Nat, q < ks.length → 0 ≤ rd ks (q : Int) ∧ rd ks (q : Int) < i
theorem kids_l0 (i : Int) (x0 x1 x2 : Int) (es : List S36) (ks : List Int) (x5 x6 x7 : Int) (l8 l9 : List Int) (hl : ks.length ≤ 100000) : ∀ (m : Nat) (j : Nat) (k : Nat), j ≤ ks.length → ks.length - j ≤ m → m < k →
    ∃ r, cofferdamref15_kids.l0 k i (j : Int) x0 x1 x2 es ks x5 x6 x7 l8 l9 = some r ∧ (r = true → ∀ q : Nat, j ≤ q → q < ks.length → 0 ≤ rd ks (q : Int) ∧ rd ks (q : Int) < i)
  | m, j, 0, _, _, h => absurd h (Nat.not_lt_zero _)
  | m, j, k + 1, h1, h2, h3 => by
    rw [cofferdamref15_kids.l0]
    split
    · rename_i hc
      rw [if_pos (by omega)]
      split
      · exact ⟨_, rfl, fun h => by cases h⟩
      · split
        · exact ⟨_, rfl, fun h => by cases h⟩
        · rename_i h4 h5
          have e1 : wrap64 ((j : Int) + 1) = ((j + 1 : Nat) : Int) := by unfold wrap64; omega
          rw [e1]
          obtain ⟨r, hr, hp⟩ := kids_l0 i x0 x1 x2 es ks x5 x6 x7 l8 l9 hl (m - 1) (j + 1) k (by omega) (by omega) (by omega)
          refine ⟨r, hr, fun h q hq hq2 => ?_⟩
          rcases Nat.lt_or_ge j q with h6 | h6
          · exact hp h q h6 hq2
          · obtain rfl : q = j := by omega
            omega
    · exact ⟨_, rfl, fun _ q hq hq2 => by omega⟩
theorem kids_some (x0 x1 x2 : Int) (es : List S36) (ks : List Int) (x5 x6 x7 : Int) (l8 l9 : List Int) (i lo hi : Int) (hl : ks.length ≤ 100000) :
    ∃ r, cofferdamref15_kids.f 200000 x0 x1 x2 es ks x5 x6 x7 l8 l9 i lo hi = some r ∧ (r = true → KidsIn ks i ∧ lo ≤ ks.length ∧ ks.length ≤ hi) := by
  unfold cofferdamref15_kids.f
  have key : ∀ b : Bool, (b = false → lo ≤ ks.length ∧ ks.length ≤ hi) → ∃ r, cofferdamref15_kids.j0 200000 i b x0 x1 x2 es ks x5 x6 x7 l8 l9 = some r ∧ (r = true → KidsIn ks i ∧ lo ≤ ks.length ∧ ks.length ≤ hi) := by
    intro b hb
    rw [show (200000 : Nat) = 199999 + 1 from rfl, cofferdamref15_kids.j0]
    cases b with
    | true => exact ⟨_, if_pos rfl, fun h => by cases h⟩
    | false =>
      rw [if_neg (by decide)]
      obtain ⟨r, hr, hp⟩ := kids_l0 i x0 x1 x2 es ks x5 x6 x7 l8 l9 hl 100000 0 199999 (by omega) (by omega) (by omega)
      exact ⟨r, hr, fun h => ⟨fun q hq => hp h q (Nat.zero_le _) hq, hb rfl⟩⟩
  split
  · exact key _ (fun h => by cases h)
  · exact key _ (fun h => by have := of_decide_eq_false h; omega)
/-- Extents that follow one another, from at to the end. -/
def Tile : Int → List S36 → Int → Prop
  | at_, [], n => at_ = n
  | at_, e :: es, n => e.f0 = at_ ∧ 1 ≤ e.f1 ∧ Tile (at_ + e.f1) es n
/-- An extent that lies within its kid, a step ahead of step i. -/
def ExIn (L : List S34) (i : Int) (e : S36) : Prop := 0 ≤ e.f2 ∧ e.f2 < i ∧ 1 ≤ e.f1 ∧ 0 ≤ e.f3 ∧ e.f3 + e.f1 ≤ (rd_T34 L e.f2).f1
set_option maxHeartbeats 2000000 in
theorem ext_j1 (L : List S34) (root : Int) (ro : Bool) (i : Int) (x0 n x2 : Int) (es : List S36) (x4 : List Int) (x5 x6 x7 : Int) (l8 l9 : List Int) (at_ j f0 f1 f2 f3 s : Int) (P : Prop) (k : Nat) (b : Bool) (hi : i ≤ (L.length : Int))
    (hs : (rd_T34 L f2).f1 = s) (hS : 0 ≤ f2 → f2 < i → 1 ≤ s ∧ s ≤ 8192) (ha0 : 0 ≤ at_) (ha1 : at_ ≤ n) (hn2 : n ≤ 8192) (hj0 : 0 ≤ j) (hj1 : j ≤ 100000)
    (hb : b = false → 0 ≤ f2 ∧ f2 < i ∧ f0 = at_ ∧ 1 ≤ f1 ∧ f1 ≤ n - at_)
    (ih : 1 ≤ f1 → f1 ≤ n - at_ → ∃ r, cofferdamref15_extents.l0 k i (at_ + f1) (j + 1) L root ro x0 n x2 es x4 x5 x6 x7 l8 l9 = some r ∧ (r = true → P)) :
    ∃ r, cofferdamref15_extents.j1 (k + 1) i at_ j b L root ro x0 n x2 es x4 x5 x6 x7 l8 l9 f0 f1 f2 f3 = some r ∧ (r = true → (0 ≤ f2 ∧ f2 < i ∧ 1 ≤ f1 ∧ 0 ≤ f3 ∧ f3 + f1 ≤ s) ∧ f0 = at_ ∧ P) := by
  rw [cofferdamref15_extents.j1, hs]
  cases b with
  | true => exact ⟨_, if_pos rfl, fun h => by cases h⟩
  | false =>
    obtain ⟨g0, g1, g2, g3, g4⟩ := hb rfl
    have hk := hS g0 g1
    have hg2 : f2 < (L.length : Int) := Int.lt_of_lt_of_le g1 hi
    obtain ⟨r, hr, hp⟩ := ih g3 g4
    have e1 : wrap64 (j + 1) = j + 1 := by clear ih hr hp hb hS hs; unfold wrap64; omega
    have e2 : wrap64 (at_ + f1) = at_ + f1 := by clear ih hr hp hb hS hs; unfold wrap64; omega
    rw [if_neg (by decide), if_pos g0, if_pos hg2, e1, e2, hr]
    by_cases h3 : f3 < 0
    · rw [if_pos h3]
      exact ⟨_, rfl, fun h => by cases h⟩
    · rw [if_neg h3]
      by_cases h4 : f3 > s
      · rw [if_pos h4]
        exact ⟨_, rfl, fun h => by cases h⟩
      · have e3 : wrap64 (s - f3) = s - f3 := by clear ih hr hp hb hS hs; unfold wrap64; omega
        rw [if_neg h4, e3]
        by_cases h5 : f1 > s - f3
        · rw [if_pos h5]
          exact ⟨_, rfl, fun h => by cases h⟩
        · rw [if_neg h5]
          exact ⟨_, rfl, fun h => ⟨⟨g0, g1, g3, by omega, by omega⟩, g2, hp h⟩⟩
set_option maxHeartbeats 2000000 in
theorem ext_l0 (L : List S34) (root : Int) (ro : Bool) (i : Int) (x0 n x2 : Int) (es : List S36) (x4 : List Int) (x5 x6 x7 : Int) (l8 l9 : List Int) (hl : es.length ≤ 100000) (hn : 0 ≤ n) (hn2 : n ≤ 8192) (hi : i ≤ (L.length : Int)) (hL : ∀ p : Int, 0 ≤ p → p < i → 1 ≤ (rd_T34 L p).f1 ∧ (rd_T34 L p).f1 ≤ 8192) :
    ∀ (m : Nat) (at_ : Int) (j : Nat) (k : Nat), 0 ≤ at_ → at_ ≤ n → j ≤ es.length → 2 * (es.length - j) + 1 ≤ m → m ≤ k →
    ∃ r, cofferdamref15_extents.l0 k i at_ (j : Int) L root ro x0 n x2 es x4 x5 x6 x7 l8 l9 = some r ∧ (r = true → Tile at_ (es.drop j) n ∧ (∀ e ∈ es.drop j, ExIn L i e) ∧ 1 ≤ es.length ∧ es.length ≤ 1000)
  | m, at_, j, 0, _, _, _, _, h => by omega
  | m, at_, j, k + 1, ha0, ha1, h1, h2, h3 => by
    rw [cofferdamref15_extents.l0]
    by_cases hc : (j : Int) < (es.length : Int)
    · have hj : j < es.length := by omega
      have hd : es.drop j = rd_T36 es (j : Int) :: es.drop (j + 1) := by
        rw [List.drop_eq_getElem_cons hj]
        simp [rd_T36, List.getD, hj]
      have hj0 : (0 : Int) ≤ (j : Int) := by omega
      rw [if_pos hc, if_pos hj0, hd]
      generalize rd_T36 es (j : Int) = e at *
      obtain ⟨k, rfl⟩ : ∃ q, k = q + 1 := ⟨k - 1, by omega⟩
      have IH := fun (g1 : 1 ≤ e.f1) (g2 : e.f1 ≤ n - at_) => ext_l0 L root ro i x0 n x2 es x4 x5 x6 x7 l8 l9 hl hn hn2 hi hL (m - 2) (at_ + e.f1) (j + 1) k (by omega) (by omega) (by omega) (by omega) (by omega)
      have hT : ∀ b : Bool, (b = false → 0 ≤ e.f2 ∧ e.f2 < i ∧ e.f0 = at_ ∧ 1 ≤ e.f1 ∧ e.f1 ≤ n - at_) → ∃ r, cofferdamref15_extents.j1 (k + 1) i at_ (j : Int) b L root ro x0 n x2 es x4 x5 x6 x7 l8 l9 e.f0 e.f1 e.f2 e.f3 = some r ∧ (r = true → Tile at_ (e :: es.drop (j + 1)) n ∧ (∀ e' ∈ e :: es.drop (j + 1), ExIn L i e') ∧ 1 ≤ es.length ∧ es.length ≤ 1000) := by
        intro b hb
        obtain ⟨r, hr, hp⟩ := ext_j1 L root ro i x0 n x2 es x4 x5 x6 x7 l8 l9 at_ j e.f0 e.f1 e.f2 e.f3 _ _ k b hi rfl (hL e.f2) ha0 ha1 hn2 hj0 (by omega) hb IH
        refine ⟨r, hr, fun h => ?_⟩
        obtain ⟨q1, q2, p1, p2, p3⟩ := hp h
        refine ⟨⟨q2, q1.2.2.1, p1⟩, fun e' he' => ?_, p3⟩
        rcases List.mem_cons.1 he' with rfl | he'
        · exact q1
        · exact p2 e' he'
      have e4 : wrap64 (n - at_) = n - at_ := by clear IH hT hL; unfold wrap64; omega
      rw [e4]
      clear IH
      by_cases c1 : e.f2 < 0
      · rw [if_pos c1]
        exact hT _ (fun h => by cases h)
      · rw [if_neg c1]
        by_cases c2 : e.f2 ≥ i
        · rw [if_pos c2]
          exact hT _ (fun h => by cases h)
        · rw [if_neg c2]
          by_cases c3 : e.f0 = at_
          · rw [if_pos c3]
            by_cases c4 : e.f1 < 1
            · rw [if_pos c4]
              exact hT _ (fun h => by cases h)
            · rw [if_neg c4]
              exact hT _ (fun h => by have := of_decide_eq_false h; clear hT; exact ⟨by omega, by omega, c3, by omega, by omega⟩)
          · rw [if_neg c3]
            exact hT _ (fun h => by cases h)
    · have hd : es.drop j = [] := List.drop_eq_nil_of_le (by omega)
      rw [if_neg hc, hd]
      by_cases c1 : (es.length : Int) ≥ 1
      · rw [if_pos c1]
        by_cases c2 : (es.length : Int) ≤ 1000
        · rw [if_pos c2]
          refine ⟨_, rfl, fun h => ⟨?_, fun e he => absurd he (by simp), by omega, by omega⟩⟩
          show at_ = n
          simpa using h
        · rw [if_neg c2]
          exact ⟨_, rfl, fun h => by cases h⟩
      · rw [if_neg c1]
        exact ⟨_, rfl, fun h => by cases h⟩
/-- What a 'yes' of ref15.extents says of step i. -/
def ExOk (L : List S34) (i : Int) : Prop := Tile 0 (rd_T34 L i).f3 (rd_T34 L i).f1 ∧ (∀ e ∈ (rd_T34 L i).f3, ExIn L i e) ∧ 1 ≤ (rd_T34 L i).f3.length ∧ (rd_T34 L i).f3.length ≤ 1000
theorem ext_some (L : List S34) (root : Int) (ro : Bool) (i : Int) (hi0 : 0 ≤ i) (hi : i < (L.length : Int)) (hl : (rd_T34 L i).f3.length ≤ 100000) (hn : 1 ≤ (rd_T34 L i).f1) (hn2 : (rd_T34 L i).f1 ≤ 8192) (hL : ∀ p : Int, 0 ≤ p → p < i → 1 ≤ (rd_T34 L p).f1 ∧ (rd_T34 L p).f1 ≤ 8192) :
    ∃ r, cofferdamref15_extents.f 300000 L root ro i = some r ∧ (r = true → ExOk L i) := by
  unfold cofferdamref15_extents.f
  rw [if_pos hi0, if_pos hi]
  exact ext_l0 L root ro i _ _ _ _ _ _ _ _ _ _ hl (by omega) hn2 (by omega) hL 200001 0 0 300000 (by omega) (by omega) (by omega) (by omega) (by omega)
end Go.Proofs.Ytneglmnffdmbiaa.P
