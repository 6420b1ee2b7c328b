import Derived.Test.YtocclfjddihmbaaLexPure2
import Derived.Test.YtocclfjddihmbaaPcofferdamlaw10LexJoined
namespace Go.Proofs.Ytocclfjddihmbaa.Pure
open Go.RowKit Go.Proofs.Ytocclfjddihmbaa.P Go.Proofs.YtocclfjddihmbaaW.PrintWords Go.Proofs.YtocclfjddihmbaaW.PrintLast
set_option linter.unusedVariables false
set_option linter.unusedSimpArgs false

def mapFrom {α : Type} (g : α → α) (i : Nat) (l : List α) : List α := l.take i ++ (l.drop i).map g
theorem mapFrom_step {α : Type} (g : α → α) (i : Nat) (l : List α) (d : α) (h : i < l.length) : mapFrom g (i + 1) (l.set i (g (l.getD i d))) = mapFrom g i l := by
  unfold mapFrom
  have hd : l.drop i = l.getD i d :: l.drop (i + 1) := by
    rw [List.drop_eq_getElem_cons h, List.getD_eq_getElem?_getD, List.getElem?_eq_getElem h]
    rfl
  rw [hd, List.map_cons, List.drop_set_of_lt (by omega)]
  have ht : (l.set i (g (l.getD i d))).take (i + 1) = l.take i ++ [g (l.getD i d)] := by
    rw [List.take_add_one, List.take_set_of_le (Nat.le_refl i), List.getElem?_set_self h]
    rfl
  rw [ht]
  simp
theorem mapFrom_end {α : Type} (g : α → α) (l : List α) : mapFrom g l.length l = l := by
  unfold mapFrom
  simp
theorem mapFrom_zero {α : Type} (g : α → α) (l : List α) : mapFrom g 0 l = l.map g := by
  unfold mapFrom
  simp
theorem same_refl0 (l : List S41) (hl : l.length ≤ 100000) : ∀ (d i k : Nat), l.length - i ≤ d → i ≤ l.length → d < k → cofferdamlaw10_same.l0 k l l i = some true := by
  intro d
  induction d with
  | zero =>
    intro i k hd hi hk
    obtain ⟨k, rfl⟩ : ∃ m, k = m + 1 := ⟨k - 1, by omega⟩
    simp only [cofferdamlaw10_same.l0]
    rw [if_neg (by omega)]
  | succ d ih =>
    intro i k hd hi hk
    obtain ⟨k, rfl⟩ : ∃ m, k = m + 1 := ⟨k - 1, by omega⟩
    simp only [cofferdamlaw10_same.l0]
    by_cases hlt : i < l.length
    · rw [if_pos (by omega), if_pos (by omega), if_pos (by omega), if_neg (by simp)]
      have hw : wrap64 ((i : Int) + 1) = ((i + 1 : Nat) : Int) := by unfold wrap64; omega
      rw [hw]
      exact ih (i + 1) k (by omega) (by omega) (by omega)
    · rw [if_neg (by omega)]
theorem same_refl (l : List S41) (hl : l.length ≤ 100000) (k : Nat) (hk : 100001 < k) : cofferdamlaw10_same.f k l l = some true := by
  unfold cofferdamlaw10_same.f
  rw [if_pos rfl]
  exact same_refl0 l hl l.length 0 k (by omega) (by omega) (by omega)
theorem alive10_at (k : Nat) (hk : 40 ≤ k) : cofferdamlaw10_alive.f k = some true :=
  at_rounds (g := fun k => cofferdamlaw10_alive.f k) (fun k => cofferdamlaw10_alive.mono k) hk alive10
theorem scanF_count500 : ∀ (f cnt : Nat) (r : List Int) (total : Nat) (l : List S41), scanF f cnt r total = .ok l → cnt ≤ 500 → cnt + l.length ≤ 500
  | 0, _, _, _, l, h, hc => by
    simp only [scanF, Except.ok.injEq] at h
    subst h
    simpa using hc
  | f + 1, cnt, r, total, l, h, hc => by
    rw [scanF_step] at h
    by_cases h1 : r = []
    · rw [if_pos h1] at h
      simp only [Except.ok.injEq] at h
      subst h
      simpa using hc
    · rw [if_neg h1] at h
      by_cases h5 : cnt = 500
      · rw [if_pos h5] at h; cases h
      · rw [if_neg h5] at h
        by_cases he : (oneL r).e = 0
        · rw [if_pos he] at h
          cases hx : scanF f (cnt + 1) (skipS false (r.drop (oneL r).len)) total with
          | error e => rw [hx] at h; cases h
          | ok m =>
            rw [hx] at h
            simp only [Except.map, Except.ok.injEq] at h
            subst h
            have := scanF_count500 f (cnt + 1) _ total m hx (by omega)
            simp only [List.length_cons]
            omega
        · rw [if_neg he] at h; cases h
theorem scan_ok {l : List Int} {m : List S41} (h : scan l = .ok m) : l.length ≤ 2000 ∧ m.length ≤ 500 ∧ ∀ t ∈ m, 0 ≤ t.f3 ∧ t.f3 ≤ l.length := by
  unfold scan at h
  by_cases h1 : 2000 < l.length
  · rw [if_pos h1] at h; cases h
  · rw [if_neg h1] at h
    have hs := skipS_len l false
    exact ⟨by omega, by have := scanF_count500 _ _ _ _ _ h (by omega); omega, scanF_at _ _ _ _ _ h hs⟩
theorem bytesOf_append (a b : ByteArray) : bytesOf (a ++ b) = bytesOf a ++ bytesOf b := by
  unfold bytesOf
  rw [ByteArray.data_append, Array.toList_append, List.map_append]
/-- Lines are apart. -/
theorem scan_join (a b : List Int) (l m : List S41) (ha : scan a = .ok l) (hb : scan b = .ok m) (h : a.length + b.length < 2000) (hlm : l.length + m.length ≤ 500) :
    scan (a ++ 10 :: b) = .ok (l ++ m.map (shiftTok (a.length + 1))) := by
  have h1 := ha
  have h2 := hb
  unfold scan at h1 h2 ⊢
  rw [if_neg (by omega)] at h1 h2
  have hlen : (a ++ 10 :: b).length = a.length + (1 + b.length) := by simp; omega
  rw [if_neg (by omega), hlen]
  rw [scanF_join b (a.length + 1) 0 a a.length (a.length + (1 + b.length) + 1) (by omega) (by omega) (by omega), h1]
  simp only [Nat.zero_add]
  have h3 := scanF_count _ 0 l.length _ _ _ h2 (by omega)
  have h4 := scanF_shift (a.length + 1) (b.length + 1) l.length (skipS false b) b.length (skipS_len b false)
  rw [h3] at h4
  rw [show a.length + (1 + b.length) = b.length + (a.length + 1) by omega, h4]
  rfl
def shTok (n : Int) (t : S41) : S41 := ⟨t.f0, t.f1, t.f2, wrap64 (wrap64 (t.f3 + n) + 1)⟩
theorem joined_loop (k0 : Nat) (a : ByteArray) (l n : List S41) (e : Int) : ∀ (d i k : Nat) (m : List S41), m.length - i ≤ d → i ≤ m.length → m.length ≤ 100000 → d + k0 < k →
    ∃ k', k0 ≤ k' ∧ cofferdamlaw10_LexJoined.l0 k a l m n e i = cofferdamlaw10_LexJoined.l0 (k' + 1) a l (mapFrom (shTok a.size) i m) n e m.length := by
  intro d
  induction d with
  | zero =>
    intro i k m hd hi hm hk
    obtain rfl : i = m.length := by omega
    rw [mapFrom_end]
    exact ⟨k - 1, by omega, by rw [show k - 1 + 1 = k by omega]⟩
  | succ d ih =>
    intro i k m hd hi hm hk
    by_cases hlt : i < m.length
    · obtain ⟨k, rfl⟩ : ∃ q, k = q + 1 := ⟨k - 1, by omega⟩
      have hw : wrap64 ((i : Int) + 1) = ((i + 1 : Nat) : Int) := by unfold wrap64; omega
      have hs := mapFrom_step (shTok a.size) i m z41 hlt
      obtain ⟨k', h1, h2⟩ := ih (i + 1) k (m.set i (shTok a.size (m.getD i z41))) (by simp; omega) (by simp; omega) (by simpa using hm) (by omega)
      rw [hs, List.length_set] at h2
      refine ⟨k', h1, ?_⟩
      rw [← h2]
      simp only [cofferdamlaw10_LexJoined.l0]
      rw [if_pos (by omega), if_pos (by omega), hw]
      simp only [Int.toNat_natCast]
      rfl
    · obtain rfl : i = m.length := by omega
      rw [mapFrom_end]
      exact ⟨k - 1, by omega, by rw [show k - 1 + 1 = k by omega]⟩
end Go.Proofs.Ytocclfjddihmbaa.Pure
