/- Two texts that are tokens, with a line's end between them, are the tokens of the first and then those of the second, each where it stands; at every pair of texts. -/
import Derived.Test.YtocclfjddihmbaaPcofferdamlaw10LexJoined
import Derived.Test.YtocclfjddihmbaaLexPure3
namespace Go.Proofs.Ytocclfjddihmbaa.Pure
open Go.RowKit Go.Proofs.Ytocclfjddihmbaa.P Go.Proofs.YtocclfjddihmbaaW.PrintWords Go.Proofs.YtocclfjddihmbaaW.PrintLast
set_option linter.unusedVariables false
set_option linter.unusedSimpArgs false

theorem joined_end (k : Nat) (hk : 200000 < k) (a : ByteArray) (l m : List S41) (hl : l.length + m.length ≤ 500) :
    cofferdamlaw10_LexJoined.l0 (k + 1) a l m (l ++ m) 0 m.length = some true := by
  simp only [cofferdamlaw10_LexJoined.l0]
  rw [if_neg (by omega)]
  simp only [Option.bind_some, List.length_nil, List.nil_append]
  rw [if_pos (by omega), if_pos (by omega), same_refl (l ++ m) (by simp; omega) k (by omega), alive10_at k (by omega)]
  simp
theorem told_err {s : ByteArray} {e : Int × Int} (hs : s.size ≤ 2000) (h : scan (bytesOf s) = .error e) : e.1 ≠ 0 := by
  unfold scan at h
  rw [if_neg (by rw [bytesOf_length]; omega)] at h
  exact (scanF_err _ _ _ _ _ h (skipS_len _ _)).1
theorem scan_run_ok {s : ByteArray} {l : List S41} (h : scan (bytesOf s) = .ok l) (k : Nat) (hk : 5000 ≤ k) : lex_Scan.f k s = some (l, 0, -1) := by
  rw [scan_run s k hk, h]; rfl
theorem scan_run_err {s : ByteArray} {e : Int × Int} (h : scan (bytesOf s) = .error e) (k : Nat) (hk : 5000 ≤ k) : lex_Scan.f k s = some ([], e.1, e.2) := by
  rw [scan_run s k hk, h]; rfl
theorem joined_alive (k : Nat) (hk : 40 ≤ k) : ((cofferdamlaw10_alive.f k).bind fun t => some t) = some true := by rw [alive10_at k hk]; rfl
theorem joined_j1 (K : Nat) (hK : 40 ≤ K) (a : ByteArray) (x5 x8 x11 : List S41) (x12 : Int) : cofferdamlaw10_LexJoined.j1 (K + 1) a x5 x8 x11 x12 true = some true := by
  simp only [cofferdamlaw10_LexJoined.j1, if_true]
  exact joined_alive _ hK
theorem size_10 (a : ByteArray) : (a ++ (⟨#[10]⟩ : ByteArray)).size = a.size + 1 := by rw [ByteArray.size_append]; rfl
theorem cat_10 (a b : ByteArray) : bytesOf (a ++ (⟨#[10]⟩ : ByteArray) ++ b) = bytesOf a ++ 10 :: bytesOf b := by
  rw [bytesOf_append, bytesOf_append, show bytesOf (⟨#[10]⟩ : ByteArray) = [10] from rfl]
  simp
theorem sh_map (a : ByteArray) (ha : a.size ≤ 2000) (n : Nat) (hn : n ≤ 2000) (m : List S41) (hm : ∀ t ∈ m, 0 ≤ t.f3 ∧ t.f3 ≤ n) : m.map (shTok a.size) = m.map (shiftTok ((bytesOf a).length + 1)) := by
  apply List.map_congr_left
  intro t ht
  have := hm t ht
  rw [bytesOf_length]
  unfold shTok shiftTok
  simp only [S41.mk.injEq, true_and]
  unfold wrap64
  omega
theorem joined_ok (K : Nat) (hK : 300000 ≤ K) (a b : ByteArray) (hab : a.size + b.size < 2000) (l m : List S41) (hA : scan (bytesOf a) = .ok l) (hB : scan (bytesOf b) = .ok m) (h2 : l.length + m.length ≤ 500) :
    cofferdamlaw10_LexJoined.l0 K a l m (l ++ m.map (shiftTok ((bytesOf a).length + 1))) 0 0 = some true := by
  have hlB := scan_ok hB
  rw [bytesOf_length] at hlB
  obtain ⟨k', hk1, hk2⟩ := joined_loop 200001 a l (l ++ m.map (shiftTok ((bytesOf a).length + 1))) 0 m.length 0 K m (by omega) (by omega) (by omega) (by omega)
  simp only [Int.natCast_zero] at hk2
  rw [hk2, mapFrom_zero, sh_map a (by omega) b.size (by omega) m hlB.2.2]
  have := joined_end k' (by omega) a l (m.map (shiftTok ((bytesOf a).length + 1))) (by simp; omega)
  rw [List.length_map] at this
  exact this
theorem joined_step (K : Nat) (a b : ByteArray) (hab : a.size + b.size ≤ 2000) (la lb ln : List S41) (ea ta eb tb en tn : Int)
    (hA : lex_Scan.f (K + 1) a = some (la, ea, ta)) (hB : lex_Scan.f (K + 1) b = some (lb, eb, tb)) (hN : lex_Scan.f (K + 1) (a ++ (⟨#[10]⟩ : ByteArray) ++ b) = some (ln, en, tn)) :
    cofferdamlaw10_LexJoined.j0 (K + 1 + 1) a b false = if ea = 0 then (if eb = 0 then (if (wrap64 ((a.size : Int) + (b.size : Int))) = 2000 then (cofferdamlaw10_LexJoined.j1 (K + 1) a la lb ln en true) else (cofferdamlaw10_LexJoined.j1 (K + 1) a la lb ln en (decide ((wrap64 ((la.length : Int) + (lb.length : Int))) > 500)))) else (cofferdamlaw10_LexJoined.j1 (K + 1) a la lb ln en true)) else (cofferdamlaw10_LexJoined.j1 (K + 1) a la lb ln en true) := by
  have hsz := size_10 a
  simp only [cofferdamlaw10_LexJoined.j0]
  rw [if_neg (by simp), hA]
  simp only [Option.bind_some]
  rw [hB]
  simp only [Option.bind_some]
  rw [if_pos (by omega), hsz, if_pos (by omega), hN]
  simp only [Option.bind_some]
theorem joined_j0 (K : Nat) (hK : 300000 ≤ K) (a b : ByteArray) (hab : a.size + b.size ≤ 2000) : cofferdamlaw10_LexJoined.j0 (K + 1 + 1) a b false = some true := by
  obtain ⟨⟨n, e3, at3⟩, hN⟩ : ∃ x, lex_Scan.f (K + 1) (a ++ (⟨#[10]⟩ : ByteArray) ++ b) = some x := ⟨_, scan_run _ (K + 1) (by omega)⟩
  have hN2 := scan_run (a ++ (⟨#[10]⟩ : ByteArray) ++ b) (K + 1) (by omega)
  rw [hN] at hN2
  have hj1 := joined_j1 K (by omega) a
  cases hA : scan (bytesOf a) with
  | error e =>
    have he := told_err (by omega) hA
    obtain ⟨⟨lb, eb, tb⟩, hB⟩ : ∃ x, lex_Scan.f (K + 1) b = some x := ⟨_, scan_run _ (K + 1) (by omega)⟩
    rw [joined_step K a b hab _ _ _ _ _ _ _ _ _ (scan_run_err hA (K + 1) (by omega)) hB hN, if_neg he]
    exact hj1 _ _ _ _
  | ok l =>
    cases hB : scan (bytesOf b) with
    | error e =>
      have he := told_err (by omega) hB
      rw [joined_step K a b hab _ _ _ _ _ _ _ _ _ (scan_run_ok hA (K + 1) (by omega)) (scan_run_err hB (K + 1) (by omega)) hN, if_pos rfl, if_neg he]
      exact hj1 _ _ _ _
    | ok m =>
      rw [joined_step K a b hab _ _ _ _ _ _ _ _ _ (scan_run_ok hA (K + 1) (by omega)) (scan_run_ok hB (K + 1) (by omega)) hN, if_pos rfl, if_pos rfl]
      have hw1 : wrap64 ((a.size : Int) + (b.size : Int)) = ((a.size + b.size : Nat) : Int) := by unfold wrap64; omega
      have hlA := scan_ok hA
      have hlB := scan_ok hB
      have hw2 : wrap64 ((l.length : Int) + (m.length : Int)) = ((l.length + m.length : Nat) : Int) := by unfold wrap64; omega
      rw [hw1, hw2]
      by_cases h1 : a.size + b.size = 2000
      · rw [if_pos (by omega)]
        exact hj1 _ _ _ _
      · rw [if_neg (by omega)]
        by_cases h2 : 500 < l.length + m.length
        · rw [decide_eq_true (by omega)]
          exact hj1 _ _ _ _
        · rw [decide_eq_false (by omega)]
          have hj := scan_join (bytesOf a) (bytesOf b) l m hA hB (by rw [bytesOf_length, bytesOf_length]; omega) (by omega)
          rw [cat_10, hj] at hN2
          simp only [told, Option.some.injEq, Prod.mk.injEq] at hN2
          obtain ⟨rfl, rfl, rfl⟩ := hN2
          simp only [cofferdamlaw10_LexJoined.j1]
          rw [if_neg (by simp)]
          exact joined_ok K hK a b (by omega) l m hA hB (by omega)
theorem LexJoined : cofferdamlaw10_LexJoined.Pure := by
  intro a b ha hb
  obtain ⟨K, hK⟩ : ∃ K : Nat, 300000 ≤ K := ⟨300000, Nat.le_refl _⟩
  refine ⟨K + 1 + 1, ?_⟩
  have ht : cofferdamlaw10_LexJoined.j0 (K + 1 + 1) a b true = some true := by
    simp only [cofferdamlaw10_LexJoined.j0, if_true]
    exact joined_alive _ (by omega)
  unfold cofferdamlaw10_LexJoined.f
  by_cases h : (a.size : Int) > 2000
  · rw [if_pos h]
    exact ht
  · rw [if_neg h]
    have hw : wrap64 (2000 - (a.size : Int)) = 2000 - (a.size : Int) := by unfold wrap64; omega
    rw [hw]
    by_cases h2 : (b.size : Int) > 2000 - (a.size : Int)
    · rw [decide_eq_true h2]
      exact ht
    · rw [decide_eq_false h2]
      exact joined_j0 K hK a b (by omega)

end Go.Proofs.Ytocclfjddihmbaa.Pure
