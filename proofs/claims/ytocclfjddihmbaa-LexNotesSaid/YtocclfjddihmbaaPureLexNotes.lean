/- A text with a note of any bytes but a line's end ahead of it, and one behind it, has the same tokens, further on by the note's length, and faults as it did; at every text and every note, within the limits. -/
import Derived.Test.YtocclfjddihmbaaPcofferdamlaw10LexNotes
import Derived.Test.YtocclfjddihmbaaPureLexJoined
namespace Go.Proofs.Ytocclfjddihmbaa.Pure
open Go.RowKit Go.Proofs.Ytocclfjddihmbaa.P Go.Proofs.YtocclfjddihmbaaW.PrintWords Go.Proofs.YtocclfjddihmbaaW.PrintLast
set_option linter.unusedVariables false
set_option linter.unusedSimpArgs false

theorem notes_size10 (a : ByteArray) : (a ++ (⟨#[10]⟩ : ByteArray)).size = a.size + 1 := by rw [ByteArray.size_append]; rfl
theorem notes_alive (k : Nat) (hk : 40 ≤ k) : ((cofferdamlaw10_alive.f k).bind fun t => some t) = some true := by rw [alive10_at k hk]; rfl
theorem skip_note_all : ∀ (l : List Int), (∀ x ∈ l, x ≠ 10) → skipS true l = []
  | [], _ => rfl
  | c :: l, h => by
    simp only [skipS]
    rw [if_neg (h c List.mem_cons_self)]
    exact skip_note_all l (fun x hx => h x (List.mem_cons_of_mem _ hx))
/-- A note (without its line's end). -/
def isNote (l : List Int) : Prop := ∃ t, l = 47 :: 47 :: t ∧ ∀ x ∈ t, x ≠ 10
theorem skip_isNote {l : List Int} (h : isNote l) : skipS false l = [] := by
  obtain ⟨t, rfl, ht⟩ := h
  have h1 : skipS false (47 :: 47 :: t) = skipS true (47 :: t) := by simp [skipS, isBlank]
  rw [h1]
  exact skip_note_all (47 :: t) (fun x hx => by
    rcases List.mem_cons.1 hx with rfl | hx
    · decide
    · exact ht x hx)
theorem scan_notes (n s : List Int) (hn : isNote n) (h : n.length + 1 + s.length + 1 + n.length + 1 ≤ 2000) :
    scan (n ++ 10 :: (s ++ 10 :: (n ++ [10]))) = shiftE (n.length + 1) (scan s) := by
  have hX : (s ++ 10 :: (n ++ [10])).length = s.length + (1 + (n ++ [10]).length) := by simp; omega
  unfold scan
  rw [if_neg (by simp; omega), if_neg (by omega), skipS_stop, if_pos (skip_isNote hn)]
  have hlen : (n ++ 10 :: (s ++ 10 :: (n ++ [10]))).length = (s.length + (1 + (n ++ [10]).length)) + (n.length + 1) := by simp; omega
  rw [hlen]
  have hle := skipS_len (s ++ 10 :: (n ++ [10])) false
  rw [hX] at hle
  rw [scanF_shift (n.length + 1) _ 0 _ _ hle]
  rw [scanF_join (n ++ [10]) (s.length + 1) 0 s s.length _ (by omega) (by omega) (by simp; omega)]
  congr 1
  have hend : skipS false (n ++ [10]) = [] := by
    rw [show n ++ [10] = n ++ 10 :: [] from rfl, skipS_stop, if_pos (skip_isNote hn)]
    rfl
  cases scanF (s.length + 1) 0 (skipS false s) s.length with
  | error e => rfl
  | ok l =>
    simp only [hend]
    rw [scanF_step, if_pos rfl]
    simp [Except.map]
theorem notes_set (n : Int) (t : S41) : (⟨t.f0, t.f1, t.f2, wrap64 (t.f3 + n)⟩ : S41) = ⟨t.f0, t.f1, t.f2, wrap64 (t.f3 + n)⟩ := rfl
def shTok1 (n : Int) (t : S41) : S41 := ⟨t.f0, t.f1, t.f2, wrap64 (t.f3 + n)⟩
theorem notes_loop (k0 : Nat) (x5 : ByteArray) (x9 x10 : Int) (x11 : List S41) (x12 x13 : Int) : ∀ (d i k : Nat) (m : List S41), m.length - i ≤ d → i ≤ m.length → m.length ≤ 100000 → d + k0 < k →
    ∃ k', k0 ≤ k' ∧ cofferdamlaw10_LexNotes.l1 k x5 m x9 x10 x11 x12 x13 i = cofferdamlaw10_LexNotes.l1 (k' + 1) x5 (mapFrom (shTok1 x5.size) i m) x9 x10 x11 x12 x13 m.length := by
  intro d
  induction d with
  | zero =>
    intro i k m hd hi hm hk
    obtain rfl : i = m.length := by omega
    rw [mapFrom_end]
    exact ⟨k - 1, by omega, by rw [show k - 1 + 1 = k by omega]⟩
  | succ d ih =>
    intro i k m hd hi hm hk
    by_cases hlt : i < m.length
    · obtain ⟨k, rfl⟩ : ∃ q, k = q + 1 := ⟨k - 1, by omega⟩
      have hw : wrap64 ((i : Int) + 1) = ((i + 1 : Nat) : Int) := by unfold wrap64; omega
      have hs := mapFrom_step (shTok1 x5.size) i m z41 hlt
      obtain ⟨k', h1, h2⟩ := ih (i + 1) k (m.set i (shTok1 x5.size (m.getD i z41))) (by simp; omega) (by simp; omega) (by simpa using hm) (by omega)
      rw [hs, List.length_set] at h2
      refine ⟨k', h1, ?_⟩
      rw [← h2]
      simp only [cofferdamlaw10_LexNotes.l1]
      rw [if_pos (by omega), if_pos (by omega), hw]
      simp only [Int.toNat_natCast]
      rfl
    · obtain rfl : i = m.length := by omega
      rw [mapFrom_end]
      exact ⟨k - 1, by omega, by rw [show k - 1 + 1 = k by omega]⟩
theorem notes_end (k : Nat) (hk : 200000 < k) (x5 : ByteArray) (m : List S41) (hm : m.length ≤ 500) (e a a2 : Int) (h1 : e = 0 → a2 = -1) (h2 : e ≠ 0 → a2 = wrap64 (a + x5.size)) :
    cofferdamlaw10_LexNotes.l1 (k + 1) x5 m e a m e a2 m.length = some true := by
  simp only [cofferdamlaw10_LexNotes.l1]
  rw [if_neg (by omega), same_refl m (by omega) k (by omega), alive10_at k (by omega)]
  simp only [Option.bind_some]
  rw [if_pos trivial, if_pos trivial, if_pos trivial]
  by_cases h : e = 0
  · rw [if_pos h, if_pos (h1 h)]
  · rw [if_neg h, h2 h]
    simp
theorem notes_one (s : ByteArray) (i : Nat) (h : i < s.size) : bytesOf (s.extract i (i + 1)) = [bt s i] := by
  rw [bytesOf_extract, bytesOf_drop s i h]
  rfl
theorem isNote_add {l : List Int} (h : isNote l) (c : Int) (hc : c ≠ 10) : isNote (l ++ [c]) := by
  obtain ⟨t, rfl, ht⟩ := h
  refine ⟨t ++ [c], rfl, fun x hx => ?_⟩
  rcases List.mem_append.1 hx with hx | hx
  · exact ht x hx
  · rw [List.mem_singleton.1 hx]; exact hc
theorem notes_build (K : Nat) (a0 a1 : ByteArray) (h1 : a1.size ≤ 140737488351232) : ∀ (d i k : Nat) (x5 : ByteArray), 100 - i ≤ d → i ≤ 100 → isNote (bytesOf x5) → x5.size ≤ 2 + i → K + 2 * d + 5 < k →
    ∃ (k' : Nat) (y : ByteArray) (j : Int), K ≤ k' ∧ isNote (bytesOf y) ∧ y.size ≤ 102 ∧ cofferdamlaw10_LexNotes.l0 k a0 a1 x5 i = cofferdamlaw10_LexNotes.j1 (k' + 1) a0 a1 y j false := by
  intro d
  induction d with
  | zero =>
    intro i k x5 hd hi hn hs hk
    obtain rfl : i = 100 := by omega
    obtain ⟨k, rfl⟩ : ∃ q, k = q + 1 + 1 := ⟨k - 2, by omega⟩
    refine ⟨k, x5, ((100 : Nat) : Int), by omega, hn, by omega, ?_⟩
    rw [cofferdamlaw10_LexNotes.l0]
    by_cases hlt : (((100 : Nat) : Int)) < a1.size
    · rw [if_pos hlt, decide_eq_false (by omega)]
    · rw [if_neg hlt]
  | succ d ih =>
    intro i k x5 hd hi hn hs hk
    obtain ⟨k, rfl⟩ : ∃ q, k = q + 1 + 1 := ⟨k - 2, by omega⟩
    by_cases hlt : (i : Int) < a1.size
    · by_cases hi2 : (i : Int) < 100
      · have hw : wrap64 ((i : Int) + 1) = ((i + 1 : Nat) : Int) := by unfold wrap64; omega
        have hj : cofferdamlaw10_LexNotes.l0 (k + 1 + 1) a0 a1 x5 i = cofferdamlaw10_LexNotes.j1 (k + 1) a0 a1 x5 i true := by
          rw [cofferdamlaw10_LexNotes.l0, if_pos hlt, decide_eq_true hi2]
        by_cases h10 : bt a1 i = 10
        · obtain ⟨k', y, j, e1, e2, e3, e4⟩ := ih (i + 1) k x5 (by omega) (by omega) hn (by omega) (by omega)
          refine ⟨k', y, j, e1, e2, e3, ?_⟩
          rw [← e4, hj, cofferdamlaw10_LexNotes.j1, if_pos rfl, if_pos (by omega), if_pos hlt, if_pos h10, hw]
        · have hone := notes_one a1 i (by omega)
          have hx : (a1.extract i (i + 1)).size = 1 := by
            have := bytesOf_length (a1.extract i (i + 1))
            rw [hone] at this
            simpa using this.symm
          obtain ⟨k', y, j, e1, e2, e3, e4⟩ := ih (i + 1) k (x5 ++ a1.extract i (i + 1)) (by omega) (by omega) (by
            rw [bytesOf_append, hone]; exact isNote_add hn _ h10) (by rw [ByteArray.size_append]; omega) (by omega)
          refine ⟨k', y, j, e1, e2, e3, ?_⟩
          rw [← e4, hj, cofferdamlaw10_LexNotes.j1, if_pos rfl, if_pos (by omega), if_pos hlt, if_neg h10, hw, if_pos (by omega), if_pos (by omega)]
          simp only [Int.toNat_natCast]
          rw [if_pos (by omega)]
      · refine ⟨k, x5, i, by omega, hn, by omega, ?_⟩
        rw [cofferdamlaw10_LexNotes.l0, if_pos hlt, decide_eq_false hi2]
    · refine ⟨k, x5, i, by omega, hn, by omega, ?_⟩
      rw [cofferdamlaw10_LexNotes.l0, if_neg hlt]
theorem notes_step (K : Nat) (hK : 40 ≤ K) (a0 a1 y : ByteArray) (j : Int) (h0 : a0.size ≤ 2000) (hy : y.size ≤ 102) (la ln : List S41) (ea ta en tn : Int)
    (hA : lex_Scan.f K a0 = some (la, ea, ta)) (hN : lex_Scan.f K ((((y ++ (⟨#[10]⟩ : ByteArray)) ++ a0) ++ (⟨#[10]⟩ : ByteArray)) ++ (y ++ (⟨#[10]⟩ : ByteArray))) = some (ln, en, tn)) :
    cofferdamlaw10_LexNotes.j1 (K + 1) a0 a1 y j false = if y.size + 1 + a0.size + 1 + (y.size + 1) > 2000 then some true else cofferdamlaw10_LexNotes.l1 K (y ++ (⟨#[10]⟩ : ByteArray)) la ea ta ln en tn 0 := by
  have z1 := size_10 y
  have z2 : ((y ++ (⟨#[10]⟩ : ByteArray)) ++ a0).size = y.size + 1 + a0.size := by rw [ByteArray.size_append, z1]
  have z3 : (((y ++ (⟨#[10]⟩ : ByteArray)) ++ a0) ++ (⟨#[10]⟩ : ByteArray)).size = y.size + 1 + a0.size + 1 := by rw [size_10, z2]
  have z4 : ((((y ++ (⟨#[10]⟩ : ByteArray)) ++ a0) ++ (⟨#[10]⟩ : ByteArray)) ++ (y ++ (⟨#[10]⟩ : ByteArray))).size = y.size + 1 + a0.size + 1 + (y.size + 1) := by rw [ByteArray.size_append, z3, z1]
  rw [cofferdamlaw10_LexNotes.j1, if_neg (by simp), if_pos (by omega), if_pos (by omega), if_pos (by omega), if_pos (by omega), z4]
  by_cases h : y.size + 1 + a0.size + 1 + (y.size + 1) > 2000
  · rw [if_pos (by omega), if_pos h]
    exact notes_alive _ hK
  · rw [if_neg (by omega), if_neg h, hA]
    simp only [Option.bind_some]
    rw [hN]
    rfl
theorem notes_bytes (y a0 : ByteArray) : bytesOf ((((y ++ (⟨#[10]⟩ : ByteArray)) ++ a0) ++ (⟨#[10]⟩ : ByteArray)) ++ (y ++ (⟨#[10]⟩ : ByteArray))) = bytesOf y ++ 10 :: (bytesOf a0 ++ 10 :: (bytesOf y ++ [10])) := by
  have h10 : bytesOf (⟨#[10]⟩ : ByteArray) = [10] := rfl
  simp only [bytesOf_append, h10]
  simp
theorem notes_j1 (K : Nat) (hK : 400000 ≤ K) (a0 a1 y : ByteArray) (j : Int) (h0 : a0.size ≤ 2000) (hy : y.size ≤ 102) (hn : isNote (bytesOf y)) :
    cofferdamlaw10_LexNotes.j1 (K + 1) a0 a1 y j false = some true := by
  by_cases h : y.size + 1 + a0.size + 1 + (y.size + 1) > 2000
  · obtain ⟨⟨la, ea, ta⟩, hA⟩ : ∃ x, lex_Scan.f K a0 = some x := ⟨_, scan_run _ K (by omega)⟩
    obtain ⟨⟨ln, en, tn⟩, hN⟩ : ∃ x, lex_Scan.f K ((((y ++ (⟨#[10]⟩ : ByteArray)) ++ a0) ++ (⟨#[10]⟩ : ByteArray)) ++ (y ++ (⟨#[10]⟩ : ByteArray))) = some x := ⟨_, scan_run _ K (by omega)⟩
    rw [notes_step K (by omega) a0 a1 y j h0 hy _ _ _ _ _ _ hA hN, if_pos h]
  · have hs := scan_notes (bytesOf y) (bytesOf a0) hn (by rw [bytesOf_length, bytesOf_length]; omega)
    rw [← notes_bytes, bytesOf_length] at hs
    have hz := size_10 y
    cases hA : scan (bytesOf a0) with
    | error e =>
      have he := told_err h0 hA
      have hb : 0 ≤ e.2 ∧ e.2 ≤ a0.size := by
        have hA' := hA
        unfold scan at hA'
        rw [if_neg (by rw [bytesOf_length]; omega)] at hA'
        have := scanF_err _ _ _ _ _ hA' (skipS_len _ _)
        rw [bytesOf_length] at this
        exact this.2
      rw [hA] at hs
      rw [notes_step K (by omega) a0 a1 y j h0 hy _ _ _ _ _ _ (scan_run_err hA K (by omega)) (scan_run_err hs K (by omega)), if_neg h]
      obtain ⟨k, rfl⟩ : ∃ q, K = q + 1 := ⟨K - 1, by omega⟩
      exact notes_end k (by omega) _ [] (by simp) e.1 e.2 _ (fun h => absurd h he) (fun _ => by rw [hz]; unfold wrap64; omega)
    | ok l =>
      have hl := scan_ok hA
      rw [bytesOf_length] at hl
      rw [hA] at hs
      rw [notes_step K (by omega) a0 a1 y j h0 hy _ _ _ _ _ _ (scan_run_ok hA K (by omega)) (scan_run_ok hs K (by omega)), if_neg h]
      obtain ⟨k', hk1, hk2⟩ := notes_loop 200001 (y ++ (⟨#[10]⟩ : ByteArray)) 0 (-1) (l.map (shiftTok (y.size + 1))) 0 (-1) l.length 0 K l (by omega) (by omega) (by omega) (by omega)
      simp only [Int.natCast_zero] at hk2
      have hm : l.map (shTok1 (y ++ (⟨#[10]⟩ : ByteArray)).size) = l.map (shiftTok (y.size + 1)) := by
        apply List.map_congr_left
        intro t ht
        have := hl.2.2 t ht
        rw [hz]
        unfold shTok1 shiftTok
        simp only [S41.mk.injEq, true_and]
        unfold wrap64
        omega
      rw [hk2, mapFrom_zero, hm]
      have := notes_end k' (by omega) (y ++ (⟨#[10]⟩ : ByteArray)) (l.map (shiftTok (y.size + 1))) (by simp; omega) 0 (-1) (-1) (fun _ => rfl) (fun h => absurd rfl h)
      rw [List.length_map] at this
      exact this
theorem LexNotes : cofferdamlaw10_LexNotes.Pure := by
  intro a b ha hb
  obtain ⟨K, hK⟩ : ∃ K : Nat, 400000 ≤ K := ⟨400000, Nat.le_refl _⟩
  refine ⟨K + 300, ?_⟩
  unfold cofferdamlaw10_LexNotes.f
  by_cases h : (a.size : Int) > 2000
  · rw [if_pos h]
    exact notes_alive _ (by omega)
  · rw [if_neg h]
    obtain ⟨k', y, j, e1, e2, e3, e4⟩ := notes_build K a b hb 100 0 (K + 300) (⟨#[47, 47]⟩ : ByteArray) (by omega) (by omega) ⟨[], rfl, by simp⟩ (by show 2 ≤ 2 + 0; omega) (by omega)
    simp only [Int.natCast_zero] at e4
    rw [e4]
    exact notes_j1 k' (by omega) a b y j (by omega) e3 e2
end Go.Proofs.Ytocclfjddihmbaa.Pure
