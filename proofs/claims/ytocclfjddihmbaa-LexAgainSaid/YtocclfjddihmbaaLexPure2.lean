import Derived.Test.YtocclfjddihmbaaLexPure
namespace Go.Proofs.Ytocclfjddihmbaa.Pure
open Go.RowKit Go.Proofs.Ytocclfjddihmbaa.P Go.Proofs.YtocclfjddihmbaaW.PrintWords Go.Proofs.YtocclfjddihmbaaW.PrintLast
set_option linter.unusedVariables false
set_option linter.unusedSimpArgs false

def shiftTok (d : Nat) (t : S41) : S41 := ⟨t.f0, t.f1, t.f2, t.f3 + d⟩
def shiftE (d : Nat) : Except (Int × Int) (List S41) → Except (Int × Int) (List S41)
  | .ok l => .ok (l.map (shiftTok d))
  | .error e => .error (e.1, e.2 + d)
theorem scanF_shift (d : Nat) : ∀ (f cnt : Nat) (r : List Int) (total : Nat), r.length ≤ total → scanF f cnt r (total + d) = shiftE d (scanF f cnt r total)
  | 0, cnt, r, total, _ => rfl
  | f + 1, cnt, r, total, h => by
    unfold scanF
    by_cases h1 : r = []
    · rw [if_pos h1, if_pos h1]; rfl
    · rw [if_neg h1, if_neg h1]
      by_cases h2 : cnt = 500
      · rw [if_pos h2, if_pos h2]
        simp only [shiftE]
        congr 2
        omega
      · rw [if_neg h2, if_neg h2]
        by_cases h3 : (oneL r).e = 0
        · rw [if_pos h3, if_pos h3]
          have hs := skipS_len (r.drop (oneL r).len) false
          rw [List.length_drop] at hs
          rw [scanF_shift d f (cnt + 1) _ total (by omega)]
          have ht : tokOf (oneL r) (total + d - r.length) = shiftTok d (tokOf (oneL r) (total - r.length)) := by
            unfold tokOf shiftTok
            simp only [S41.mk.injEq, true_and]
            omega
          rw [ht]
          cases scanF f (cnt + 1) (skipS false (r.drop (oneL r).len)) total with
          | ok l => rfl
          | error e => rfl
        · rw [if_neg h3, if_neg h3]
          simp only [shiftE]
          congr 2
          omega
theorem takeWhile_stop (p : Int → Bool) (x : Int) (hx : p x = false) (b : List Int) : ∀ l : List Int, (l ++ x :: b).takeWhile p = l.takeWhile p
  | [] => by simp [List.takeWhile_cons, hx]
  | c :: l => by
    rw [List.cons_append, List.takeWhile_cons, List.takeWhile_cons, takeWhile_stop p x hx b l]
theorem goes_stop (x : Int) (hx : (pLetter x || (x == 95)) = false) (b : List Int) : ∀ l : List Int, goesL (l ++ x :: b) = goesL l
  | [] => by simpa [goesL] using hx
  | c :: l => rfl
/-- A byte that nothing goes on with. -/
def stops (x : Int) : Prop := pWord x = false ∧ pFigure x = false ∧ pHex x = false ∧ (pLetter x || (x == 95)) = false
theorem stops10 : stops 10 := by unfold stops; decide
theorem stops32 : stops 32 := by unfold stops; decide
theorem oneL_stop (x : Int) (hx : stops x) (b : List Int) (r : List Int) (hr : r ≠ []) : oneL (r ++ x :: b) = oneL r := by
  obtain ⟨hw, hf, hh, hg⟩ := hx
  cases r with
  | nil => exact absurd rfl hr
  | cons c t =>
    rw [List.cons_append]
    simp only [oneL]
    have e1 : (c :: (t ++ x :: b)).takeWhile pWord = (c :: t).takeWhile pWord := takeWhile_stop pWord x hw b (c :: t)
    have e2 : (c :: (t ++ x :: b)).takeWhile pFigure = (c :: t).takeWhile pFigure := takeWhile_stop pFigure x hf b (c :: t)
    have e3 : (t ++ x :: b).takeWhile pHex = t.takeWhile pHex := takeWhile_stop pHex x hh b t
    have l2 := takeWhile_len pFigure (c :: t)
    have l3 := takeWhile_len pHex t
    have g2 : goesL ((c :: (t ++ x :: b)).drop ((c :: t).takeWhile pFigure).length) = goesL ((c :: t).drop ((c :: t).takeWhile pFigure).length) := by
      rw [← List.cons_append, List.drop_append_of_le_length l2]
      exact goes_stop x hg b _
    have g3 : goesL ((t ++ x :: b).drop (t.takeWhile pHex).length) = goesL (t.drop (t.takeWhile pHex).length) := by
      rw [List.drop_append_of_le_length l3]
      exact goes_stop x hg b _
    simp only [e1, e2, e3, g2, g3]
theorem skipS_stop (b : List Int) : ∀ (r : List Int) (q : Bool), skipS q (r ++ 10 :: b) = if skipS q r = [] then skipS false b else skipS q r ++ 10 :: b
  | [], q => by cases q <;> simp [skipS, isBlank]
  | c :: r, true => by
    rw [List.cons_append]
    by_cases hc : c = 10
    · have hA : skipS true (c :: (r ++ 10 :: b)) = skipS false (r ++ 10 :: b) := by simp only [skipS]; rw [if_pos hc]
      have hB : skipS true (c :: r) = skipS false r := by simp only [skipS]; rw [if_pos hc]
      rw [hA, hB]; exact skipS_stop b r false
    · have hA : skipS true (c :: (r ++ 10 :: b)) = skipS true (r ++ 10 :: b) := by simp only [skipS]; rw [if_neg hc]
      have hB : skipS true (c :: r) = skipS true r := by simp only [skipS]; rw [if_neg hc]
      rw [hA, hB]; exact skipS_stop b r true
  | c :: r, false => by
    rw [List.cons_append]
    by_cases hc : isBlank c = true
    · have hA : skipS false (c :: (r ++ 10 :: b)) = skipS false (r ++ 10 :: b) := by simp only [skipS]; rw [if_pos hc]
      have hB : skipS false (c :: r) = skipS false r := by simp only [skipS]; rw [if_pos hc]
      rw [hA, hB]; exact skipS_stop b r false
    · have hh : (r ++ 10 :: b).head? = some 47 ↔ r.head? = some 47 := by
        cases r with
        | nil => simp
        | cons d r => simp
      by_cases h2 : c = 47 ∧ r.head? = some 47
      · have hA : skipS false (c :: (r ++ 10 :: b)) = skipS true (r ++ 10 :: b) := by simp only [skipS]; rw [if_neg hc, if_pos ⟨h2.1, hh.2 h2.2⟩]
        have hB : skipS false (c :: r) = skipS true r := by simp only [skipS]; rw [if_neg hc, if_pos h2]
        rw [hA, hB]; exact skipS_stop b r true
      · have hA : skipS false (c :: (r ++ 10 :: b)) = c :: (r ++ 10 :: b) := by simp only [skipS]; rw [if_neg hc, if_neg (fun h => h2 ⟨h.1, hh.1 h.2⟩)]
        have hB : skipS false (c :: r) = c :: r := by simp only [skipS]; rw [if_neg hc, if_neg h2]
        rw [hA, hB]
        simp
theorem scanF_step (f cnt : Nat) (r : List Int) (total : Nat) : scanF (f + 1) cnt r total =
    if r = [] then .ok []
    else if cnt = 500 then .error (103, ((total - r.length : Nat) : Int))
    else if (oneL r).e = 0 then (scanF f (cnt + 1) (skipS false (r.drop (oneL r).len)) total).map (tokOf (oneL r) (total - r.length) :: ·)
    else .error ((oneL r).e, ((total - r.length + (oneL r).off : Nat) : Int)) := rfl
theorem oneL_off (l : List Int) (h : l ≠ []) : (oneL l).off ≤ l.length := by
  cases l with
  | nil => exact absurd rfl h
  | cons c t =>
    have h2 := takeWhile_len pFigure (c :: t)
    have h3 := takeWhile_len pHex t
    simp only [oneL]
    by_cases c1 : pLetter c = true
    · rw [if_pos c1]
      simp
    · rw [if_neg c1]
      by_cases c2 : pFigure c = true
      · rw [if_pos c2]
        simp only
        split <;> omega
      · rw [if_neg c2]
        by_cases c3 : c = 36
        · rw [if_pos c3]
          simp only [List.length_cons]
          split
          · omega
          · split <;> omega
        · rw [if_neg c3]
          by_cases c4 : c = 40 ∨ c = 41 ∨ c = 44 ∨ c = 61 ∨ c = 59
          · rw [if_pos c4]
            simp
          · rw [if_neg c4]
            simp
/-- Two texts with a line's end between. -/
theorem scanF_join (b : List Int) : ∀ (g cnt : Nat) (r : List Int) (total f : Nat), r.length < g → r.length ≤ total → r.length + 1 + b.length < f →
    scanF f cnt (skipS false (r ++ 10 :: b)) (total + (1 + b.length)) = match scanF g cnt (skipS false r) total with
      | .ok l => (scanF (b.length + 1) (cnt + l.length) (skipS false b) (total + (1 + b.length))).map (l ++ ·)
      | .error e => .error e
  | 0, _, _, _, _, h, _, _ => by omega
  | g + 1, cnt, r, total, 0, h, _, h3 => by omega
  | g + 1, cnt, r, total, f + 1, h, h2, h3 => by
    have hlen := skipS_len r false
    have hlb := skipS_len b false
    rw [skipS_stop]
    by_cases hs : skipS false r = []
    · rw [if_pos hs, hs]
      have h0 : scanF (g + 1) cnt [] total = .ok [] := by unfold scanF; simp
      rw [h0]
      simp only [List.length_nil, Nat.add_zero]
      rw [scanF_more (f + 1) (b.length + 1) cnt _ _ (by omega) (by omega)]
      cases scanF (b.length + 1) cnt (skipS false b) (total + (1 + b.length)) with
      | ok l => simp [Except.map]
      | error e => rfl
    · rw [if_neg hs]
      have hw := oneL_stop 10 stops10 b (skipS false r) hs
      rw [scanF_step g cnt (skipS false r) total, scanF_step f cnt (skipS false r ++ 10 :: b) _, if_neg (show ¬ (skipS false r ++ 10 :: b = []) by simp), if_neg hs, hw]
      have hp : total + (1 + b.length) - (skipS false r ++ 10 :: b).length = total - (skipS false r).length := by
        simp only [List.length_append, List.length_cons]
        omega
      rw [hp]
      by_cases h5 : cnt = 500
      · rw [if_pos h5, if_pos h5]
      · rw [if_neg h5, if_neg h5]
        have hol := oneL_len _ hs
        by_cases he : (oneL (skipS false r)).e = 0
        · rw [if_pos he, if_pos he]
          have hl1 := hol.2 he
          rw [List.drop_append_of_le_length hol.1]
          rw [scanF_join b g (cnt + 1) ((skipS false r).drop (oneL (skipS false r)).len) total f (by rw [List.length_drop]; omega) (by rw [List.length_drop]; omega) (by rw [List.length_drop]; omega)]
          cases scanF g (cnt + 1) (skipS false ((skipS false r).drop (oneL (skipS false r)).len)) total with
          | ok l =>
            simp only [Except.map, List.length_cons]
            rw [show cnt + 1 + l.length = cnt + (l.length + 1) by omega]
            cases scanF (b.length + 1) (cnt + (l.length + 1)) (skipS false b) (total + (1 + b.length)) with
            | ok m => rfl
            | error e => rfl
          | error e => rfl
        · rw [if_neg he, if_neg he]
/-- The count matters only past the limit. -/
theorem scanF_count : ∀ (f cnt cnt' : Nat) (r : List Int) (total : Nat) (l : List S41), scanF f cnt r total = .ok l → cnt' + l.length ≤ 500 → scanF f cnt' r total = .ok l
  | 0, _, _, _, _, l, h, _ => h
  | f + 1, cnt, cnt', r, total, l, h, h2 => by
    unfold scanF at h ⊢
    by_cases h1 : r = []
    · rw [if_pos h1] at h ⊢; exact h
    · rw [if_neg h1] at h ⊢
      by_cases h5 : cnt = 500
      · rw [if_pos h5] at h; cases h
      · rw [if_neg h5] at h
        by_cases he : (oneL r).e = 0
        · rw [if_pos he] at h ⊢
          cases hx : scanF f (cnt + 1) (skipS false (r.drop (oneL r).len)) total with
          | error e => rw [hx] at h; cases h
          | ok m =>
            rw [hx] at h
            simp only [Except.map, Except.ok.injEq] at h
            subst h
            simp only [List.length_cons] at h2
            rw [if_neg (by omega), scanF_count f (cnt + 1) (cnt' + 1) _ total m hx (by omega)]
            rfl
        · rw [if_neg he] at h; cases h
theorem scanF_at : ∀ (f cnt : Nat) (r : List Int) (total : Nat) (l : List S41), scanF f cnt r total = .ok l → r.length ≤ total → ∀ t ∈ l, 0 ≤ t.f3 ∧ t.f3 ≤ total
  | 0, _, _, _, l, h, _ => by
    simp only [scanF, Except.ok.injEq] at h
    subst h
    intro t ht
    cases ht
  | f + 1, cnt, r, total, l, h, hr => by
    unfold scanF at h
    by_cases h1 : r = []
    · rw [if_pos h1] at h
      simp only [Except.ok.injEq] at h
      subst h
      intro t ht
      cases ht
    · rw [if_neg h1] at h
      by_cases h5 : cnt = 500
      · rw [if_pos h5] at h; cases h
      · rw [if_neg h5] at h
        by_cases he : (oneL r).e = 0
        · rw [if_pos he] at h
          cases hx : scanF f (cnt + 1) (skipS false (r.drop (oneL r).len)) total with
          | error e => rw [hx] at h; cases h
          | ok m =>
            rw [hx] at h
            simp only [Except.map, Except.ok.injEq] at h
            subst h
            have hs := skipS_len (r.drop (oneL r).len) false
            rw [List.length_drop] at hs
            intro t ht
            rcases List.mem_cons.1 ht with rfl | ht
            · simp only [tokOf]; omega
            · exact scanF_at f (cnt + 1) _ total m hx (by omega) t ht
        · rw [if_neg he] at h; cases h
theorem scanF_err : ∀ (f cnt : Nat) (r : List Int) (total : Nat) (e : Int × Int), scanF f cnt r total = .error e → r.length ≤ total → e.1 ≠ 0 ∧ 0 ≤ e.2 ∧ e.2 ≤ total
  | 0, _, _, _, l, h, _ => by simp [scanF] at h
  | f + 1, cnt, r, total, l, h, hr => by
    unfold scanF at h
    by_cases h1 : r = []
    · rw [if_pos h1] at h; cases h
    · rw [if_neg h1] at h
      by_cases h5 : cnt = 500
      · rw [if_pos h5] at h
        simp only [Except.error.injEq] at h
        subst h
        simp only
        omega
      · rw [if_neg h5] at h
        by_cases he : (oneL r).e = 0
        · rw [if_pos he] at h
          cases hx : scanF f (cnt + 1) (skipS false (r.drop (oneL r).len)) total with
          | error e =>
            rw [hx] at h
            simp only [Except.map, Except.error.injEq] at h
            subst h
            have hs := skipS_len (r.drop (oneL r).len) false
            rw [List.length_drop] at hs
            exact scanF_err f (cnt + 1) _ total _ hx (by omega)
          | ok m => rw [hx] at h; cases h
        · rw [if_neg he] at h
          simp only [Except.error.injEq] at h
          subst h
          refine ⟨he, by simp only; omega, ?_⟩
          simp only
          have := oneL_off r h1
          omega
end Go.Proofs.Ytocclfjddihmbaa.Pure
