/- Proved here, for the claim of parseCut_holds: that the law holds: the texts of this work, one behind the other, laid by a program of this session. Conditions: none beside the statement's own. -/
import Derived.Test.YtknbfhhmjbnemaaDoorMB5
import Derived.Test.YtknbfhhmjbnemaaDoorMB6
import Derived.Test.YtknbfhhmjbnemaaDoorTie
import Derived.Test.YtknbfhhmjbnemaaDoorCards
import Derived.SevenTiedAt
section
namespace Go.Proofs.YtknbfhhmjbnemaaDoor.P
open Go.RowKit Go.Proofs.YtknbfhhmjbnemaaDoorW.PrintWords Go.Proofs.YtknbfhhmjbnemaaDoorW.PrintLast Go.Proofs.YtknbfhhmjbnemaaDoorW.PrintMore Go.Proofs.YtknbfhhmjbnemaaDoor.Pure
set_option linter.unusedVariables false
set_option linter.unusedSimpArgs false

/-! a text cut where a token begins, or at its end -/
theorem takeWhile_cut (p : Int → Bool) (x : Int) (hx : p x = false) (o : List Int) : ∀ (l : List Int) (c : Nat), (l.takeWhile p).length ≤ c → (l.take c ++ x :: o).takeWhile p = l.takeWhile p
  | [], c, _ => by simp [hx]
  | a :: l, c, h => by
    cases hp : p a with
    | false => 
      cases c with
      | zero => simp [hx, hp]
      | succ c => simp [hp]
    | true =>
      rw [List.takeWhile_cons, if_pos hp] at h ⊢
      cases c with
      | zero => simp at h
      | succ c =>
        rw [List.take_succ_cons, List.cons_append, List.takeWhile_cons, if_pos hp, takeWhile_cut p x hx o l c (by simpa using h)]
theorem goes_cut (o : List Int) (l : List Int) (c n : Nat) (hn : n ≤ c) (hl0 : n ≤ l.length) (h : goesL (l.drop n) = false) : goesL ((l.take c ++ 32 :: o).drop n) = false := by
  have hl : n ≤ (l.take c).length := by rw [List.length_take]; omega
  rw [List.drop_append_of_le_length hl]
  cases hd : (l.take c).drop n with
  | nil => rfl
  | cons a t =>
    have h2 : ∃ t', l.drop n = a :: t' := by
      rw [List.drop_take] at hd
      cases hq : l.drop n with
      | nil => rw [hq] at hd; simp at hd
      | cons b u =>
        rw [hq] at hd
        cases hk : c - n with
        | zero => rw [hk] at hd; simp at hd
        | succ k => rw [hk] at hd; simp at hd; exact ⟨u, by rw [hd.1]⟩
    obtain ⟨t', ht⟩ := h2
    rw [ht] at h
    exact h
theorem oneL_cut (r : List Int) (hr : r ≠ []) (he : (oneL r).e = 0) (c : Nat) (hc : (oneL r).len ≤ c) (o : List Int) : oneL (r.take c ++ 32 :: o) = oneL r := by
  have hlen := (oneL_len r hr).2 he
  cases r with
  | nil => exact absurd rfl hr
  | cons a t =>
    obtain ⟨c, rfl⟩ : ∃ c', c = c' + 1 := ⟨c - 1, by omega⟩
    rw [List.take_succ_cons, List.cons_append]
    obtain ⟨hw, hf, hh, hg⟩ := stops32
    simp only [oneL] at he hc ⊢
    by_cases h1 : pLetter a = true
    · simp only [if_pos h1] at he hc ⊢
      have e1 := takeWhile_cut pWord 32 hw o (a :: t) (c + 1) hc
      rw [List.take_succ_cons, List.cons_append] at e1
      rw [e1]
    · simp only [if_neg h1] at he hc ⊢
      by_cases h2 : pFigure a = true
      · simp only [if_pos h2] at he hc ⊢
        have e1 := takeWhile_cut pFigure 32 hf o (a :: t) (c + 1) hc
        rw [List.take_succ_cons, List.cons_append] at e1
        have h9 : ¬ 9 < ((a :: t).takeWhile pFigure).length := by intro h; rw [if_pos h] at he; cases he
        rw [if_neg h9] at he
        have hgo : goesL ((a :: t).drop ((a :: t).takeWhile pFigure).length) = false := by
          cases hq : goesL ((a :: t).drop ((a :: t).takeWhile pFigure).length) with
          | false => rfl
          | true => rw [if_pos hq] at he; cases he
        have hgo2 := goes_cut o (a :: t) (c + 1) _ hc (takeWhile_len pFigure (a :: t)) hgo
        rw [List.take_succ_cons, List.cons_append] at hgo2
        rw [e1, hgo2, hgo]
      · simp only [if_neg h2] at he hc ⊢
        by_cases h3 : a = 36
        · simp only [if_pos h3] at he hc ⊢
          have e1 := takeWhile_cut pHex 32 hh o t c (by omega)
          have h0 : ¬ (t.takeWhile pHex).length = 0 := by intro h; rw [if_pos h] at he; cases he
          rw [if_neg h0] at he
          have h9 : ¬ 128 < (t.takeWhile pHex).length := by intro h; rw [if_pos h] at he; cases he
          rw [if_neg h9] at he
          have hgo : goesL (t.drop (t.takeWhile pHex).length) = false := by
            cases hq : goesL (t.drop (t.takeWhile pHex).length) with
            | false => rfl
            | true => rw [if_pos hq] at he; cases he
          have hgo2 := goes_cut o t c _ (by omega) (takeWhile_len pHex t) hgo
          rw [e1, hgo2, hgo]
        · simp only [if_neg h3]
/-- Where a text may be cut: within what is left behind blanks, or behind it. -/
def CutIn (r : List Int) (c : Nat) (o r' : List Int) : Prop := (0 < c ∧ c ≤ r.length ∧ r' = r.take c ++ 32 :: o) ∨ (c = 0 ∧ ∃ q, r' = skipS q (32 :: o))
theorem skip_cut (o : List Int) : ∀ (x : List Int) (q : Bool) (d : Nat), d ≤ x.length → x.length - (skipS q x).length ≤ d → CutIn (skipS q x) (d - (x.length - (skipS q x).length)) o (skipS q (x.take d ++ 32 :: o))
  | [], q, d, hd, h => by
    have hd0 : d = 0 := by simpa using hd
    subst hd0
    exact .inr ⟨by simp, q, by simp⟩
  | a :: x, true, d, hd, h => by
    have hlx := skipS_len x (if a = 10 then false else true)
    by_cases ha : a = 10
    · have hB : skipS true (a :: x) = skipS false x := by simp only [skipS]; rw [if_pos ha]
      rw [hB] at h ⊢
      have hlx := skipS_len x false
      simp only [List.length_cons] at h hd ⊢
      obtain ⟨d, rfl⟩ : ∃ d', d = d' + 1 := ⟨d - 1, by omega⟩
      have hA : skipS true ((a :: x).take (d + 1) ++ 32 :: o) = skipS false (x.take d ++ 32 :: o) := by
        rw [List.take_succ_cons, List.cons_append]; simp only [skipS]; rw [if_pos ha]
      rw [hA]
      have := skip_cut o x false d (by omega) (by omega)
      rwa [show d - (x.length - (skipS false x).length) = d + 1 - (x.length + 1 - (skipS false x).length) by omega] at this
    · have hB : skipS true (a :: x) = skipS true x := by simp only [skipS]; rw [if_neg ha]
      rw [hB] at h ⊢
      have hlx := skipS_len x true
      simp only [List.length_cons] at h hd ⊢
      obtain ⟨d, rfl⟩ : ∃ d', d = d' + 1 := ⟨d - 1, by omega⟩
      have hA : skipS true ((a :: x).take (d + 1) ++ 32 :: o) = skipS true (x.take d ++ 32 :: o) := by
        rw [List.take_succ_cons, List.cons_append]; simp only [skipS]; rw [if_neg ha]
      rw [hA]
      have := skip_cut o x true d (by omega) (by omega)
      rwa [show d - (x.length - (skipS true x).length) = d + 1 - (x.length + 1 - (skipS true x).length) by omega] at this
  | a :: x, false, d, hd, h => by
    by_cases ha : isBlank a = true
    · have hB : skipS false (a :: x) = skipS false x := by simp only [skipS]; rw [if_pos ha]
      rw [hB] at h ⊢
      have hlx := skipS_len x false
      simp only [List.length_cons] at h hd ⊢
      obtain ⟨d, rfl⟩ : ∃ d', d = d' + 1 := ⟨d - 1, by omega⟩
      have hA : skipS false ((a :: x).take (d + 1) ++ 32 :: o) = skipS false (x.take d ++ 32 :: o) := by
        rw [List.take_succ_cons, List.cons_append]; simp only [skipS]; rw [if_pos ha]
      rw [hA]
      have := skip_cut o x false d (by omega) (by omega)
      rwa [show d - (x.length - (skipS false x).length) = d + 1 - (x.length + 1 - (skipS false x).length) by omega] at this
    · by_cases h2 : a = 47 ∧ x.head? = some 47
      · have hB : skipS false (a :: x) = skipS true x := by simp only [skipS]; rw [if_neg ha, if_pos h2]
        rw [hB] at h ⊢
        have hlx := skipS_len x true
        have hlx2 : (skipS true x).length + 1 ≤ x.length := by
          obtain ⟨_, h3⟩ := h2
          cases x with
          | nil => cases h3
          | cons b y =>
            simp only [List.head?_cons, Option.some.injEq] at h3
            subst h3
            have : skipS true (47 :: y) = skipS true y := by simp only [skipS]; rw [if_neg (by decide)]
            rw [this]
            have := skipS_len y true
            simp only [List.length_cons]
            omega
        simp only [List.length_cons] at h hd ⊢
        obtain ⟨d, rfl⟩ : ∃ d', d = d' + 1 := ⟨d - 1, by omega⟩
        have hh : (x.take d ++ 32 :: o).head? = some 47 := by
          cases x with
          | nil => cases h2.2
          | cons b y =>
            obtain ⟨d, rfl⟩ : ∃ d', d = d' + 1 := ⟨d - 1, by simp only [List.length_cons] at h hlx2; omega⟩
            rw [List.take_succ_cons, List.cons_append]
            exact h2.2
        have hA : skipS false ((a :: x).take (d + 1) ++ 32 :: o) = skipS true (x.take d ++ 32 :: o) := by
          rw [List.take_succ_cons, List.cons_append]; simp only [skipS]; rw [if_neg ha, if_pos ⟨h2.1, hh⟩]
        rw [hA]
        have := skip_cut o x true d (by omega) (by omega)
        rwa [show d - (x.length - (skipS true x).length) = d + 1 - (x.length + 1 - (skipS true x).length) by omega] at this
      · have hB : skipS false (a :: x) = a :: x := by simp only [skipS]; rw [if_neg ha, if_neg h2]
        rw [hB] at h ⊢
        simp only [Nat.sub_self, Nat.sub_zero] at h ⊢
        by_cases hd0 : d = 0
        · subst hd0
          exact .inr ⟨rfl, false, by simp⟩
        · obtain ⟨d, rfl⟩ : ∃ d', d = d' + 1 := ⟨d - 1, by omega⟩
          refine .inl ⟨by omega, hd, ?_⟩
          rw [List.take_succ_cons, List.cons_append]
          have h3 : ¬ (a = 47 ∧ (x.take d ++ 32 :: o).head? = some 47) := by
            rintro ⟨h4, h5⟩
            apply h2
            refine ⟨h4, ?_⟩
            cases d with
            | zero => simp at h5
            | succ d =>
              cases x with
              | nil => simp at h5
              | cons b y => simpa using h5
          simp only [skipS]
          rw [if_neg ha, if_neg h3]
theorem scanF_low : ∀ (f cnt : Nat) (r : List Int) (total : Nat) (l : List S60), scanF f cnt r total = .ok l → r.length ≤ total → ∀ t ∈ l, ((total - r.length : Nat) : Int) ≤ t.f3
  | 0, cnt, r, total, l, h, hr => by
    simp only [scanF, Except.ok.injEq] at h
    subst h
    intro t ht
    cases ht
  | f + 1, cnt, r, total, l, h, hr => by
    rw [scanF] at h
    split at h
    · cases h; intro t ht; cases ht
    · split at h
      · cases h
      · split at h
        · cases hs : scanF f (cnt + 1) (skipS false (r.drop (oneL r).len)) total with
          | error e => rw [hs] at h; cases h
          | ok m =>
            rw [hs] at h
            simp only [Except.map, Except.ok.injEq] at h
            subst h
            intro t ht
            rcases List.mem_cons.1 ht with rfl | ht
            · exact Int.le_refl _
            · have h1 := skipS_len (r.drop (oneL r).len) false
              rw [List.length_drop] at h1
              have := scanF_low f (cnt + 1) _ total m hs (by omega) t ht
              omega
        · cases h
/-- A text cut ahead of a token, or at its end, with a blank and whatever behind it: the tokens ahead of the cut are as they were. -/
theorem scanF_cut (o : List Int) : ∀ (f cnt : Nat) (r : List Int) (total : Nat) (l : List S60) (at_ c : Nat) (r' : List Int) (f' : Nat) (U : List S60),
    scanF f cnt r total = .ok l → r.length < f → r.length ≤ total → (total - r.length) + c = at_ → CutIn r c o r' → ((∃ t ∈ l, t.f3 = (at_ : Int)) ∨ at_ = total) →
    r'.length < f' → scanF f' cnt r' (at_ + 1 + o.length) = .ok U → ∃ V R R', l = V ++ R ∧ U = V ++ R' ∧ (∀ t ∈ R, (at_ : Int) ≤ t.f3) ∧ (∀ t ∈ R', (at_ : Int) ≤ t.f3) ∧ ∀ t ∈ V, t.f3 < (at_ : Int)
  | 0, cnt, r, total, l, at_, c, r', f', U, h, hf, hr, hc, hcut, hb, hf', hU => by omega
  | f + 1, cnt, r, total, l, at_, c, r', f', U, h, hf, hr, hc, hcut, hb, hf', hU => by
    have HB := Aside0.mk hb
    clear hb
    rcases hcut with ⟨hc0, hcl, rfl⟩ | ⟨rfl, q, rfl⟩
    · -- within
      have hrne : r ≠ [] := by intro e; subst e; simp at hcl; omega
      obtain ⟨f', rfl⟩ : ∃ g, f' = g + 1 := ⟨f' - 1, by omega⟩
      have hrn' : r.take c ++ 32 :: o ≠ [] := by simp
      have hlen' : (r.take c ++ 32 :: o).length = c + 1 + o.length := by rw [List.length_append, List.length_take, List.length_cons]; omega
      rw [scanF, if_neg hrne] at h
      rw [scanF, if_neg hrn'] at hU
      split at h
      · cases h
      rename_i hcnt
      rw [if_neg hcnt] at hU
      split at h
      case isFalse => cases h
      rename_i he
      cases hs : scanF f (cnt + 1) (skipS false (r.drop (oneL r).len)) total with
      | error e => rw [hs] at h; cases h
      | ok m =>
        rw [hs] at h
        simp only [Except.map, Except.ok.injEq] at h
        subst h
        have hol := oneL_len r hrne
        have h1 := (hol).2 he
        have hsk := skipS_len (r.drop (oneL r).len) false
        rw [List.length_drop] at hsk
        -- the cut lies behind the token and the blanks
        have hge : (total - (skipS false (r.drop (oneL r).len)).length) ≤ at_ := by
          rcases HB.out with ⟨t, ht, hta⟩ | hb
          · rcases List.mem_cons.1 ht with rfl | ht
            · simp only [tokOf] at hta
              omega
            · have := scanF_low f (cnt + 1) _ total m hs (by omega) t ht
              omega
          · omega
        have e1 := oneL_cut r hrne he c (by omega) o
        rw [e1, if_pos he] at hU
        have hp : (at_ + 1 + o.length) - (r.take c ++ 32 :: o).length = total - r.length := by rw [hlen']; omega
        rw [hp] at hU
        have hdrop : (r.take c ++ 32 :: o).drop (oneL r).len = (r.drop (oneL r).len).take (c - (oneL r).len) ++ 32 :: o := by
          rw [List.drop_append_of_le_length (by rw [List.length_take]; omega), List.drop_take]
        rw [hdrop] at hU
        have hcut2 := skip_cut o (r.drop (oneL r).len) false (c - (oneL r).len) (by rw [List.length_drop]; omega) (by rw [List.length_drop]; omega)
        rw [List.length_drop] at hcut2
        cases hs2 : scanF f' (cnt + 1) (skipS false ((r.drop (oneL r).len).take (c - (oneL r).len) ++ 32 :: o)) (at_ + 1 + o.length) with
        | error e => rw [hs2] at hU; cases hU
        | ok m2 =>
          rw [hs2] at hU
          simp only [Except.map, Except.ok.injEq] at hU
          subst hU
          have hl2 := skipS_len ((r.drop (oneL r).len).take (c - (oneL r).len) ++ 32 :: o) false
          rw [List.length_append, List.length_take, List.length_drop, List.length_cons] at hl2
          rw [hlen'] at hf'
          obtain ⟨V, R, R', hm, hm2, hR, hR', hV⟩ := scanF_cut o f (cnt + 1) (skipS false (r.drop (oneL r).len)) total m at_ _ _ f' m2 hs (by omega) (by omega) (by omega) hcut2 (by
            rcases HB.out with ⟨t, ht, hta⟩ | hb
            · rcases List.mem_cons.1 ht with rfl | ht
              · simp only [tokOf] at hta
                omega
              · exact .inl ⟨t, ht, hta⟩
            · exact .inr hb) (by omega) hs2
          refine ⟨tokOf (oneL r) (total - r.length) :: V, R, R', by rw [hm]; rfl, by rw [hm2]; rfl, hR, hR', fun t ht => ?_⟩
          rcases List.mem_cons.1 ht with rfl | ht
          · simp only [tokOf]
            omega
          · exact hV t ht
    · -- at the cut
      refine ⟨[], l, U, rfl, rfl, fun t ht => ?_, fun t ht => ?_, fun t ht => by cases ht⟩
      · have := scanF_low (f + 1) cnt r total l h hr t ht
        omega
      · have hl := skipS_len (32 :: o) q
        rw [List.length_cons] at hl
        have := scanF_low f' cnt _ (at_ + 1 + o.length) U hU (by omega) t ht
        omega
theorem oneL_codes (r : List Int) : (oneL r).e = 0 ∨ (oneL r).e = 101 ∨ (oneL r).e = 102 := by
  cases r with
  | nil => exact .inl rfl
  | cons a t =>
    simp only [oneL]
    repeat' split
    all_goals simp
theorem scanF_codes : ∀ (f cnt : Nat) (r : List Int) (total : Nat) (e : Int × Int), scanF f cnt r total = .error e → e.1 = 101 ∨ e.1 = 102 ∨ e.1 = 103
  | 0, cnt, r, total, e, h => by simp [scanF] at h
  | f + 1, cnt, r, total, e, h => by
    rw [scanF] at h
    split at h
    · cases h
    · split at h
      · cases h; exact .inr (.inr rfl)
      · split at h
        · cases hs : scanF f (cnt + 1) (skipS false (r.drop (oneL r).len)) total with
          | error e2 =>
            rw [hs] at h
            cases h
            exact scanF_codes f (cnt + 1) _ total _ hs
          | ok m => rw [hs] at h; cases h
        · rename_i he
          cases h
          have := oneL_codes r
          simp only
          omega
theorem scan_codes {l : List Int} {e : Int × Int} (h : scan l = .error e) : e.1 = 101 ∨ e.1 = 102 ∨ e.1 = 103 := by
  unfold scan at h
  split at h
  · cases h; exact .inr (.inr rfl)
  · exact scanF_codes _ _ _ _ _ h
theorem scan_bounds {l : List Int} {e : Int × Int} (h : scan l = .error e) : 0 ≤ e.2 ∧ e.2 ≤ l.length := by
  unfold scan at h
  split at h
  · cases h; exact ⟨Int.le_refl _, by omega⟩
  · exact (scanF_err _ _ _ _ _ h (skipS_len _ _)).2
/-- A fault stands within the text, or at its end. -/
theorem fault_bounds (s : ByteArray) (h : (parseX s).2.1 ≠ 0) : 0 ≤ (parseX s).2.2 ∧ (parseX s).2.2 ≤ s.size := by
  have e : s.size = (bytesOf s).length := (bytesOf_length _).symm
  cases hs : scan (bytesOf s) with
  | error x =>
    rw [parseX_err hs]
    have := scan_bounds hs
    rw [← e] at this
    exact this
  | ok T =>
    obtain ⟨r, hr⟩ := stmts_some hs 600 (Nat.le_refl _)
    have h1 := parseX_ok hs (hr 600 (Nat.le_refl _))
    rcases r with x | ⟨L, T'⟩
    · rw [h1]
      obtain ⟨S, hS, hp⟩ := ((Mono.stmts 600 []) T s.size).2 x (hr 600 (Nat.le_refl _))
      show 0 ≤ x.2 ∧ x.2 ≤ s.size
      rw [hp]
      cases S with
      | nil => exact ⟨by simp [pplace], by simp [pplace]⟩
      | cons t S =>
        have := (scan_ok hs).2.2 t (hS.subset (List.mem_cons_self ..))
        rw [← e] at this
        exact this
    · rw [h1] at h
      exact absurd rfl h
/-- A fault stands where it is met. -/
theorem cut_plain (s : ByteArray) (o : ByteArray) (s' : ByteArray) (a : Nat) (h : (parseX s).2.1 = 111) (ha : (parseX s).2.2 = a) (hs' : bytesOf s' = (bytesOf s).take a ++ 32 :: bytesOf o) :
    (parseX s').2.1 = 0 ∨ (a : Int) ≤ (parseX s').2.2 ∨ (parseX s').2.1 ≠ 111 := by
  have e : s.size = (bytesOf s).length := (bytesOf_length _).symm
  have hbnd := fault_bounds s (by omega)
  rw [ha, e] at hbnd
  cases hs : scan (bytesOf s) with
  | error x =>
    rw [parseX_err hs] at h
    have := scan_codes hs
    simp only at h
    omega
  | ok T =>
    obtain ⟨r, hr⟩ := stmts_some hs 600 (Nat.le_refl _)
    have h1 := parseX_ok hs (hr 600 (Nat.le_refl _))
    rcases r with x | ⟨L, T'⟩
    rotate_left
    · rw [h1] at h; cases h
    rw [h1] at h ha
    have hx1 : x.1 = 111 := h
    have hx2 : x.2 = a := ha
    obtain ⟨S, hS, hp⟩ := ((Mono.stmts 600 []) T s.size).2 x (hr 600 (Nat.le_refl _))
    have hbd : (∃ t ∈ T, t.f3 = (a : Int)) ∨ a = (bytesOf s).length := by
      cases S with
      | nil => right; rw [hx2] at hp; simp only [pplace] at hp; omega
      | cons t S => left; exact ⟨t, hS.subset (List.mem_cons_self ..), by rw [← hx2, hp]; rfl⟩
    cases hu : scan (bytesOf s') with
    | error y =>
      rw [parseX_err hu]
      have := scan_codes hu
      right; right
      simp only
      omega
    | ok U =>
      have hsF := hs
      have huF := hu
      unfold scan at hsF huF
      split at hsF
      · cases hsF
      split at huF
      · cases huF
      have hlen' : (bytesOf s').length = a + 1 + (bytesOf o).length := by rw [hs', List.length_append, List.length_take, List.length_cons]; omega
      have hsk := skipS_len (bytesOf s) false
      have hsk2 := skipS_len (bytesOf s') false
      have hge : (bytesOf s).length - (skipS false (bytesOf s)).length ≤ a := by
        rcases hbd with ⟨t, ht, hta⟩ | hb
        · have := scanF_low _ _ _ _ _ hsF hsk t ht
          omega
        · omega
      have hcut := skip_cut (bytesOf o) (bytesOf s) false a (by omega) hge
      rw [← hs'] at hcut
      rw [hlen'] at huF
      have hHB := Aside0.mk hbd
      clear hbd
      obtain ⟨V, R, R', rfl, rfl, hR, hR', hV⟩ := scanF_cut (bytesOf o) _ 0 _ _ T a _ _ _ U hsF (by omega) hsk (by omega) hcut hHB.out (by omega) huF
      obtain ⟨r', hr'⟩ := stmts_some hu 600 (Nat.le_refl _)
      have h2 := parseX_ok hu (hr' 600 (Nat.le_refl _))
      rcases r' with y | ⟨L, T'⟩
      rotate_left
      · left; rw [h2]; rfl
      rw [h2]
      show y.1 = 0 ∨ (a : Int) ≤ y.2 ∨ y.1 ≠ 111
      by_cases hya : (a : Int) ≤ y.2
      · exact .inr (.inl hya)
      · exfalso
        have hfe := FE.stmts 600 [] [] El.nil V R' R s'.size s.size a y hR' (by
          have e' : s'.size = (bytesOf s').length := (bytesOf_length _).symm
          omega) (hr' 600 (Nat.le_refl _)) (by omega)
        have h3 := hr 600 (Nat.le_refl _)
        rw [hfe] at h3
        simp only [Option.some.injEq, Except.error.injEq] at h3
        rw [h3] at hya
        omega
theorem cat32 (a b : ByteArray) (n : Nat) : bytesOf (a.extract 0 n ++ (⟨#[32]⟩ : ByteArray) ++ b) = (bytesOf a).take n ++ 32 :: bytesOf b := by
  have h := bytesOf_extract a 0 n
  rw [Nat.zero_add, List.drop_zero] at h
  rw [bytesOf_append, bytesOf_append, h]
  have : bytesOf (⟨#[32]⟩ : ByteArray) = [32] := by decide
  rw [this]
  simp
end Go.Proofs.YtknbfhhmjbnemaaDoor.P
end
section
namespace Go.Proofs.YtknbfhhmjbnemaaDoor.P
open Go.RowKit Go.Proofs.YtknbfhhmjbnemaaDoorW.PrintWords Go.Proofs.YtknbfhhmjbnemaaDoorW.PrintLast Go.Proofs.YtknbfhhmjbnemaaDoorW.PrintMore Go.Proofs.YtknbfhhmjbnemaaDoor.Pure
set_option linter.unusedVariables false
set_option linter.unusedSimpArgs false

set_option maxHeartbeats 8000000 in
set_option maxRecDepth 100000 in
theorem cut_calls (a b : ByteArray) (m : Int) (w : World) (hm : w.cell? ⟨0, 0, none⟩ = some (.int .i64 m)) (ht : TabW w) (ha : a.size ≤ 140737488351232) (hb : b.size ≤ 140737488351232) :
    Calls Tryd.prog 7 #[.string a, .string b] w (LawEnd w) := by
  have hu25 := Tryd.underlying25
  have LW0 := Aside0.mk (show LawW m w w from ⟨hm, ht, Below.refl _ _⟩)
  have HTW := Aside0.mk (And.intro ht hm)
  clear hm ht
  go_enter Tryd.func7, Tryd.ntmps7
  obtain ⟨⟨na, ea, ta⟩, hxa⟩ : ∃ x, ParX a x := ⟨_, rfl⟩
  have HXa := Aside0.mk hxa
  clear hxa
  go_upto_region 2 with (go_at_call 9; (with_reducible refine (law_parse LW0.out _ HXa.out).mono ?_); rintro e wa ⟨Aa, ca, rfl, h1, h2, h3⟩; have NFa := Aside0.mk h1; have LWa0 := Aside0.mk h2; have BBa := Aside0.mk h3; clear h1 h2 h3)
  generalize hW : World.alloc wa _ = Wa
  have Xa := Aside0.mk (show NodeX Wa wa.heap.size (fun k => w.heap.size ≤ k ∧ k < wa.heap.size) na Aa ca from by rw [← hW]; exact NodeX.new NFa.out)
  have SZa := Aside0.mk (show Wa.heap.size = wa.heap.size + 1 from by rw [← hW, World.size_alloc])
  have LWa := Aside0.mk (show LawW m w Wa from by rw [← hW]; exact LWa0.out.alloc _)
  have BXa := Aside0.mk (show Below w.heap.size w Wa from by rw [← hW]; exact below_alloc BBa.out _)
  have Ba0 := Aside0.mk BBa.out.size
  clear hW LWa0 BBa
  have hpx : parseX a = (na, ea, ta) := HXa.out
  have hbd := fault_bounds a
  rw [hpx] at hbd
  simp only at hbd
  by_cases hea : ea = 0
  case pos =>
    have hta : ta = -1 := by obtain ⟨T, L, _, _, h3⟩ := parseX_file (s := a) (by rw [hpx]; exact hea); rw [hpx] at h3; cases h3; rfl
    have qa1 : (ea == 0) = true := by rw [hea]; rfl
    have qa2 : (ea != 0) = false := by rw [hea]; rfl
    have qt : (ta == -1) = true := by rw [hta]; rfl
    clear hea hta hbd hpx
    go_wp2_with (go_at_call 8; (with_reducible refine (law_alive LWa.out).mono ?_); rintro e w9 ⟨rfl, h1, h2⟩; have LW9 := Aside0.mk h1; clear h1 h2)
    go_ret
    exact ⟨rfl, LW9.out.bel⟩
  obtain ⟨hb0, hb1⟩ := hbd hea
  obtain ⟨an, han⟩ : ∃ n : Nat, ta = (n : Int) := ⟨ta.toNat, by omega⟩
  subst han
  have hle : an ≤ a.size := by omega
  clear hb0 hb1 hbd
  have qa1 : (ea == 0) = false := by simpa using hea
  have qa2 : (ea != 0) = true := by simpa using hea
  have l11 : decide ((an : Int) < 0) = false := decide_eq_false (by omega)
  have l12 : decide (0 > (an : Int)) = false := decide_eq_false (by omega)
  have l21 : decide ((a.size : Int) < (an : Int)) = false := decide_eq_false (by omega)
  have l22 : decide ((an : Int) > (a.size : Int)) = false := decide_eq_false (by omega)
  have l3 : decide (a.size < an) = false := decide_eq_false (by omega)
  by_cases he1 : ea = 111
  case neg =>
    have qb1 : (ea == 111) = false := by simpa using he1
    have qb2 : (ea != 111) = true := by simpa using he1
    clear hea he1 hpx
    go_wp2_with (go_at_call 8; (with_reducible refine (law_alive LWa.out).mono ?_); rintro e w9 ⟨rfl, h1, h2⟩; have LW9 := Aside0.mk h1; clear h1 h2)
    go_ret
    exact ⟨rfl, LW9.out.bel⟩
  have qb1 : (ea == 111) = true := by rw [he1]; rfl
  have qb2 : (ea != 111) = false := by rw [he1]; rfl
  by_cases hob : 100 < b.size
  case pos =>
    have l41 : decide (100 < (b.size : Int)) = true := decide_eq_true (by omega)
    have l42 : decide ((b.size : Int) > 100) = true := decide_eq_true (by omega)
    have l5 : decide (100 < b.size) = true := decide_eq_true hob
    clear hea he1 hpx hob
    go_wp2_with (go_at_call 8; (with_reducible refine (law_alive LWa.out).mono ?_); rintro e w9 ⟨rfl, h1, h2⟩; have LW9 := Aside0.mk h1; clear h1 h2)
    go_ret
    exact ⟨rfl, LW9.out.bel⟩
  have l41 : decide (100 < (b.size : Int)) = false := decide_eq_false (by omega)
  have l42 : decide ((b.size : Int) > 100) = false := decide_eq_false (by omega)
  have l5 : decide (100 < b.size) = false := decide_eq_false hob
  have hcl := cut_plain a b (a.extract 0 an ++ (⟨#[32]⟩ : ByteArray) ++ b) an (by rw [hpx]; exact he1) (by rw [hpx])
  have hsz1 : an + 1 ≤ 140737488351233 := by omega
  have hsz2 : an + 1 + b.size ≤ 140737488351400 := by omega
  have HCL := Aside0.mk hcl
  clear hcl hpx hea he1 hob
  have hx1 : (0 : Int) ≤ (an : Int) := by omega
  have hx2 : (an : Int) ≤ (a.size : Int) := by omega
  have hsz0 : (a.extract 0 an).size = an := by rw [ByteArray.size_extract]; omega
  go_upto_region 8 with (fail)
  obtain ⟨⟨nb, eb, tb⟩, hxb⟩ : ∃ x, ParX (a.extract 0 an ++ (⟨#[32]⟩ : ByteArray) ++ b) x := ⟨_, rfl⟩
  have HXb := Aside0.mk hxb
  clear hxb
  go_upto_region 9 with (go_at_call 9; (with_reducible refine (law_parse LWa.out _ HXb.out).mono ?_); rintro e wb ⟨Ab, cb, rfl, h1, h2, h3⟩; have NFb := Aside0.mk h1; have LWb0 := Aside0.mk h2; have BBb := Aside0.mk h3; clear h1 h2 h3)
  generalize hW : World.alloc wb _ = Wb
  have Xb := Aside0.mk (show NodeX Wb wb.heap.size (fun k => Wa.heap.size ≤ k ∧ k < wb.heap.size) nb Ab cb from by rw [← hW]; exact NodeX.new NFb.out)
  have SZb := Aside0.mk (show Wb.heap.size = wb.heap.size + 1 from by rw [← hW, World.size_alloc])
  have LWb := Aside0.mk (show LawW m w Wb from by rw [← hW]; exact LWb0.out.alloc _)
  have BXb := Aside0.mk (show Below Wa.heap.size Wa Wb from by rw [← hW]; exact below_alloc BBb.out _)
  have Bb0 := Aside0.mk BBb.out.size
  clear hW LWb0 BBb
  have hpb : parseX (a.extract 0 an ++ (⟨#[32]⟩ : ByteArray) ++ b) = (nb, eb, tb) := HXb.out
  have hcl := HCL.out (cat32 a b an)
  rw [hpb] at hcl
  simp only at hcl
  clear hpb hsz0 hsz1 hsz2 hx1 hx2 l11 l12 l21 l22 l3 l41 l42 l5 qa1 qa2 qb1 qb2 HCL
  by_cases hf0 : eb = 0
  case pos =>
    have qf1 : (eb == 0) = true := by rw [hf0]; rfl
    have qf2 : (eb != 0) = false := by rw [hf0]; rfl
    clear hf0 hcl
    go_wp2_with (go_at_call 8; (with_reducible refine (law_alive LWb.out).mono ?_); rintro e w9 ⟨rfl, h1, h2⟩; have LW9 := Aside0.mk h1; clear h1 h2)
    go_ret
    exact ⟨rfl, LW9.out.bel⟩
  have qf1 : (eb == 0) = false := by simpa using hf0
  have qf2 : (eb != 0) = true := by simpa using hf0
  by_cases hk : (an : Int) ≤ tb
  case pos =>
    have k1 : decide (tb ≥ (an : Int)) = true := decide_eq_true hk
    have k2 : decide ((an : Int) ≤ tb) = true := decide_eq_true hk
    clear hf0 hcl
    go_wp2_with (go_at_call 8; (with_reducible refine (law_alive LWb.out).mono ?_); rintro e w9 ⟨rfl, h1, h2⟩; have LW9 := Aside0.mk h1; clear h1 h2)
    go_ret
    exact ⟨rfl, LW9.out.bel⟩
  have k1 : decide (tb ≥ (an : Int)) = false := decide_eq_false hk
  have k2 : decide ((an : Int) ≤ tb) = false := decide_eq_false hk
  have hf1 : eb ≠ 111 := by rcases hcl with h | h | h; (exact absurd h hf0); (exact absurd h hk); (exact h)
  have qg1 : (eb == 111) = false := by simpa using hf1
  have qg2 : (eb != 111) = true := by simpa using hf1
  clear hf0 hf1 hk hcl
  go_wp2_with (go_at_call 8; (with_reducible refine (law_alive LWb.out).mono ?_); rintro e w9 ⟨rfl, h1, h2⟩; have LW9 := Aside0.mk h1; clear h1 h2)
  go_ret
  exact ⟨rfl, LW9.out.bel⟩
end Go.Proofs.YtknbfhhmjbnemaaDoor.P
end
section
namespace Go.Proofs.YtknbfhhmjbnemaaDoor.parseCut
open Go.ChangeShapes Go.WideShapes Go.ChangeAt Go.RowKit
open Go.ChangeMaps (open_string shut_string)
set_option linter.unusedVariables false
set_option maxRecDepth 100000 in
theorem lifted (os : Os) (started : os.Started) (H : Type) (enc : TypeId × Value → H) :
    ReturnsInHanded {} Tryd.checked os 7 .any (fun w args => (Rows.parseCutSpec.pre enc Tryd.prog Tryd.f7 Rows.parseCutRow.domain false w args ∧ laidMetH Tryd.prog laid3 w) ∧ sizedMet enc Tryd.prog Tryd.f7 (OpenSpec.ofChange Rows.parseCutSpec) false w args)
      (Rows.parseCutSpec.post enc Tryd.prog Tryd.f7 false true false false) := by
  refine change_and_shaped (C := Tryd.checked) (X := fun w _ => laidMetH Tryd.prog laid3 w) (fun _ _ _ hh h => h.of_heap hh) own started (by kernel_rfl) Tryd.func7
    (ChangeSpec.witness_shaped (enc := enc) (C := Tryd.checked) (os := os) (X := fun w _ => laidMetH Tryd.prog laid3 w) false (World.doorLaid Tryd.prog 400 os) #[.string ByteArray.empty, .string ByteArray.empty] 8 rfl (World.shaped_of_RefB (by kernel_rfl) (by kernel_rfl)) (by kernel_rfl) (by kernel_rfl) (by kernel_rfl) (door_met os _)) ?_
  intro W base args ds gs before hval0 hW hcnd hsz0 hL hsh _
  obtain ⟨m_, hm_⟩ := Tryd.laysM144.s1_3 W hsh
  have hsz : (DataW.weightsEach Tryd.prog (Tryd.f7.params.toList ++ Rows.parseCutSpec.plain.varTypes Tryd.prog) (ds ++ gs)).all (· ≤ reachBytes) = true := hsz0
  have hval : ∀ (j : Nat) t v, Tryd.f7.params[j]? = some t → args[j]? = some v → Value.okWide Tryd.prog W .any base t v := hval0
  have hW' := hW
  obtain ⟨p, q, hA0, hV, rfl, hfz, hnd⟩ := hW
  have hA : DataW.TrodAll enc Tryd.prog W 0 (fun _ => true) true Tryd.f7.params.toList args.toList ds p := hA0
  rw [Tryd.params7] at hA hval hsz
  obtain ⟨v0, vs0, d0, ds0, p0, q0, hargs, rfl, rfl, h0, r0⟩ := trodAll_cons hA
  obtain ⟨v1, vs1, d1, ds1, p1, q1, rfl, rfl, rfl, h1, r1⟩ := trodAll_cons r0
  obtain ⟨rfl, rfl, rfl⟩ := trodAll_nil r1
  obtain rfl : args = #[v0, v1] := by cases args; simp_all
  obtain ⟨rfl, rfl⟩ := trodVars_none hV
  obtain ⟨a0, rfl, rfl, rfl, y0⟩ := open_string Tryd.underlying9 (hval 0 9 v0 rfl rfl) h0
  obtain ⟨a1, rfl, rfl, rfl, y1⟩ := open_string Tryd.underlying9 (hval 1 9 v1 rfl rfl) h1
  have w0 : a0.size ≤ 140737488351232 := by
    have z := sized_string hsz (j := 0) (t := 9) rfl rfl
    rw [Array.length_toList] at z
    exact z
  have w1 : a1.size ≤ 140737488351232 := by
    have z := sized_string hsz (j := 1) (t := 9) rfl rfl
    rw [Array.length_toList] at z
    exact z
  clear hA0 hval0 hsz0 hsz
  refine (P.cut_calls a0 a1 m_ W hm_ (tab_of_laid hL) w0 w1).mono fun e W' ⟨he, bel⟩ => ?_
  subst he
  exact ⟨_, rfl, _, _, _, [], _, [], hW', trodAll_mk1 (shut_bool Tryd.underlying4 _), (trodAll_cons_mk (shut_string Tryd.underlying9 y0) (trodAll_cons_mk (shut_string Tryd.underlying9 y1) trodAll_mk0)), rfl, bel.frame _, fun h => by cases h⟩
theorem over : Rows.ParseCutSaid :=
  OpenClaim.holds_of_wide 7 Tryd.f7 rfl rfl rfl rfl rfl rfl rfl ⟨rfl, rfl, rfl, rfl, rfl⟩ rfl rfl rfl rfl rfl (by kernel_rfl) Tryd.func7 (by kernel_rfl)
    (of_decide_eq_true (by kernel_rfl)) (by unfold Func.isWrapper; first | (rw [if_pos (by decide +kernel)]; kernel_rfl) | (rw [if_neg (by decide +kernel)]; exact ⟨rfl, rfl⟩))
    (fun os started H enc _ => lifted os started H enc)
end Go.Proofs.YtknbfhhmjbnemaaDoor.parseCut
namespace Go.Proofs.YtknbfhhmjbnemaaDoor
/-- THE TIED CARD. -/
theorem parseCut_holds : Rows.ParseCutCardSaid :=
  Claim7.holds_tied_plain_at .later [] [.data, .data, .data] true (true, "8cdf8f3caba360dc7b05f8e528f7f118d71880da62c48cb09c7ea98c408e307c") true
    parseCut.over (fun _ h => by cases h) (by kernel_rfl) (fun _ h => by cases h) parseCut_row_tie rfl ⟨rfl, rfl⟩ (by kernel_rfl) rfl
    (fun f fn hf hfn => by
      obtain rfl : f = 7 := Option.some.inj ((show Tryd.prog.funcNamed "cofferdam/cofferdamlaw11.ParseCut" = some 7 by kernel_rfl).symm.trans hf) |>.symm
      obtain rfl : fn = Tryd.f7 := (Option.some.inj (Tryd.func7.symm.trans hfn)).symm
      exact ⟨by kernel_rfl, fun j t ht => by
        rw [Tryd.params7] at ht
        have hm : t ∈ [9, 9] := by simpa using Array.mem_of_getElem? ht
        have hall : ([9, 9].all fun u => !Tryd.prog.wantsStandIn u) = true := by kernel_rfl
        exact (show Tryd.prog.wantsStandIn t = false by simpa using List.all_eq_true.1 hall t hm)⟩)
    (by kernel_rfl)
end Go.Proofs.YtknbfhhmjbnemaaDoor
end
#print axioms Go.Proofs.YtknbfhhmjbnemaaDoor.parseCut_holds
