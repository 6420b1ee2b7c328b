/- Tokens follow one another, each begins with its own first byte, and none stands within a note; a fault stands within the text or at its end; at every text. -/
import Derived.Test.YtocclfjddihmbaaPcofferdamlaw10LexPlaces
import Derived.Test.YtocclfjddihmbaaPureLexJoined
namespace Go.Proofs.Ytocclfjddihmbaa.Pure
open Go.RowKit Go.Proofs.Ytocclfjddihmbaa.P Go.Proofs.YtocclfjddihmbaaW.PrintWords Go.Proofs.YtocclfjddihmbaaW.PrintLast
set_option linter.unusedVariables false
set_option linter.unusedSimpArgs false

theorem takeWhile_next (p : Int → Bool) : ∀ (l : List Int) (c : Int) (t : List Int), l.drop (l.takeWhile p).length = c :: t → p c = false
  | [], c, t, h => by simp at h
  | x :: l, c, t, h => by
    by_cases hx : p x = true
    · rw [List.takeWhile_cons_of_pos hx, List.length_cons, List.drop_succ_cons] at h
      exact takeWhile_next p l c t h
    · rw [List.takeWhile_cons_of_neg hx, List.length_nil, List.drop_zero] at h
      obtain ⟨rfl, rfl⟩ := List.cons.inj h
      simpa using hx
theorem takeWhile_all (p : Int → Bool) : ∀ (l : List Int), ∀ x ∈ l.takeWhile p, p x = true
  | [], x, h => by simp at h
  | y :: l, x, h => by
    by_cases hx : p y = true
    · rw [List.takeWhile_cons_of_pos hx] at h
      rcases List.mem_cons.1 h with rfl | h
      · exact hx
      · exact takeWhile_all p l x h
    · rw [List.takeWhile_cons_of_neg hx] at h
      cases h
theorem figure_of {c : Int} (h : pFigure c = true) : 48 ≤ c ∧ c ≤ 57 := by
  unfold pFigure at h
  simpa using h
/-- What a token without a fault is. -/
theorem oneL_ok (r : List Int) (h : r ≠ []) (he : (oneL r).e = 0) :
    ((oneL r).kind = 1 ∧ (oneL r).s = [] ∧ (oneL r).len = (r.takeWhile pFigure).length ∧ 1 ≤ (oneL r).len ∧ (oneL r).len ≤ 9 ∧ (oneL r).n = lexNum (r.takeWhile pFigure)) ∨
    ((oneL r).kind = 2 ∧ r.head? = some 36 ∧ (oneL r).len = ((r.drop 1).takeWhile pHex).length + 1 ∧ (oneL r).s = (r.drop 1).takeWhile pHex ∧ 1 ≤ ((r.drop 1).takeWhile pHex).length ∧ ((r.drop 1).takeWhile pHex).length ≤ 128 ∧ (oneL r).n = 0) ∨
    ((oneL r).kind = 0 ∧ (∃ c, r.head? = some c ∧ pLetter c = true) ∧ (oneL r).len = (r.takeWhile pWord).length ∧ (oneL r).s = r.takeWhile pWord ∧ 1 ≤ (r.takeWhile pWord).length ∧ (r.takeWhile pWord).length ≤ 16 ∧ (oneL r).n = 0) ∨
    ((oneL r).kind = 3 ∧ (∃ c t, r = c :: t ∧ (c = 40 ∨ c = 41 ∨ c = 44 ∨ c = 61 ∨ c = 59) ∧ (oneL r).s = [c]) ∧ (oneL r).len = 1 ∧ (oneL r).n = 0) := by
  cases r with
  | nil => exact absurd rfl h
  | cons c t =>
    simp only [oneL] at he ⊢
    by_cases h1 : pLetter c = true
    · rw [if_pos h1] at he ⊢
      have hw : pWord c = true := by unfold pWord; rw [h1]; rfl
      have : 1 ≤ ((c :: t).takeWhile pWord).length := by rw [List.takeWhile_cons_of_pos hw, List.length_cons]; omega
      refine Or.inr (Or.inr (Or.inl ⟨rfl, ⟨c, rfl, h1⟩, rfl, rfl, this, ?_, rfl⟩))
      simp only at he
      split at he
      · exact absurd he (by decide)
      · omega
    · rw [if_neg h1] at he ⊢
      by_cases h2 : pFigure c = true
      · rw [if_pos h2] at he ⊢
        have : 1 ≤ ((c :: t).takeWhile pFigure).length := by rw [List.takeWhile_cons_of_pos h2, List.length_cons]; omega
        refine Or.inl ⟨rfl, rfl, rfl, this, ?_, rfl⟩
        simp only at he ⊢
        split at he
        · exact absurd he (by decide)
        · omega
      · rw [if_neg h2] at he ⊢
        by_cases h3 : c = 36
        · rw [if_pos h3] at he ⊢
          subst h3
          simp only at he
          refine Or.inr (Or.inl ⟨rfl, rfl, rfl, rfl, ?_, ?_, rfl⟩)
          · simp only [List.drop_succ_cons, List.drop_zero]
            split at he
            · exact absurd he (by decide)
            · omega
          · simp only [List.drop_succ_cons, List.drop_zero]
            split at he
            · exact absurd he (by decide)
            · split at he
              · exact absurd he (by decide)
              · omega
        · rw [if_neg h3] at he ⊢
          by_cases h4 : c = 40 ∨ c = 41 ∨ c = 44 ∨ c = 61 ∨ c = 59
          · rw [if_pos h4]
            exact Or.inr (Or.inr (Or.inr ⟨rfl, ⟨c, t, rfl, h4, rfl⟩, rfl, rfl⟩))
          · rw [if_neg h4] at he
            exact absurd he (by decide)
theorem extract_len (s : ByteArray) (i n : Nat) (h : i + n ≤ s.size) : (s.extract i (i + n)).size = n := by
  rw [ByteArray.size_extract]; omega
theorem mn_small (x : Int) (h : x < 10000000000) : mn x 1099511627776 = x := by unfold mn; omega
theorem num_step (x c : Int) (h0 : 0 ≤ x) (h1 : x < 10000000000) (h2 : 48 ≤ c) (h3 : c ≤ 57) : wrap64 ((wrap64 (10 * x)) + ((c - 48) % 256)) = 10 * x + (c - 48) := by unfold wrap64; omega
theorem wnat (p j : Nat) (h : p + j ≤ 1000000) : wrap64 ((p : Int) + (j : Int)) = ((p + j : Nat) : Int) := by unfold wrap64; omega
theorem wnat1 (p : Nat) (h : p ≤ 1000000) : wrap64 ((p : Int) + 1) = ((p + 1 : Nat) : Int) := by unfold wrap64; omega
theorem lexNum_take (D : List Int) (hD : ∀ x ∈ D, pFigure x = true) (h9 : D.length ≤ 9) : ∀ (j q : Nat), j ≤ D.length → q = 10 ^ j → 0 ≤ lexNum (D.take j) ∧ lexNum (D.take j) < (q : Int) ∧ q ≤ 1000000000
  | 0, q, _, hq => by subst hq; simp [lexNum]
  | j + 1, q, h, hq => by
    have ih := lexNum_take D hD h9 j (10 ^ j) (by omega) rfl
    have hx : D.take (j + 1) = D.take j ++ [D[j]] := by
      rw [List.take_add_one, List.getElem?_eq_getElem (by omega)]
      rfl
    have hd := figure_of (hD D[j] (List.getElem_mem (by omega)))
    have hp : 10 ^ (j + 1) ≤ 1000000000 := by
      have := Nat.pow_le_pow_right (show 10 > 0 by decide) (show j + 1 ≤ 9 by omega)
      exact Nat.le_trans this (by decide)
    rw [← hq] at hp
    rw [Nat.pow_succ] at hq
    generalize 10 ^ j = b at *
    have hm := mn_small (lexNum (D.take j)) (by omega)
    rw [hx, lexNum_snoc, hm]
    omega
theorem lexNum_small (D : List Int) (hD : ∀ x ∈ D, pFigure x = true) (h9 : D.length ≤ 9) (j : Nat) (hj : j ≤ D.length) : 0 ≤ lexNum (D.take j) ∧ lexNum (D.take j) < 1000000000 := by
  have := lexNum_take D hD h9 j (10 ^ j) hj rfl
  generalize 10 ^ j = b at *
  omega
theorem places_num (s : ByteArray) (hs : s.size ≤ 2000) (L : List S41) (i p : Nat) (hi : i ≤ 2000) (ss : ByteArray) (kd : Int) (D : List Int) (hD : D = ((bytesOf s).drop p).takeWhile pFigure) (hp : p < s.size) (h1 : 1 ≤ D.length) (h9 : D.length ≤ 9) :
    ∀ (d j k : Nat), D.length - j ≤ d → j ≤ D.length → d < k → ∃ k', k ≤ k' + d + 1 ∧ cofferdamlaw10_LexPlaces.l1 k s L i j (lexNum (D.take j)) kd ss (lexNum D) p = cofferdamlaw10_LexPlaces.l0 k' s L ((p + D.length : Nat) : Int) ((i + 1 : Nat) : Int) := by
  have hall : ∀ x ∈ D, pFigure x = true := by rw [hD]; exact takeWhile_all _ _
  have hpre : D <+: (bytesOf s).drop p := by rw [hD]; exact List.takeWhile_prefix _
  have hlen : p + D.length ≤ s.size := by
    have := hpre.length_le
    rw [List.length_drop, bytesOf_length] at this
    omega
  have hend : ∀ k : Nat, (if ((D.length : Nat) : Int) = 0 then some false else (if lexNum D = lexNum D then (cofferdamlaw10_LexPlaces.l0 k s L (wrap64 ((p : Int) + ((D.length : Nat) : Int))) (wrap64 ((i : Int) + 1))) else some false)) = cofferdamlaw10_LexPlaces.l0 k s L ((p + D.length : Nat) : Int) ((i + 1 : Nat) : Int) := by
    intro k
    rw [if_neg (by omega), if_pos rfl, wnat p D.length (by omega), wnat1 i (by omega)]
  have hat : ∀ k : Nat, cofferdamlaw10_LexPlaces.l1 (k + 1) s L i D.length (lexNum D) kd ss (lexNum D) p = cofferdamlaw10_LexPlaces.l0 k s L ((p + D.length : Nat) : Int) ((i + 1 : Nat) : Int) := by
    intro k
    rw [← hend k, cofferdamlaw10_LexPlaces.l1]
    rw [wnat p D.length (by omega)]
    by_cases hlt : p + D.length < s.size
    · rw [if_pos (by omega), if_pos (by omega)]
      have hb := bytesOf_drop s (p + D.length) hlt
      have hn : pFigure (bt s ((p + D.length : Nat) : Int)) = false := by
        refine takeWhile_next pFigure ((bytesOf s).drop p) _ ((bytesOf s).drop (p + D.length + 1)) ?_
        rw [← hD, List.drop_drop]
        exact hb
      by_cases g1 : bt s ((p + D.length : Nat) : Int) ≥ 48
      · by_cases g2 : bt s ((p + D.length : Nat) : Int) ≤ 57
        · exfalso
          unfold pFigure at hn
          rw [decide_eq_true g1, decide_eq_true g2] at hn
          cases hn
        · rw [if_pos g1, if_neg g2]
      · rw [if_neg g1]
    · rw [if_neg (by omega)]
  intro d
  induction d with
  | zero =>
    intro j k hd hj hk
    obtain rfl : j = D.length := by omega
    obtain ⟨k, rfl⟩ : ∃ q, k = q + 1 := ⟨k - 1, by omega⟩
    rw [List.take_length]
    exact ⟨k, by omega, hat k⟩
  | succ d ih =>
    intro j k hd hj hk
    obtain ⟨k, rfl⟩ : ∃ q, k = q + 1 := ⟨k - 1, by omega⟩
    by_cases hlt : j < D.length
    · have hb : D[j] = bt s ((p + j : Nat) : Int) := by
        have e1 := hpre.getElem hlt
        have e2 := bytesOf_drop s (p + j) (by omega)
        rw [e1, List.getElem_drop]
        have e3 : ((bytesOf s).drop (p + j))[0]? = some (bt s ((p + j : Nat) : Int)) := by rw [e2]; rfl
        rw [List.getElem?_drop, Nat.add_zero, List.getElem?_eq_getElem (by rw [bytesOf_length]; omega)] at e3
        exact Option.some.inj e3
      have hx : D.take (j + 1) = D.take j ++ [bt s ((p + j : Nat) : Int)] := by
        rw [List.take_add_one, List.getElem?_eq_getElem hlt, hb]
        rfl
      have hf := figure_of (hall D[j] (List.getElem_mem hlt))
      rw [hb] at hf
      have hN := lexNum_small D hall h9 j hj
      have hm := mn_small (lexNum (D.take j)) (Int.lt_trans hN.2 (by decide))
      obtain ⟨k', e1, e2⟩ := ih (j + 1) k (by omega) (by omega) (by omega)
      refine ⟨k', by omega, ?_⟩
      rw [← e2, cofferdamlaw10_LexPlaces.l1, hx, lexNum_snoc, hm]
      have c1 : ((p + j : Nat) : Int) < s.size := by clear hN hm hf hb hx e2; omega
      have c2 : (0 : Int) ≤ ((p + j : Nat) : Int) := Int.natCast_nonneg _
      have c3 : (j : Int) < 9 := by clear hN hm hf hb hx e2; omega
      have hw2 := wnat1 j (by clear hN hm hf hb hx e2; omega)
      rw [wnat p j (by clear hN hm hf hb hx e2; omega), if_pos c1, if_pos c2, if_pos hf.1, if_pos hf.2, if_pos c3]
      rw [hw2, num_step _ _ hN.1 (Int.lt_trans hN.2 (by decide)) hf.1 hf.2]
    · obtain rfl : j = D.length := by omega
      rw [List.take_length]
      exact ⟨k, by omega, hat k⟩
theorem toList_eq (a b : ByteArray) (h : a = b) : a.toList = b.toList := by rw [h]
theorem places_j1 (s : ByteArray) (hs : s.size ≤ 2000) (L : List S41) (i p : Nat) (hi : i ≤ 2000) (hp : p < s.size) (o : One) (ho : oneL ((bytesOf s).drop p) = o) (he : o.e = 0) (k : Nat) (hk : 30 < k) :
    ∃ k', k ≤ k' + 13 ∧ cofferdamlaw10_LexPlaces.j1 k s L i false o.kind (strOfNums o.s) o.n p = cofferdamlaw10_LexPlaces.l0 k' s L ((p + o.len : Nat) : Int) ((i + 1 : Nat) : Int) := by
  obtain ⟨k, rfl⟩ : ∃ q, k = q + 1 := ⟨k - 1, by omega⟩
  have hb := bytesOf_drop s p hp
  have hL : ((bytesOf s).drop p).length = s.size - p := by rw [List.length_drop, bytesOf_length]
  have hi1 : i ≤ 1000000 := by omega
  have hle := (oneL_len ((bytesOf s).drop p) (by rw [hb]; simp)).1
  rw [ho] at hle
  have hplain : ∀ (q : Nat), o.kind ≠ 1 → o.kind ≠ 2 → strOfNums o.s = s.extract p (p + o.len) → 1 ≤ o.len → cofferdamlaw10_LexPlaces.j1 (q + 1) s L i false o.kind (strOfNums o.s) o.n p = cofferdamlaw10_LexPlaces.l0 q s L ((p + o.len : Nat) : Int) ((i + 1 : Nat) : Int) := by
    intro q n1 n2 hS hl
    have hz : (strOfNums o.s).size = o.len := by rw [hS, extract_len _ _ _ (by omega)]
    have cw : p + o.len ≤ 1000000 := by omega
    have c1 : ((p : Nat) : Int) < s.size := by omega
    have c2 : (0 : Int) ≤ ((p : Nat) : Int) := Int.natCast_nonneg _
    have c3 : ¬ ((o.len : Nat) : Int) = 0 := by omega
    have c4 : ¬ ((p + o.len : Nat) : Int) > s.size := by omega
    have c5 : ((p : Nat) : Int) ≤ ((p + o.len : Nat) : Int) := by omega
    have c6 : ((p + o.len : Nat) : Int) ≤ s.size := by omega
    rw [cofferdamlaw10_LexPlaces.j1, if_neg (by simp), if_pos c2, if_pos c1, if_neg n1, if_neg n2, hz, wnat p o.len cw, if_neg c3, if_neg c4, if_pos c5, if_pos c6, wnat1 i hi1]
    rw [if_pos (toList_eq _ _ (by rw [hS]; simp only [Int.toNat_natCast]))]
  have hok := oneL_ok ((bytesOf s).drop p) (by rw [hb]; simp) (by rw [ho]; exact he)
  rw [ho] at hok
  rcases hok with ⟨hk1, hs0, hl, h1, h9, hn⟩ | ⟨hk2, hhd, hl, hS, h1, h128, hn⟩ | ⟨hk0, ⟨c, hc, hlet⟩, hl, hS, h1, h16, hn⟩ | ⟨hk3, ⟨c, t, hr, hc, hS⟩, hl, hn⟩
  · rw [hl] at h1 h9
    obtain ⟨k', e1, e2⟩ := places_num s hs L i p hi (strOfNums o.s) o.kind _ rfl hp h1 h9 (((bytesOf s).drop p).takeWhile pFigure).length 0 k (by omega) (by omega) (by omega)
    refine ⟨k', by omega, ?_⟩
    rw [hl, ← e2, cofferdamlaw10_LexPlaces.j1, if_neg (by simp), if_pos (by omega), if_pos (by omega), if_pos hk1, hn]
    rfl
  · refine ⟨k, by omega, ?_⟩
    have hd1 : ((bytesOf s).drop p).drop 1 = (bytesOf s).drop (p + 1) := by rw [List.drop_drop]
    rw [hd1] at hl hS h1 h128
    have hz' : s.extract (p + 1) (p + 1 + (((bytesOf s).drop (p + 1)).takeWhile pHex).length) = strOfNums o.s := by rw [extract_nums, take_takeWhile, hS]
    have hz : (strOfNums o.s).size = (((bytesOf s).drop (p + 1)).takeWhile pHex).length := by rw [← hz', extract_len _ _ _ (by omega)]
    have h36 : bt s p = 36 := by
      rw [hb] at hhd
      exact Option.some.inj hhd
    generalize (((bytesOf s).drop (p + 1)).takeWhile pHex).length = z at *
    have c1 : ((p : Nat) : Int) < s.size := by omega
    have c2 : (0 : Int) ≤ ((p : Nat) : Int) := Int.natCast_nonneg _
    have c3 : ¬ ((p + o.len : Nat) : Int) > s.size := by omega
    have c4 : (0 : Int) ≤ ((p + 1 : Nat) : Int) := Int.natCast_nonneg _
    have c5 : ((p + 1 : Nat) : Int) ≤ ((p + o.len : Nat) : Int) := by omega
    have c6 : ((p + o.len : Nat) : Int) ≤ s.size := by omega
    have c7 : ¬ o.kind = 1 := by omega
    have c8 : p + 1 + z = p + o.len := by omega
    have c9 : z ≤ 1000000 := by omega
    have c10 : p + (z + 1) ≤ 1000000 := by omega
    have c11 : p ≤ 1000000 := by omega
    have hw0 : wrap64 (1 + (z : Int)) = ((z + 1 : Nat) : Int) := by rw [Int.add_comm]; exact wnat1 z c9
    have hw3 : wrap64 ((p : Int) + wrap64 (1 + (z : Int))) = ((p + o.len : Nat) : Int) := by rw [hw0, wnat p (z + 1) c10, hl]
    rw [cofferdamlaw10_LexPlaces.j1, if_neg (by simp), if_pos c2, if_pos c1, if_neg c7, if_pos hk2, if_pos h36, hz, hw3, if_neg c3, wnat1 p c11, if_pos c4, if_pos c5, if_pos c6, wnat1 i hi1]
    rw [if_pos (toList_eq _ _ (by rw [← hz', c8]; simp only [Int.toNat_natCast]))]
  · refine ⟨k, by omega, hplain k (by omega) (by omega) ?_ (by omega)⟩
    rw [extract_nums, hS, hl, take_takeWhile]
  · refine ⟨k, by omega, hplain k (by omega) (by omega) ?_ (by omega)⟩
    rw [extract_nums, hS, hl, hr]
    rfl
theorem places_loop (s : ByteArray) (hs : s.size ≤ 2000) : ∀ (f cnt : Nat) (r : List Int) (l acc : List S41) (next : Int) (k : Nat), scanF f cnt r s.size = .ok l → r <:+ bytesOf s → r.length < f → next ≤ ((s.size - r.length : Nat) : Int) → acc.length + r.length ≤ 2000 → 100 + 20 * f < k →
    cofferdamlaw10_LexPlaces.l0 k s (acc ++ l) next acc.length = some true
  | 0, _, _, _, _, _, _, _, _, h, _, _, _ => by omega
  | f + 1, cnt, r, l, acc, next, k, h, hr, hf, hnx, ha, hk => by
    obtain ⟨k, rfl⟩ : ∃ q, k = q + 1 := ⟨k - 1, by omega⟩
    rw [scanF_step] at h
    by_cases h1 : r = []
    · rw [if_pos h1] at h
      simp only [Except.ok.injEq] at h
      subst h
      rw [cofferdamlaw10_LexPlaces.l0, if_neg (by simp)]
      exact joined_alive _ (by omega)
    · rw [if_neg h1] at h
      by_cases h5 : cnt = 500
      · rw [if_pos h5] at h; cases h
      · rw [if_neg h5] at h
        by_cases he : (oneL r).e = 0
        · rw [if_pos he] at h
          cases hx : scanF f (cnt + 1) (skipS false (r.drop (oneL r).len)) s.size with
          | error e => rw [hx] at h; cases h
          | ok m =>
            rw [hx] at h
            simp only [Except.map, Except.ok.injEq] at h
            subst h
            have hrl : r.length ≤ s.size := by rw [← bytesOf_length]; exact hr.length_le
            have hpos : 0 < r.length := by cases r with | nil => exact absurd rfl h1 | cons _ _ => simp
            have hlen := oneL_len r h1
            have hrd : (bytesOf s).drop (s.size - r.length) = r := by
              have := List.suffix_iff_eq_drop.1 hr
              rw [bytesOf_length] at this
              exact this.symm
            have hs1 := skipS_len (r.drop (oneL r).len) false
            rw [List.length_drop] at hs1
            have hsuf : skipS false (r.drop (oneL r).len) <:+ bytesOf s := ((skipS_suffix _ _).trans (List.drop_suffix _ _)).trans hr
            have hl1 := hlen.2 he
            obtain ⟨q, e1, e2⟩ := places_j1 s hs (acc ++ tokOf (oneL r) (s.size - r.length) :: m) acc.length (s.size - r.length) (by omega) (by omega) (oneL r) (by rw [hrd]) he (k := k) (by omega)
            have ih := places_loop s hs f (cnt + 1) (skipS false (r.drop (oneL r).len)) m (acc ++ [tokOf (oneL r) (s.size - r.length)]) ((s.size - r.length + (oneL r).len : Nat) : Int) q hx hsuf (by omega) (by omega) (by simp; omega) (by omega)
            rw [List.append_assoc, List.singleton_append, List.length_append, List.length_singleton] at ih
            rw [← ih, ← e2, cofferdamlaw10_LexPlaces.l0, if_pos (by simp; omega), if_pos (by omega)]
            have hget : rd_T41 (acc ++ tokOf (oneL r) (s.size - r.length) :: m) (acc.length : Int) = tokOf (oneL r) (s.size - r.length) := by
              unfold rd_T41
              rw [Int.toNat_natCast, List.getD_eq_getElem?_getD, List.getElem?_append_right (Nat.le_refl _), Nat.sub_self]
              rfl
            have d1 : ¬ (((s.size - r.length : Nat) : Int)) < next := by omega
            have d2 : ¬ (((s.size - r.length : Nat) : Int)) ≥ (s.size : Int) := by omega
            rw [hget, if_neg (show ¬ (tokOf (oneL r) (s.size - r.length)).f3 < next from d1), decide_eq_false (show ¬ (tokOf (oneL r) (s.size - r.length)).f3 ≥ (s.size : Int) from d2)]
            rfl
        · rw [if_neg he] at h; cases h
theorem LexPlaces : cofferdamlaw10_LexPlaces.Pure := by
  intro a ha
  obtain ⟨K, hK⟩ : ∃ K : Nat, 300000 ≤ K := ⟨300000, Nat.le_refl _⟩
  refine ⟨K, ?_⟩
  unfold cofferdamlaw10_LexPlaces.f
  cases hA : scan (bytesOf a) with
  | error e =>
    rw [scan_run_err hA K (by omega)]
    simp only [Option.bind_some]
    have he : e.1 ≠ 0 ∧ 0 ≤ e.2 ∧ e.2 ≤ a.size := by
      unfold scan at hA
      by_cases h : 2000 < (bytesOf a).length
      · rw [if_pos h] at hA
        simp only [Except.error.injEq] at hA
        subst hA
        exact ⟨by decide, by decide, by show (0 : Int) ≤ _; omega⟩
      · rw [if_neg h] at hA
        have := scanF_err _ _ _ _ _ hA (skipS_len _ _)
        rwa [bytesOf_length] at this
    rw [if_neg he.1, alive10_at K (by omega)]
    simp only [Option.bind_some, if_true, List.length_nil, Int.natCast_zero]
    rw [if_pos he.2.1, decide_eq_true he.2.2]
  | ok l =>
    rw [scan_run_ok hA K (by omega)]
    simp only [Option.bind_some, if_true]
    unfold scan at hA
    by_cases h : 2000 < (bytesOf a).length
    · rw [if_pos h] at hA
      cases hA
    · rw [if_neg h] at hA
      rw [bytesOf_length] at hA h
      have hs := skipS_len (bytesOf a) false
      rw [bytesOf_length] at hs
      exact places_loop a (by omega) (a.size + 1) 0 (skipS false (bytesOf a)) l [] 0 K hA (skipS_suffix _ _) (by omega) (by omega) (by simp; omega) (by omega)
end Go.Proofs.Ytocclfjddihmbaa.Pure
