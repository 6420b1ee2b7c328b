/- What is read is read again: tokens that are written one behind the other, with one blank between, are the same ones, each where it was written; at every text. -/
import Derived.Test.YtocclfjddihmbaaPcofferdamlaw10LexAgain
import Derived.Test.YtocclfjddihmbaaPureLexPlaces
namespace Go.Proofs.Ytocclfjddihmbaa.Pure
open Go.RowKit Go.Proofs.Ytocclfjddihmbaa.P Go.Proofs.YtocclfjddihmbaaW.PrintWords Go.Proofs.YtocclfjddihmbaaW.PrintLast
set_option linter.unusedVariables false
set_option linter.unusedSimpArgs false

/-! ### a number as text -/
def digF : Nat → Nat → List Int
  | 0, _ => []
  | d + 1, n => if n = 0 then [] else digF d (n / 10) ++ [((48 + n % 10 : Nat) : Int)]
def digL (n : Nat) : List Int := if n = 0 then [48] else digF 9 n
theorem digF_len : ∀ d n, (digF d n).length ≤ d
  | 0, n => by simp [digF]
  | d + 1, n => by
    have := digF_len d (n / 10)
    unfold digF
    split
    · simp
    · simp; omega
theorem digF_fig : ∀ d n, ∀ x ∈ digF d n, pFigure x = true
  | 0, n, x, h => by simp [digF] at h
  | d + 1, n, x, h => by
    unfold digF at h
    split at h
    · cases h
    · rcases List.mem_append.1 h with h | h
      · exact digF_fig d _ x h
      · obtain rfl := List.mem_singleton.1 h
        unfold pFigure
        rw [decide_eq_true (show (48 : Int) ≤ ((48 + n % 10 : Nat) : Int) by omega), decide_eq_true (show ((48 + n % 10 : Nat) : Int) ≤ 57 by omega)]
        rfl
theorem digF_pos (d n : Nat) (h : n ≠ 0) : 1 ≤ (digF (d + 1) n).length := by
  unfold digF
  rw [if_neg h]
  simp
theorem digF_succ (d n : Nat) (h : n ≠ 0) : digF (d + 1) n = digF d (n / 10) ++ [((48 + n % 10 : Nat) : Int)] := by rw [digF, if_neg h]
theorem digF_num : ∀ (d n q : Nat), q = 10 ^ d → d ≤ 9 → n < q → lexNum (digF d n) = n
  | 0, n, q, hq, _, h => by
    obtain rfl : n = 0 := by subst hq; omega
    rfl
  | d + 1, n, q, hq, hd, h => by
    unfold digF
    by_cases h0 : n = 0
    · rw [if_pos h0, h0]; rfl
    · rw [if_neg h0, lexNum_snoc]
      rw [Nat.pow_succ] at hq
      have ih := digF_num d (n / 10) (10 ^ d) rfl (by omega) (by generalize 10 ^ d = b at *; omega)
      have hb : 10 ^ d ≤ 1000000000 := by
        have := Nat.pow_le_pow_right (show 10 > 0 by decide) (show d ≤ 9 by omega)
        exact Nat.le_trans this (by decide)
      rw [ih, mn_small _ (by generalize 10 ^ d = b at *; omega)]
      omega
theorem digL_num (n : Nat) (h : n < 1000000000) : lexNum (digL n) = n := by
  unfold digL
  by_cases h0 : n = 0
  · rw [if_pos h0, h0]; rfl
  · rw [if_neg h0]
    exact digF_num 9 n 1000000000 (by decide) (by decide) h
theorem digL_fig (n : Nat) : ∀ x ∈ digL n, pFigure x = true := by
  unfold digL
  split
  · intro x h
    obtain rfl := List.mem_singleton.1 h
    rfl
  · exact digF_fig 9 n
theorem digL_len (n : Nat) : 1 ≤ (digL n).length ∧ (digL n).length ≤ 9 := by
  unfold digL
  by_cases h0 : n = 0
  · rw [if_pos h0]; simp
  · rw [if_neg h0]
    exact ⟨digF_pos 8 n h0, digF_len 9 n⟩
theorem ten_at : ∀ i : Nat, i < 10 → bt (⟨#[48, 49, 50, 51, 52, 53, 54, 55, 56, 57]⟩ : ByteArray) i = ((48 + i : Nat) : Int) := by decide
theorem tmod10 (n : Nat) : Int.tmod (n : Int) 10 = ((n % 10 : Nat) : Int) := rfl
theorem tdiv10 (n : Nat) : Int.tdiv (n : Int) 10 = ((n / 10 : Nat) : Int) := rfl
theorem wsmall (n : Nat) (h : n ≤ 1000000000) : wrap64 (n : Int) = (n : Int) := by unfold wrap64; omega
theorem digits_step (k n : Nat) (acc : ByteArray) (hn : n < 1000000000) (ha : acc.size ≤ 100) (h : 0 < n ∨ acc.toList = []) :
    cofferdamlaw10_digits.l0 (k + 1) n acc = cofferdamlaw10_digits.l0 k ((n / 10 : Nat) : Int) (((⟨#[48, 49, 50, 51, 52, 53, 54, 55, 56, 57]⟩ : ByteArray).extract (n % 10) (n % 10 + 1)) ++ acc) := by
  have h1 : wrap64 (((n % 10 : Nat) : Int) + 1) = ((n % 10 + 1 : Nat) : Int) := wnat1 _ (by omega)
  have h2 : wrap64 ((n / 10 : Nat) : Int) = ((n / 10 : Nat) : Int) := wsmall _ (by omega)
  have h3 : ((⟨#[48, 49, 50, 51, 52, 53, 54, 55, 56, 57]⟩ : ByteArray).extract (n % 10) (n % 10 + 1)).size = 1 := extract_len _ _ _ (by show n % 10 + 1 ≤ 10; omega)
  have c1 : (0 : Int) ≤ ((n % 10 : Nat) : Int) := Int.natCast_nonneg _
  have c2 : ((n % 10 : Nat) : Int) ≤ ((n % 10 + 1 : Nat) : Int) := by clear h1 h2; omega
  have c3 : ((n % 10 + 1 : Nat) : Int) ≤ 10 := by clear h1 h2; omega
  have c4 : 1 + acc.size ≤ 9223372036854775807 := by clear h1 h2; omega
  rw [cofferdamlaw10_digits.l0, tmod10, tdiv10, h1, h2]
  simp only [Int.toNat_natCast]
  rw [h3]
  by_cases h0 : (n : Int) > 0
  · rw [if_pos h0, if_pos c1, if_pos c2, if_pos c3, if_pos c4]
  · rw [if_neg h0]
    rcases h with h | h
    · exact absurd h (by clear h1 h2; omega)
    · rw [if_pos h, if_pos c1, if_pos c2, if_pos c3, if_pos c4]
theorem ten_bytes (i : Nat) (h : i < 10) : bytesOf ((⟨#[48, 49, 50, 51, 52, 53, 54, 55, 56, 57]⟩ : ByteArray).extract i (i + 1)) = [((48 + i : Nat) : Int)] := by
  rw [bytesOf_extract, bytesOf_drop (⟨#[48, 49, 50, 51, 52, 53, 54, 55, 56, 57]⟩ : ByteArray) i h, ten_at i h]
  rfl
theorem digits_l0 : ∀ (d n q k : Nat) (acc : ByteArray), q = 10 ^ d → d ≤ 9 → n < q → acc.size + d ≤ 20 → d < k → 0 < acc.size → ∃ y, cofferdamlaw10_digits.l0 k n acc = some y ∧ bytesOf y = digF d n ++ bytesOf acc ∧ y.size ≤ 20
  | d, 0, q, k, acc, hq, hd, hn, ha, hk, h => by
    obtain ⟨k, rfl⟩ : ∃ m, k = m + 1 := ⟨k - 1, by omega⟩
    have hne : ¬ acc.toList = [] := by
      intro h2
      have := bytesOf_length acc
      unfold bytesOf at this
      rw [ByteArray.toList_eq] at h2
      rw [h2] at this
      simp at this
      omega
    refine ⟨acc, ?_, ?_, by omega⟩
    · rw [cofferdamlaw10_digits.l0, if_neg (by omega), if_neg hne]
    · cases d <;> simp [digF]
  | 0, n + 1, q, k, acc, hq, hd, hn, ha, hk, h => by subst hq; omega
  | d + 1, n + 1, q, k, acc, hq, hd, hn, ha, hk, h => by
    obtain ⟨k, rfl⟩ : ∃ m, k = m + 1 := ⟨k - 1, by omega⟩
    have hb : q ≤ 1000000000 := by
      rw [hq]
      have := Nat.pow_le_pow_right (show 10 > 0 by decide) (show d + 1 ≤ 9 by omega)
      exact Nat.le_trans this (by decide)
    rw [Nat.pow_succ] at hq
    have hs : ((⟨#[48, 49, 50, 51, 52, 53, 54, 55, 56, 57]⟩ : ByteArray).extract ((n + 1) % 10) ((n + 1) % 10 + 1)).size = 1 := extract_len _ _ _ (by show (n + 1) % 10 + 1 ≤ 10; omega)
    obtain ⟨y, e1, e2, e3⟩ := digits_l0 d ((n + 1) / 10) (10 ^ d) k (((⟨#[48, 49, 50, 51, 52, 53, 54, 55, 56, 57]⟩ : ByteArray).extract ((n + 1) % 10) ((n + 1) % 10 + 1)) ++ acc) rfl (by omega) (by generalize 10 ^ d = b at *; omega) (by rw [ByteArray.size_append, hs]; clear hq; omega) (by clear hq; omega) (by rw [ByteArray.size_append, hs]; clear hq; omega)
    refine ⟨y, ?_, ?_, e3⟩
    · rw [digits_step k (n + 1) acc (by clear hq; omega) (by clear hq; omega) (Or.inl (by clear hq; omega))]
      exact e1
    · rw [e2, bytesOf_append, ten_bytes _ (Nat.mod_lt _ (by decide))]
      rw [digF_succ d (n + 1) (by omega)]
      simp
theorem digits_run (n k : Nat) (hn : n < 1000000000) (hk : 20 < k) : ∃ y, cofferdamlaw10_digits.f k n = some y ∧ bytesOf y = digL n ∧ y.size ≤ 20 := by
  obtain ⟨k, rfl⟩ : ∃ m, k = m + 1 := ⟨k - 1, by omega⟩
  have hs : ((⟨#[48, 49, 50, 51, 52, 53, 54, 55, 56, 57]⟩ : ByteArray).extract (n % 10) (n % 10 + 1)).size = 1 := extract_len _ _ _ (by show n % 10 + 1 ≤ 10; omega)
  have h0 : ((⟨#[48, 49, 50, 51, 52, 53, 54, 55, 56, 57]⟩ : ByteArray).extract (n % 10) (n % 10 + 1)) ++ (⟨#[]⟩ : ByteArray) = (⟨#[48, 49, 50, 51, 52, 53, 54, 55, 56, 57]⟩ : ByteArray).extract (n % 10) (n % 10 + 1) := ByteArray.append_empty
  obtain ⟨y, e1, e2, e3⟩ := digits_l0 8 (n / 10) 100000000 k ((⟨#[48, 49, 50, 51, 52, 53, 54, 55, 56, 57]⟩ : ByteArray).extract (n % 10) (n % 10 + 1)) (by decide) (by decide) (by omega) (by rw [hs]; omega) (by omega) (by rw [hs]; omega)
  refine ⟨y, ?_, ?_, e3⟩
  · unfold cofferdamlaw10_digits.f
    rw [digits_step k n _ hn (by show 0 ≤ 100; omega) (Or.inr (by decide +kernel)), h0]
    exact e1
  · rw [e2, ten_bytes _ (Nat.mod_lt _ (by decide))]
    unfold digL
    by_cases hz : n = 0
    · subst hz; rfl
    · rw [if_neg hz]
      exact (digF_succ 8 n hz).symm

/-! ### a token that can be written -/
def GoodK (kd : Int) (L : List Int) (n : Int) : Prop :=
  (kd = 1 ∧ L = [] ∧ 0 ≤ n ∧ n < 1000000000) ∨
  (kd = 2 ∧ (∀ x ∈ L, pHex x = true) ∧ 1 ≤ L.length ∧ L.length ≤ 128 ∧ n = 0) ∨
  (kd = 0 ∧ (∃ c t, L = c :: t ∧ pLetter c = true) ∧ (∀ x ∈ L, pWord x = true) ∧ L.length ≤ 16 ∧ n = 0) ∨
  (kd = 3 ∧ (∃ c, L = [c] ∧ (c = 40 ∨ c = 41 ∨ c = 44 ∨ c = 61 ∨ c = 59)) ∧ n = 0)
def GoodTok (t : S41) : Prop := GoodK t.f0 (bytesOf t.f1) t.f2
def txt (kd : Int) (L : List Int) (n : Int) : List Int := if kd = 1 then digL n.toNat else if kd = 2 then 36 :: L else L
def txtT (t : S41) : List Int := txt t.f0 (bytesOf t.f1) t.f2
theorem takeWhile_of_all (p : Int → Bool) : ∀ (l : List Int), (∀ x ∈ l, p x = true) → l.takeWhile p = l
  | [], _ => rfl
  | c :: l, h => by rw [List.takeWhile_cons_of_pos (h c List.mem_cons_self), takeWhile_of_all p l (fun x hx => h x (List.mem_cons_of_mem _ hx))]
theorem figure_no_letter {c : Int} (h : pFigure c = true) : pLetter c = false := by
  have := figure_of h
  unfold pLetter
  rw [decide_eq_false (by omega)]
  rfl
theorem good_one {kd : Int} {L : List Int} {n : Int} (h : GoodK kd L n) : (oneL (txt kd L n)).kind = kd ∧ (oneL (txt kd L n)).s = L ∧ (oneL (txt kd L n)).n = n ∧ (oneL (txt kd L n)).len = (txt kd L n).length ∧ (oneL (txt kd L n)).e = 0 := by
  rcases h with ⟨rfl, rfl, h0, h1⟩ | ⟨rfl, hx, h1, h2, rfl⟩ | ⟨rfl, ⟨c, t, rfl, hc⟩, hx, h2, rfl⟩ | ⟨rfl, ⟨c, rfl, hc⟩, rfl⟩
  · have e1 : txt 1 [] n = digL n.toNat := rfl
    rw [e1]
    have hl := digL_len n.toNat
    have hf := digL_fig n.toNat
    have hn := digL_num n.toNat (by omega)
    cases hD : digL n.toNat with
    | nil => rw [hD] at hl; simp at hl
    | cons c t =>
      rw [hD] at hl hf hn
      have hc := hf c List.mem_cons_self
      have ht := takeWhile_of_all pFigure (c :: t) hf
      simp only [oneL]
      rw [if_neg (by rw [figure_no_letter hc]; decide), if_pos hc, ht, List.drop_length, if_neg (by omega), if_neg (by decide), hn]
      exact ⟨rfl, rfl, Int.toNat_of_nonneg h0, rfl, rfl⟩
  · have e1 : txt 2 L 0 = 36 :: L := rfl
    rw [e1]
    have ht := takeWhile_of_all pHex L hx
    simp only [oneL]
    rw [if_neg (by decide), if_neg (by decide), if_pos trivial, ht, List.drop_length, if_neg (by omega), if_neg (by omega), if_neg (by decide)]
    exact ⟨rfl, rfl, rfl, rfl, rfl⟩
  · have e1 : txt 0 (c :: t) 0 = c :: t := rfl
    rw [e1]
    have ht := takeWhile_of_all pWord (c :: t) hx
    simp only [oneL]
    rw [if_pos hc, ht, if_neg (by omega)]
    exact ⟨rfl, rfl, rfl, rfl, rfl⟩
  · have e1 : txt 3 [c] 0 = [c] := rfl
    rw [e1]
    rcases hc with rfl | rfl | rfl | rfl | rfl <;> decide
theorem good_head {kd : Int} {L : List Int} {n : Int} (h : GoodK kd L n) : (∃ c t, txt kd L n = c :: t ∧ isBlank c = false ∧ c ≠ 47) ∧ (txt kd L n).length ≤ 129 := by
  rcases h with ⟨rfl, rfl, h0, h1⟩ | ⟨rfl, hx, h1, h2, rfl⟩ | ⟨rfl, ⟨c, t, rfl, hc⟩, hx, h2, rfl⟩ | ⟨rfl, ⟨c, rfl, hc⟩, rfl⟩
  · have e1 : txt 1 [] n = digL n.toNat := rfl
    rw [e1]
    have hl := digL_len n.toNat
    have hf := digL_fig n.toNat
    refine ⟨?_, by omega⟩
    cases hD : digL n.toNat with
    | nil => rw [hD] at hl; simp at hl
    | cons c t =>
      rw [hD] at hf
      have hc := figure_of (hf c List.mem_cons_self)
      refine ⟨c, t, rfl, ?_, by omega⟩
      unfold isBlank
      simp only [Bool.or_eq_false_iff, beq_eq_false_iff_ne]
      omega
  · exact ⟨⟨36, L, rfl, by decide, by decide⟩, by show (36 :: L).length ≤ 129; simp; omega⟩
  · refine ⟨⟨c, t, rfl, ?_, ?_⟩, by show (c :: t).length ≤ 129; omega⟩
    · unfold pLetter at hc
      simp only [Bool.and_eq_true, decide_eq_true_eq] at hc
      unfold isBlank
      simp only [Bool.or_eq_false_iff, beq_eq_false_iff_ne]
      omega
    · unfold pLetter at hc
      simp only [Bool.and_eq_true, decide_eq_true_eq] at hc
      omega
  · refine ⟨⟨c, [], rfl, ?_, ?_⟩, by show 1 ≤ 129; omega⟩ <;> rcases hc with rfl | rfl | rfl | rfl | rfl <;> decide
theorem text_run (t : S41) (h : GoodTok t) (k : Nat) (hk : 20 < k) (at_ : Int) : ∃ y, cofferdamlaw10_text.f k t.f0 t.f1 t.f2 at_ = some y ∧ bytesOf y = txtT t ∧ y.size ≤ 129 := by
  have hlen := (good_head h).2
  have hsz : ∀ y : ByteArray, bytesOf y = txtT t → y.size ≤ 129 := fun y hy => by
    rw [← bytesOf_length, hy]; exact hlen
  unfold cofferdamlaw10_text.f
  by_cases h1 : t.f0 = 1
  · have et : txtT t = digL t.f2.toNat := by unfold txtT txt; rw [if_pos h1]
    have hr : 0 ≤ t.f2 ∧ t.f2 < 1000000000 := by
      rcases h with ⟨_, _, h0, h2⟩ | ⟨h9, _⟩ | ⟨h9, _⟩ | ⟨h9, _⟩
      · exact ⟨h0, h2⟩
      all_goals (rw [h1] at h9; exact absurd h9 (by decide))
    obtain ⟨y, e1, e2, e3⟩ := digits_run t.f2.toNat k (by omega) hk
    rw [Int.toNat_of_nonneg hr.1] at e1
    refine ⟨y, ?_, by rw [et, e2], hsz y (by rw [et, e2])⟩
    rw [if_pos h1, e1]; rfl
  · by_cases h2 : t.f0 = 2
    · have et : txtT t = 36 :: bytesOf t.f1 := by unfold txtT txt; rw [if_neg h1, if_pos h2]
      have hL : t.f1.size ≤ 128 := by
        rcases h with ⟨h9, _⟩ | ⟨_, _, _, h3, _⟩ | ⟨h9, _⟩ | ⟨h9, _⟩
        · exact absurd h9 h1
        · rw [bytesOf_length] at h3; exact h3
        all_goals (rw [h2] at h9; exact absurd h9 (by decide))
      have he : bytesOf ((⟨#[36]⟩ : ByteArray) ++ t.f1) = txtT t := by rw [bytesOf_append, et]; rfl
      exact ⟨_, by rw [if_neg h1, if_pos h2, if_pos (by omega)], he, hsz _ he⟩
    · have et : bytesOf t.f1 = txtT t := by unfold txtT txt; rw [if_neg h1, if_neg h2]
      exact ⟨_, by rw [if_neg h1, if_neg h2], et, hsz _ et⟩
/-! ### the scanner's tokens can be written -/
theorem bytesOf_range (s : ByteArray) : ∀ x ∈ bytesOf s, 0 ≤ x ∧ x ≤ 255 := by
  intro x hx
  unfold bytesOf at hx
  obtain ⟨b, _, rfl⟩ := List.mem_map.1 hx
  have := b.toNat_lt
  omega
theorem bytesOf_strOfNums (l : List Int) (h : ∀ x ∈ l, 0 ≤ x ∧ x ≤ 255) : bytesOf (strOfNums l) = l := by
  unfold bytesOf strOfNums
  rw [List.toList_toArray, List.map_map]
  conv => rhs; rw [← List.map_id l]
  apply List.map_congr_left
  intro x hx
  have := h x hx
  simp only [Function.comp, id]
  rw [UInt8.toNat_ofNat_of_lt' (by simp [UInt8.size]; omega)]
  omega
theorem scanF_good : ∀ (f cnt : Nat) (r : List Int) (total : Nat) (l : List S41), scanF f cnt r total = .ok l → (∀ x ∈ r, 0 ≤ x ∧ x ≤ 255) → ∀ t ∈ l, GoodTok t
  | 0, _, _, _, l, h, _ => by
    simp only [scanF, Except.ok.injEq] at h
    subst h
    intro t ht
    cases ht
  | f + 1, cnt, r, total, l, h, hr => by
    rw [scanF_step] at h
    by_cases h1 : r = []
    · rw [if_pos h1] at h
      simp only [Except.ok.injEq] at h
      subst h
      intro t ht
      cases ht
    · rw [if_neg h1] at h
      by_cases h5 : cnt = 500
      · rw [if_pos h5] at h; cases h
      · rw [if_neg h5] at h
        by_cases he : (oneL r).e = 0
        · rw [if_pos he] at h
          cases hx : scanF f (cnt + 1) (skipS false (r.drop (oneL r).len)) total with
          | error e => rw [hx] at h; cases h
          | ok m =>
            rw [hx] at h
            simp only [Except.map, Except.ok.injEq] at h
            subst h
            intro t ht
            rcases List.mem_cons.1 ht with rfl | ht
            · have hok := oneL_ok r h1 he
              have hmem : ∀ (p : Int → Bool) (q : Nat), ∀ x ∈ (r.drop q).takeWhile p, 0 ≤ x ∧ x ≤ 255 := fun p q x hx => hr x ((List.drop_sublist q r).subset ((List.takeWhile_sublist p).subset hx))
              have hrng : ∀ x ∈ (oneL r).s, 0 ≤ x ∧ x ≤ 255 := by
                rcases hok with ⟨_, hs, _⟩ | ⟨_, _, _, hs, _⟩ | ⟨_, _, _, hs, _⟩ | ⟨_, ⟨c, t, hr2, _, hs⟩, _⟩
                · rw [hs]; intro x hx; cases hx
                · rw [hs]; exact hmem pHex 1
                · rw [hs]; exact hmem pWord 0
                · rw [hs]
                  intro x hx
                  obtain rfl := List.mem_singleton.1 hx
                  exact hr x (by rw [hr2]; exact List.mem_cons_self)
              unfold GoodTok
              simp only [tokOf]
              rw [bytesOf_strOfNums _ hrng]
              rcases hok with ⟨hk, hs, hl, g1, g9, hn⟩ | ⟨hk, _, _, hs, g1, g2, hn⟩ | ⟨hk, ⟨c, hc, hlet⟩, hl, hs, g1, g2, hn⟩ | ⟨hk, ⟨c, t, hr2, hc, hs⟩, _, hn⟩
              · have := lexNum_small (r.takeWhile pFigure) (takeWhile_all _ _) (by omega) (r.takeWhile pFigure).length (Nat.le_refl _)
                rw [List.take_length, ← hn] at this
                exact Or.inl ⟨hk, hs, this⟩
              · exact Or.inr (Or.inl ⟨hk, by rw [hs]; exact takeWhile_all _ _, by rw [hs]; exact g1, by rw [hs]; exact g2, hn⟩)
              · refine Or.inr (Or.inr (Or.inl ⟨hk, ?_, by rw [hs]; exact takeWhile_all _ _, by rw [hs]; exact g2, hn⟩))
                cases r with
                | nil => cases hc
                | cons d t =>
                  obtain rfl : d = c := Option.some.inj hc
                  have hw : pWord d = true := by unfold pWord; rw [hlet]; rfl
                  exact ⟨d, _, by rw [hs, List.takeWhile_cons_of_pos hw], hlet⟩
              · exact Or.inr (Or.inr (Or.inr ⟨hk, ⟨c, hs, hc⟩, hn⟩))
            · exact scanF_good f (cnt + 1) _ total m hx (fun x hx => hr x ((List.drop_sublist _ r).subset ((skipS_suffix _ _).subset hx))) t ht
        · rw [if_neg he] at h; cases h
/-! ### the tokens, written, are read again -/
def catT : List S41 → List Int
  | [] => []
  | t :: l => txtT t ++ 32 :: catT l
def relist : Nat → List S41 → List S41
  | _, [] => []
  | p, t :: l => ⟨t.f0, t.f1, t.f2, (p : Int)⟩ :: relist (p + (txtT t).length + 1) l
theorem relist_len : ∀ (l : List S41) (p : Nat), (relist p l).length = l.length
  | [], p => rfl
  | t :: l, p => by simp [relist, relist_len l]
theorem again_scan : ∀ (l : List S41) (cnt f total : Nat), (∀ t ∈ l, GoodTok t) → cnt + l.length ≤ 500 → (catT l).length ≤ total → (catT l).length < f →
    scanF f cnt (skipS false (catT l)) total = .ok (relist (total - (catT l).length) l)
  | [], cnt, f, total, _, _, _, hf => by
    obtain ⟨f, rfl⟩ : ∃ m, f = m + 1 := ⟨f - 1, by omega⟩
    rfl
  | t :: l, cnt, f, total, hg, hc, ht, hf => by
    obtain ⟨f, rfl⟩ : ∃ m, f = m + 1 := ⟨f - 1, by omega⟩
    have hgt := hg t List.mem_cons_self
    obtain ⟨⟨c, u, hcu, hb, h47⟩, _⟩ := good_head hgt
    obtain ⟨o1, o2, o3, o4, o5⟩ := good_one hgt
    have hcat : catT (t :: l) = txtT t ++ 32 :: catT l := rfl
    have hskip : skipS false (catT (t :: l)) = txtT t ++ 32 :: catT l := by
      rw [hcat]
      unfold txtT
      rw [hcu]
      simp only [List.cons_append, skipS]
      rw [if_neg (by rw [hb]; decide), if_neg (by intro h; exact h47 h.1)]
    have hL : (catT (t :: l)).length = (txtT t).length + 1 + (catT l).length := by rw [hcat]; simp; omega
    have hne : txtT t ≠ [] := by unfold txtT; rw [hcu]; simp
    have hone := oneL_stop 32 stops32 (catT l) (txtT t) hne
    rw [hskip, scanF_step, if_neg (by simp), if_neg (by simp at hc; omega), hone]
    rw [if_pos (show (oneL (txtT t)).e = 0 from o5), show (oneL (txtT t)).len = (txtT t).length from o4, List.drop_left]
    have h32 : skipS false (32 :: catT l) = skipS false (catT l) := by simp [skipS, isBlank]
    rw [h32, again_scan l (cnt + 1) f total (fun x hx => hg x (List.mem_cons_of_mem _ hx)) (by simp at hc; omega) (by omega) (by omega)]
    have hlen2 : (txtT t ++ 32 :: catT l).length = (catT (t :: l)).length := by rw [hcat]
    rw [hlen2]
    show Except.ok (tokOf (oneL (txtT t)) (total - (catT (t :: l)).length) :: relist (total - (catT l).length) l) = _
    unfold tokOf
    rw [show (oneL (txtT t)).kind = t.f0 from o1, show (oneL (txtT t)).s = bytesOf t.f1 from o2, show (oneL (txtT t)).n = t.f2 from o3, strOfNums_bytesOf]
    rw [relist, show total - (catT (t :: l)).length + (txtT t).length + 1 = total - (catT l).length by omega]
theorem again_loop : ∀ (l acc : List S41) (x5 : Int) (x6 : ByteArray) (K k : Nat), (∀ t ∈ l, GoodTok t) → x6.size + 130 * l.length ≤ 1000000 → acc.length + l.length ≤ 500 → K + l.length + 30 < k →
    ∃ (k' : Nat) (y : ByteArray), K ≤ k' ∧ bytesOf y = bytesOf x6 ++ catT l ∧ cofferdamlaw10_LexAgain.l0 k (acc ++ l) x5 x6 acc.length = cofferdamlaw10_LexAgain.l0 (k' + 1) (acc ++ relist x6.size l) x5 y ((acc.length + l.length : Nat) : Int)
  | [], acc, x5, x6, K, k, hg, hs, ha, hk => ⟨k - 1, x6, by omega, by simp [catT], by rw [show k - 1 + 1 = k by omega]; rfl⟩
  | t :: l, acc, x5, x6, K, k, hg, hs, ha, hk => by
    obtain ⟨k, rfl⟩ : ∃ m, k = m + 1 := ⟨k - 1, by omega⟩
    obtain ⟨y0, e1, e2, e3⟩ := text_run t (hg t List.mem_cons_self) k (by omega) (x6.size : Int)
    have hy0 : y0.size = (txtT t).length := by rw [← bytesOf_length, e2]
    have hsz : (x6 ++ y0 ++ (⟨#[32]⟩ : ByteArray)).size = x6.size + (txtT t).length + 1 := by rw [ByteArray.size_append, ByteArray.size_append, hy0]; rfl
    simp only [List.length_cons] at hs ha hk
    obtain ⟨k', y, f1, f2, f3⟩ := again_loop l (acc ++ [⟨t.f0, t.f1, t.f2, (x6.size : Int)⟩]) x5 (x6 ++ y0 ++ (⟨#[32]⟩ : ByteArray)) K k (fun x hx => hg x (List.mem_cons_of_mem _ hx)) (by rw [hsz]; omega) (by simp; omega) (by omega)
    refine ⟨k', y, f1, ?_, ?_⟩
    · rw [f2, bytesOf_append, bytesOf_append, e2]
      show bytesOf x6 ++ txtT t ++ [32] ++ catT l = bytesOf x6 ++ (txtT t ++ 32 :: catT l)
      simp
    · rw [List.append_assoc, List.singleton_append, List.length_append, List.length_singleton, hsz, List.append_assoc, List.singleton_append] at f3
      have hr : relist x6.size (t :: l) = ⟨t.f0, t.f1, t.f2, (x6.size : Int)⟩ :: relist (x6.size + (txtT t).length + 1) l := rfl
      have hn : ((acc.length + (t :: l).length : Nat) : Int) = ((acc.length + 1 + l.length : Nat) : Int) := by rw [List.length_cons]; omega
      have hget : rd_T41 (acc ++ t :: l) (acc.length : Int) = t := by
        unfold rd_T41
        rw [Int.toNat_natCast, List.getD_eq_getElem?_getD, List.getElem?_append_right (Nat.le_refl _), Nat.sub_self]
        rfl
      have hget2 : ∀ u : S41, rd_T41 (acc ++ u :: l) (acc.length : Int) = u := by
        intro u
        unfold rd_T41
        rw [Int.toNat_natCast, List.getD_eq_getElem?_getD, List.getElem?_append_right (Nat.le_refl _), Nat.sub_self]
        rfl
      have hset : ∀ u : S41, (acc ++ t :: l).set acc.length u = acc ++ u :: l := by
        intro u
        rw [List.set_append_right _ _ (Nat.le_refl _), Nat.sub_self]
        rfl
      have c1 : ((acc.length : Nat) : Int) < ((acc ++ t :: l).length : Int) := by rw [List.length_append, List.length_cons]; omega
      have c2 : x6.size + y0.size ≤ 9223372036854775807 := by omega
      have c3 : (x6 ++ y0).size + 1 ≤ 9223372036854775807 := by rw [ByteArray.size_append]; omega
      have c4 : acc.length ≤ 1000000 := by omega
      rw [hr, hn, ← f3, cofferdamlaw10_LexAgain.l0, if_pos c1, if_pos (Int.natCast_nonneg _), hget, Int.toNat_natCast, hset]
      simp only [Option.bind_some]
      rw [hget2]
      simp only []
      rw [e1]
      simp only [Option.bind_some]
      rw [if_pos c2, if_pos c3, wnat1 _ c4]
theorem again_end (k : Nat) (hk : 200000 < k) (l : List S41) (y : ByteArray) (hg : ∀ t ∈ l, GoodTok t) (hl : l.length ≤ 500) (hy : bytesOf y = catT l) (n : Int) (hn : n = (l.length : Int)) :
    cofferdamlaw10_LexAgain.l0 (k + 1) (relist 0 l) (-1) y n = some true := by
  have hrl := relist_len l 0
  have c1 : ¬ n < ((relist 0 l).length : Int) := by rw [hrl]; omega
  have hyl : y.size = (catT l).length := by rw [← bytesOf_length, hy]
  rw [cofferdamlaw10_LexAgain.l0, if_neg c1]
  by_cases h : (y.size : Int) > 2000
  · have hs : scan (bytesOf y) = .error (103, 0) := by
      unfold scan
      rw [if_pos (by rw [bytesOf_length]; omega)]
    rw [scan_run_err hs k (by omega)]
    simp only [Option.bind_some]
    rw [if_pos h, alive10_at k (by omega)]
    rfl
  · have hs : scan (bytesOf y) = .ok (relist 0 l) := by
      unfold scan
      rw [if_neg (by rw [bytesOf_length]; omega), hy, again_scan l 0 _ _ hg (by omega) (Nat.le_refl _) (by omega), Nat.sub_self]
    rw [scan_run_ok hs k (by omega)]
    simp only [Option.bind_some]
    rw [if_neg h, same_refl (relist 0 l) (by omega) k (by omega), alive10_at k (by omega)]
    rfl
theorem LexAgain : cofferdamlaw10_LexAgain.Pure := by
  intro a ha
  obtain ⟨K, hK⟩ : ∃ K : Nat, 300000 ≤ K := ⟨300000, Nat.le_refl _⟩
  refine ⟨K, ?_⟩
  unfold cofferdamlaw10_LexAgain.f
  cases hA : scan (bytesOf a) with
  | error e =>
    have he : e.1 ≠ 0 := by
      unfold scan at hA
      by_cases h : 2000 < (bytesOf a).length
      · rw [if_pos h] at hA
        simp only [Except.error.injEq] at hA
        subst hA
        decide
      · rw [if_neg h] at hA
        exact (scanF_err _ _ _ _ _ hA (skipS_len _ _)).1
    rw [scan_run_err hA K (by omega)]
    simp only [Option.bind_some]
    rw [if_neg he, alive10_at K (by omega)]
    rfl
  | ok l =>
    have hl := scan_ok hA
    have hg : ∀ t ∈ l, GoodTok t := by
      unfold scan at hA
      by_cases h : 2000 < (bytesOf a).length
      · rw [if_pos h] at hA; cases hA
      · rw [if_neg h] at hA
        exact scanF_good _ _ _ _ l hA (fun x hx => bytesOf_range a x ((skipS_suffix _ _).subset hx))
    rw [scan_run_ok hA K (by omega)]
    simp only [Option.bind_some]
    rw [if_pos trivial]
    obtain ⟨k', y, f1, f2, f3⟩ := again_loop l [] (-1) (⟨#[]⟩ : ByteArray) 200001 K hg (by show 0 + 130 * l.length ≤ 1000000; omega) (by simp; omega) (by omega)
    simp only [List.length_nil, Int.natCast_zero, List.nil_append] at f3
    rw [f3]
    exact again_end k' (by omega) l y hg hl.2.1 f2 _ (by omega)
end Go.Proofs.Ytocclfjddihmbaa.Pure
