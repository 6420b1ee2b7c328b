/- What the reference's Integrity, Verity and Store answer, in plain numbers. -/
import Derived.Test.YtligdimpdcloeaaAreaVal
import Derived.Test.YtligdimpdcloeaaPcofferdamref12Integrity
import Derived.Test.YtligdimpdcloeaaPcofferdamref12Verity
import Derived.Test.YtligdimpdcloeaaPcofferdamref12Store
namespace Go.Proofs.Ytligdimpdcloeaa.Pure
open Go.RowKit Go.Proofs.Ytligdimpdcloeaa.P Go.Proofs.YtligdimpdcloeaaW.PrintWords Go.Proofs.YtligdimpdcloeaaW.PrintLast
set_option linter.unusedVariables false
set_option linter.unusedSimpArgs false

theorem zw1 (a : Nat) (h : a ≤ 1000000) : wrap64 ((a : Int) + 1) = ((a + 1 : Nat) : Int) := by unfold wrap64; omega
theorem zw3 (a : Nat) (h : a ≤ 1000000) : wrap64 ((a : Int) + 3) = ((a + 3 : Nat) : Int) := by unfold wrap64; omega
theorem zw4 (a : Nat) (h : a ≤ 1000000) : wrap64 ((a : Int) + 4) = ((a + 4 : Nat) : Int) := by unfold wrap64; omega
theorem zt (a b : Nat) : Int.tdiv (a : Int) (b : Int) = ((a / b : Nat) : Int) := rfl
theorem zt4 (a : Nat) : Int.tdiv (a : Int) 4 = ((a / 4 : Nat) : Int) := rfl
theorem zt2 (a : Nat) : Int.tdiv (a : Int) 2 = ((a / 2 : Nat) : Int) := rfl
theorem ref_integ_l0 (n D : Nat) (hn : n ≤ 8192) (h1 : D = 0 ∨ D + (D + 3) / 4 ≤ n) (h2 : n < D + 1 + (D + 4) / 4) : ∀ (d i k : Nat), D - i ≤ d → i ≤ D → d < k →
    cofferdamref12_Integrity.l0 k n i = some ((D : Int), (((D + 3) / 4 : Nat) : Int))
  | d, i, 0, _, _, h => by omega
  | d, i, k + 1, hd, hi, hk => by
    have bD : D ≤ 8192 := by omega
    rw [cofferdamref12_Integrity.l0, zw1 i (by omega), zw4 i (by omega), zt4, sw3 ((i + 4) / 4) (by omega), sw1 (i + 1) ((i + 4) / 4) (by omega)]
    by_cases hlt : i < D
    · rw [if_pos (by omega)]
      cases d with
      | zero => omega
      | succ d => exact ref_integ_l0 n D hn h1 h2 d (i + 1) k (by omega) (by omega) (by omega)
    · obtain rfl : i = D := by omega
      rw [if_neg (by omega), zw3 i (by omega), zt4, sw3 ((i + 3) / 4) (by omega)]
theorem ref_integ_true (k : Nat) (x : Int) : cofferdamref12_Integrity.j0 (k + 1) x true = some (0, 0) := by rw [cofferdamref12_Integrity.j0, if_pos rfl]
theorem ref_integ (k : Nat) (hk : 19999 ≤ k) (x : Int) : cofferdamref12_Integrity.f (k + 1) x = area_Integrity.f x := by
  unfold cofferdamref12_Integrity.f
  by_cases h : x < 0
  · rw [if_pos h, integ_bad x (Or.inl h), ref_integ_true]
  · rw [if_neg h]
    by_cases h2 : x > 8192
    · rw [decide_eq_true h2, integ_bad x (Or.inr h2), ref_integ_true]
    · obtain ⟨n, rfl⟩ : ∃ m : Nat, x = m := ⟨x.toNat, by omega⟩
      have hs := integ_spec n
      rw [decide_eq_false h2, integ_v n (by omega)]
      generalize bestF (fun d => (d + 3) / 4) 8192 n = D at *
      rw [cofferdamref12_Integrity.j0, if_neg (by decide)]
      exact ref_integ_l0 n D (by omega) hs.2.1 (by omega) D 0 k (by omega) (by omega) (by omega)
theorem ref_lev_l0 (n : Nat) : ∀ (s k : Nat) (acc : List Int), 1 ≤ n → n ≤ 2048 → (n = 1 → acc = []) → n + 2 ≤ k → acc.length ≤ 10000 - n →
    cofferdamref06_Levels.l0 k n acc = some (acc ++ (levF n n s).map (fun x => ((x.2 : Nat) : Int))) := by
  induction n using Nat.strongRecOn with
  | _ n ih =>
    intro s k acc h1 h2 h3 hk hl
    obtain ⟨k, rfl⟩ : ∃ m, k = m + 1 := ⟨k - 1, by omega⟩
    have go : cofferdamref06_Levels.l0 (k + 1) n acc = cofferdamref06_Levels.l0 k (((n + 1) / 2 : Nat) : Int) (acc ++ [(((n + 1) / 2 : Nat) : Int)]) := by
      rw [cofferdamref06_Levels.l0, zw1 n (by omega), zt2, sw3 ((n + 1) / 2) (by omega)]
      by_cases hn : n = 1
      · subst hn
        rw [h3 rfl]
        rfl
      · rw [if_neg (by omega), if_pos (by omega)]
    rw [go, levF_step n s h1]
    by_cases hm : (n + 1) / 2 = 1
    · rw [if_pos hm, hm]
      obtain ⟨k, rfl⟩ : ∃ m, k = m + 1 := ⟨k - 1, by omega⟩
      have e0 : ¬ ((acc ++ [((1 : Nat) : Int)]).length : Int) = 0 := by rw [List.length_append, List.length_singleton]; omega
      rw [cofferdamref06_Levels.l0, if_pos (by rfl), if_neg e0]
      rfl
    · rw [if_neg hm, ih ((n + 1) / 2) (by omega) (s + (n + 1) / 2) k _ (by omega) (by omega) (fun h => absurd h hm) (by omega) (by rw [List.length_append, List.length_singleton]; omega), List.append_assoc]
      rfl
theorem ref_lev (d k : Nat) (h1 : 1 ≤ d) (h2 : d ≤ 2048) (hk : 3000 ≤ k) : cofferdamref06_Levels.f k d = some ((levZ (d : Int)).map (fun x => ((x.2 : Nat) : Int))) := by
  obtain ⟨k, rfl⟩ : ∃ m, k = m + 1 := ⟨k - 1, by omega⟩
  unfold cofferdamref06_Levels.f levZ
  have c1 : ¬ (d : Int) < 1 := by omega
  have c2 : ¬ (d : Int) > 2048 := by omega
  have c3 : ¬ ((d : Int) < 1 ∨ 2048 < (d : Int)) := by omega
  rw [if_neg c1, if_neg c3, decide_eq_false c2, cofferdamref06_Levels.j0, if_neg (by decide), Int.toNat_natCast, ref_lev_l0 d 0 k [] h1 h2 (fun _ => rfl) (by omega) (by show 0 ≤ _; omega), List.nil_append]
theorem ref_rd (l : List (Nat × Nat)) (i : Nat) (h : i < l.length) : rd (l.map (fun x => ((x.2 : Nat) : Int))) (i : Int) = ((l[i].2 : Nat) : Int) := by
  unfold rd
  rw [Int.toNat_natCast, List.getD_eq_getElem?_getD, List.getElem?_map, List.getElem?_eq_getElem h]
  rfl
theorem ref_sum (l : List (Nat × Nat)) (hl : l.length ≤ 100000) (hs : (l.map (fun x => x.2)).sum ≤ 1000000) : ∀ (d i k s : Nat), l.length - i ≤ d → i ≤ l.length → d < k → s + ((l.drop i).map (fun x => x.2)).sum = (l.map (fun x => x.2)).sum →
    cofferdamref12_hashes.l0 k s (l.map (fun x => ((x.2 : Nat) : Int))) i = some (((l.map (fun x => x.2)).sum : Nat) : Int)
  | d, i, 0, s, _, _, h, _ => by omega
  | d, i, k + 1, s, hd, hi, hk, hsum => by
    rw [cofferdamref12_hashes.l0, List.length_map]
    by_cases hlt : i < l.length
    · have hx := sum_drop l i hlt
      rw [if_pos (by omega), if_pos (Int.natCast_nonneg _), ref_rd l i hlt, sw1 s l[i].2 (by omega), zw1 i (by omega)]
      cases d with
      | zero => omega
      | succ d => exact ref_sum l hl hs d (i + 1) k (s + l[i].2) (by omega) (by omega) (by omega) (by omega)
    · obtain rfl : i = l.length := by omega
      rw [List.drop_length] at hsum
      rw [if_neg (by omega), ← hsum]
      rfl
theorem ref_hashes (d k : Nat) (h1 : 1 ≤ d) (h2 : d ≤ 2048) (hk : 3000 ≤ k) : cofferdamref12_hashes.f k d = some ((hashN d : Nat) : Int) := by
  unfold cofferdamref12_hashes.f
  have hlen := levZ_len d
  have hsum := hashN_le d
  rw [ref_lev d k h1 h2 hk, Option.bind_some]
  exact ref_sum (levZ d) (by omega) (by unfold hashN at hsum; omega) (levZ d).length 0 k 0 (by omega) (by omega) (by omega) (by simp)
theorem ref_ver_l0 (n D : Nat) (hn : n ≤ 8192) (bD : D ≤ 2048) (h1 : D = 0 ∨ D + hashN D ≤ n) (h2 : D = 2048 ∨ n < D + 1 + hashN (D + 1)) : ∀ (d i k : Nat), D - i ≤ d → i ≤ D → d + 4000 < k →
    cofferdamref12_Verity.l0 k n i = some ((D : Int), ((hashN D : Nat) : Int))
  | d, i, 0, _, _, h => by omega
  | d, i, k + 1, hd, hi, hk => by
    rw [cofferdamref12_Verity.l0]
    have fin : i = D → (if (i : Int) = 0 then some ((0 : Int), (0 : Int)) else ((cofferdamref12_hashes.f k i).bind fun t113 => (some ((i : Int), t113)))) = some ((D : Int), ((hashN D : Nat) : Int)) := fun h => by
      subst h
      by_cases h0 : i = 0
      · subst h0; rfl
      · rw [if_neg (by omega), ref_hashes i k (by omega) (by omega) (by omega)]
        rfl
    by_cases hlt : i < D
    · have hm := hashN_mono (i + 1) D (by omega) (by omega) bD
      have hb := hashN_le (i + 1)
      rw [if_pos (by omega), zw1 i (by omega), ref_hashes (i + 1) k (by omega) (by omega) (by omega), Option.bind_some]
      rw [sw1 (i + 1) (hashN (i + 1)) (by omega), if_pos (by omega)]
      cases d with
      | zero => omega
      | succ d => exact ref_ver_l0 n D hn bD h1 h2 d (i + 1) k (by omega) (by omega) (by omega)
    · have hD : i = D := by omega
      by_cases h3 : i < 2048
      · have hb := hashN_le (i + 1)
        rw [if_pos (by omega), zw1 i (by omega), ref_hashes (i + 1) k (by omega) (by omega) (by omega), Option.bind_some]
        rw [sw1 (i + 1) (hashN (i + 1)) (by omega), if_neg (by subst hD; omega)]
        exact fin hD
      · rw [if_neg (by omega)]
        exact fin hD
theorem ref_ver_true (k : Nat) (x : Int) : cofferdamref12_Verity.j0 (k + 1) x true = some (0, 0) := by rw [cofferdamref12_Verity.j0, if_pos rfl]
theorem ref_ver (k : Nat) (hk : 19999 ≤ k) (x : Int) : cofferdamref12_Verity.f (k + 1) x = area_Verity.f x := by
  unfold cofferdamref12_Verity.f
  by_cases h : x < 0
  · rw [if_pos h, verity_bad x (Or.inl h), ref_ver_true]
  · rw [if_neg h]
    by_cases h2 : x > 8192
    · rw [decide_eq_true h2, verity_bad x (Or.inr h2), ref_ver_true]
    · obtain ⟨n, rfl⟩ : ∃ m : Nat, x = m := ⟨x.toNat, by omega⟩
      have hs := verity_spec n
      rw [decide_eq_false h2, verity_v n (by omega)]
      generalize bestF hashN 2048 n = D at *
      rw [cofferdamref12_Verity.j0, if_neg (by decide)]
      exact ref_ver_l0 n D (by omega) hs.1 hs.2.1 hs.2.2 D 0 k (by omega) (by omega) (by omega)
theorem zwm (a b : Nat) (h : a * b ≤ 1000000) : wrap64 ((a : Int) * (b : Int)) = ((a * b : Nat) : Int) := by
  rw [← Int.natCast_mul]
  exact sw3 _ h
theorem ref_store_l0 (n o c : Nat) (hn : n ≤ 8192) (ho : o ≤ 8192) (hc : 1 ≤ c) (hc2 : c ≤ 16) : ∀ (d i k : Nat), stS n o c - i ≤ d → i ≤ stS n o c → d < k →
    cofferdamref12_Store.l0 k n c (stC o c : Nat) (stT o c : Nat) i = some (if stS n o c < 1 then (0, 0) else (((stT o c : Nat) : Int), ((stS n o c : Nat) : Int)))
  | d, i, 0, _, _, h => by omega
  | d, i, k + 1, hd, hi, hk => by
    have hC := stC_le o c ho hc hc2
    have hT : stT o c ≤ 600 := by unfold stT; omega
    have hS : stS n o c = min (stC o c) ((n - stT o c) / c) := rfl
    have fin : i = stS n o c → (if (i : Int) = 0 then some ((0 : Int), (0 : Int)) else some (((stT o c : Nat) : Int), (i : Int))) = some (if stS n o c < 1 then (0, 0) else (((stT o c : Nat) : Int), ((stS n o c : Nat) : Int))) := fun h => by
      rw [← h]
      by_cases h0 : i = 0
      · subst h0; rfl
      · rw [if_neg (by omega), if_neg (by omega)]
    have hq := Nat.le_div_iff_mul_le (x := i + 1) (y := n - stT o c) (show 0 < c by omega)
    have hmul : (i + 1) * c ≤ 8209 * 16 := Nat.mul_le_mul (by omega) hc2
    have go : i < stS n o c → cofferdamref12_Store.l0 k n c (stC o c : Nat) (stT o c : Nat) ((i + 1 : Nat) : Int) = some (if stS n o c < 1 then (0, 0) else (((stT o c : Nat) : Int), ((stS n o c : Nat) : Int))) := fun h => by
      cases d with
      | zero => omega
      | succ d => exact ref_store_l0 n o c hn ho hc hc2 d (i + 1) k (by omega) (by omega) (by omega)
    rw [cofferdamref12_Store.l0]
    generalize stS n o c = S at *
    generalize stC o c = C at *
    generalize stT o c = T at *
    have hpos : 1 ≤ (i + 1) * c := Nat.mul_pos (by omega) (by omega)
    rw [zw1 i (by omega), zwm (i + 1) c (by omega), sw1 T ((i + 1) * c) (by omega)]
    generalize (i + 1) * c = M at *
    generalize (n - T) / c = Q at *
    by_cases hlt : i < S
    · have := hq.1 (by omega)
      rw [if_pos (by omega), if_pos (by omega)]
      exact go hlt
    · have hD : i = S := by omega
      by_cases h3 : i < C
      · have : ¬ M ≤ n - T := fun h => by have := hq.2 h; omega
        rw [if_pos (by omega), if_neg (by omega)]
        exact fin hD
      · rw [if_neg (by omega)]
        exact fin hD
theorem ref_store_true (k : Nat) (x y z : Int) : cofferdamref12_Store.j0 (k + 1) x y z true = some (0, 0) := by rw [cofferdamref12_Store.j0, if_pos rfl]
theorem ref_store (k : Nat) (hk : 19999 ≤ k) (n o c : Int) : cofferdamref12_Store.f (k + 1) n o c = area_Store.f (k + 1) n o c := by
  by_cases h : stBad n o c
  · rw [store_bad k n o c h]
    unfold stBad at h
    unfold cofferdamref12_Store.f
    by_cases h1 : n < 1
    · rw [if_pos h1, ref_store_true]
    rw [if_neg h1]
    by_cases h2 : n > 8192
    · rw [if_pos h2, ref_store_true]
    rw [if_neg h2]
    by_cases h3 : o < 1
    · rw [if_pos h3, ref_store_true]
    rw [if_neg h3]
    by_cases h4 : o > 8192
    · rw [if_pos h4, ref_store_true]
    rw [if_neg h4]
    by_cases h5 : c < 1
    · rw [if_pos h5, ref_store_true]
    rw [if_neg h5, decide_eq_true (by omega), ref_store_true]
  · have h' := h
    unfold stBad at h'
    obtain ⟨n, rfl⟩ : ∃ m : Nat, n = m := ⟨n.toNat, by omega⟩
    obtain ⟨o, rfl⟩ : ∃ m : Nat, o = m := ⟨o.toNat, by omega⟩
    obtain ⟨c, rfl⟩ : ∃ m : Nat, c = m := ⟨c.toNat, by omega⟩
    rw [store_good k n o c h]
    have h1 : ¬ (n : Int) < 1 := by omega
    have h2 : ¬ (n : Int) > 8192 := by omega
    have h3 : ¬ (o : Int) < 1 := by omega
    have h4 : ¬ (o : Int) > 8192 := by omega
    have h5 : ¬ (c : Int) < 1 := by omega
    have h6 : ¬ (c : Int) > 16 := by omega
    have hc0 : ¬ (c : Int) = 0 := by omega
    have hC := stC_le o c (by omega) (by omega) (by omega)
    have hS : stS n o c ≤ stC o c := Nat.min_le_left _ _
    have e3 : Int.tdiv ((o + c - 1 : Nat) : Int) (c : Int) = ((stC o c : Nat) : Int) := rfl
    have e6 : Int.tdiv ((stC o c + 15 : Nat) : Int) 16 = ((stT o c : Nat) : Int) := rfl
    have hT : stT o c ≤ 600 := by unfold stT; omega
    unfold cofferdamref12_Store.f
    rw [if_neg h1, if_neg h2, if_neg h3, if_neg h4, if_neg h5, decide_eq_false h6, cofferdamref12_Store.j0, if_neg (by decide), if_neg hc0, sw1 o c (by omega), sw2 (o + c) (by omega) (by omega), e3, sw3 (stC o c) (by omega), sw4 (stC o c) (by omega), e6, sw3 (stT o c) (by omega)]
    exact ref_store_l0 n o c (by omega) (by omega) (by omega) (by omega) (stS n o c) 0 k (by omega) (by omega) (by omega)
end Go.Proofs.Ytligdimpdcloeaa.Pure
