import Derived.Test.YtneglmnffdmbiaaOptInv
import Derived.Test.YtneglmnffdmbiaaOptPh3
import Derived.Test.YtneglmnffdmbiaaPcofferdamref16fused
import Derived.Test.YtneglmnffdmbiaaPcofferdamref16below
import Derived.RangeFuncBox
namespace Go.Proofs.Ytneglmnffdmbiaa.P
open Go.RowKit Go.Proofs.YtneglmnffdmbiaaW.PrintWords Go.Proofs.YtneglmnffdmbiaaW.PrintLast Go.Proofs.YtneglmnffdmbiaaW.PrintMore
set_option linter.unusedVariables false
set_option linter.unusedSimpArgs false

/-! ref16.fused and ref16.below, in plain -/
theorem drop_T36 (l : List S36) (i : Nat) (hi : i < l.length) : l.drop i = rd_T36 l (i : Int) :: l.drop (i + 1) := by
  rw [List.drop_eq_getElem_cons hi]
  simp [rd_T36, List.getD, hi]
theorem fuse1_ref (x y : S36) : fuse1 x y = if mx x.f3 y.f0 < mn (x.f3 + x.f1) (y.f0 + y.f1) then [⟨x.f0 + mx x.f3 y.f0 - x.f3, mn (x.f3 + x.f1) (y.f0 + y.f1) - mx x.f3 y.f0, y.f2, y.f3 + mx x.f3 y.f0 - y.f0⟩] else [] := by
  have hs := skip_spec x y
  have hm := num_spec x y
  have h1 : mx x.f3 y.f0 = y.f0 + skipL x y := by unfold mx; split <;> omega
  have h2 : mn (x.f3 + x.f1) (y.f0 + y.f1) - mx x.f3 y.f0 = numL x y := by unfold mn; split <;> omega
  unfold fuse1
  by_cases hn : numL x y > 0
  · rw [if_pos hn, if_pos (by omega), h2, h1]
    rw [show x.f0 + y.f0 + skipL x y - x.f3 = x.f0 + (y.f0 + skipL x y) - x.f3 by omega, show y.f3 + (y.f0 + skipL x y) - y.f0 = y.f3 + skipL x y by omega]
  · rw [if_neg hn, if_neg (by omega)]
theorem fused_l1 (M : List S34) (es : List S36) (i : Int) (x : S36) (hx : exOk x) (q0 q1 q2 : Int) (ys : List S36) (q4 : List Int) (q5 q6 q7 : Int) (q8 q9 : List Int) (hy : ∀ j : Nat, j < ys.length → exOk (rd_T36 ys (j : Int))) (hl : ys.length ≤ 100000) : ∀ (m j K : Nat) (acc : List S36), j ≤ ys.length → ys.length - j ≤ m → acc.length + (fuseK x (ys.drop j)).length ≤ 10000000 →
    cofferdamref16_fused.l1 (K + (ys.length - j) + 1) M es acc i (j : Int) x.f0 x.f1 x.f2 x.f3 q0 q1 q2 ys q4 q5 q6 q7 q8 q9 = cofferdamref16_fused.l0 K M es (acc ++ fuseK x (ys.drop j)) (wrap64 (i + 1))
  | m, j, K, acc, h0, h1, hb => by
    rw [cofferdamref16_fused.l1]
    by_cases hc : (j : Int) < (ys.length : Int)
    · have hj : j < ys.length := by omega
      obtain ⟨y0, y1, y2, y3, y4, y5, y6⟩ := hy j hj
      obtain ⟨x0, x1, x2, x3, x4, x5, x6⟩ := id hx
      have hd := drop_T36 ys j hj
      rw [hd, fuseK_cons, fuse1_ref] at hb ⊢
      rw [if_pos hc, if_pos (Int.natCast_nonneg j)]
      generalize rd_T36 ys (j : Int) = y at *
      have e0 : wrap64 ((j : Int) + 1) = ((j + 1 : Nat) : Int) := by clear hb hd hy; unfold wrap64; omega
      have e1 : wrap64 (x.f3 + x.f1) = x.f3 + x.f1 := by clear hb hd hy e0; unfold wrap64; omega
      have e2 : wrap64 (y.f0 + y.f1) = y.f0 + y.f1 := by clear hb hd hy e0 e1; unfold wrap64; omega
      have hmx : 0 ≤ mx x.f3 y.f0 ∧ mx x.f3 y.f0 ≤ 8192 := by clear hb hd hy e0 e1 e2; unfold mx; split <;> omega
      have hmn : 0 ≤ mn (x.f3 + x.f1) (y.f0 + y.f1) ∧ mn (x.f3 + x.f1) (y.f0 + y.f1) ≤ 20000 := by clear hb hd hy e0 e1 e2; unfold mn; split <;> omega
      have hf : ys.length - j = (ys.length - (j + 1)) + 1 := by clear hb hd hy e0 e1 e2; omega
      rw [e1, e2, e0]
      by_cases hn : mx x.f3 y.f0 < mn (x.f3 + x.f1) (y.f0 + y.f1)
      · rw [if_pos hn] at hb ⊢
        rw [if_pos hn]
        generalize mx x.f3 y.f0 = a at *
        generalize mn (x.f3 + x.f1) (y.f0 + y.f1) = b at *
        have e3 : wrap64 (x.f0 + a) = x.f0 + a := by clear hb hd hy e0 e1 e2; unfold wrap64; omega
        have e4 : wrap64 (x.f0 + a - x.f3) = x.f0 + a - x.f3 := by clear hb hd hy e0 e1 e2 e3; unfold wrap64; omega
        have e5 : wrap64 (b - a) = b - a := by clear hb hd hy e0 e1 e2 e3 e4; unfold wrap64; omega
        have e6 : wrap64 (y.f3 + a) = y.f3 + a := by clear hb hd hy e0 e1 e2 e3 e4 e5; unfold wrap64; omega
        have e7 : wrap64 (y.f3 + a - y.f0) = y.f3 + a - y.f0 := by clear hb hd hy e0 e1 e2 e3 e4 e5 e6; unfold wrap64; omega
        rw [List.length_append, List.length_singleton] at hb
        have hal : acc.length < 4398046511104 := by clear hd hy e0 e1 e2 e3 e4 e5 e6 e7; omega
        rw [e3, e4, e5, e6, e7, if_pos hal, hf]
        have ih := fused_l1 M es i x hx q0 q1 q2 ys q4 q5 q6 q7 q8 q9 hy hl (m - 1) (j + 1) K (acc ++ [⟨x.f0 + a - x.f3, b - a, y.f2, y.f3 + a - y.f0⟩]) (by clear hb hd hy e0 e1 e2 e3 e4 e5 e6 e7; omega) (by clear hb hd hy e0 e1 e2 e3 e4 e5 e6 e7; omega) (by rw [List.length_append, List.length_singleton]; clear hd hy e0 e1 e2 e3 e4 e5 e6 e7; omega)
        rw [List.append_assoc] at ih
        exact ih
      · rw [if_neg hn] at hb ⊢
        rw [if_neg hn, hf]
        have ih := fused_l1 M es i x hx q0 q1 q2 ys q4 q5 q6 q7 q8 q9 hy hl (m - 1) (j + 1) K acc (by clear hb hd hy e0 e1 e2; omega) (by clear hb hd hy e0 e1 e2; omega) hb
        exact ih
    · rw [if_neg hc, List.drop_eq_nil_of_le (by omega)]
      have hz : ys.length - j = 0 := by omega
      rw [hz]
      show cofferdamref16_fused.l0 K M es acc _ = cofferdamref16_fused.l0 K M es (acc ++ []) _
      rw [List.append_nil]
theorem fused_l0 (M : List S34) (es : List S36) (hx : ∀ j : Nat, j < es.length → exOk (rd_T36 es (j : Int)) ∧ 0 ≤ (rd_T36 es (j : Int)).f2 ∧ (rd_T36 es (j : Int)).f2 < (M.length : Int)) (hM : ∀ p : Int, ∀ j : Nat, j < (rd_T34 M p).f3.length → exOk (rd_T36 (rd_T34 M p).f3 (j : Int))) (hl3 : ∀ p : Int, (rd_T34 M p).f3.length ≤ 100000) (hes : es.length ≤ 100000) : ∀ (m i : Nat) (acc : List S36), i ≤ es.length → es.length - i ≤ m → acc.length + ((es.drop i).flatMap (fuseL M)).length ≤ 10000000 →
    ∃ k, cofferdamref16_fused.l0 k M es acc (i : Int) = some (acc ++ (es.drop i).flatMap (fuseL M))
  | m, i, acc, h0, h1, hb => by
    by_cases hc : (i : Int) < (es.length : Int)
    · have hi : i < es.length := by omega
      obtain ⟨hxo, k0, k1⟩ := hx i hi
      have hd := drop_T36 es i hi
      rw [hd, List.flatMap_cons] at hb ⊢
      have hIH := fun (acc : List S36) (hb : acc.length + ((es.drop (i + 1)).flatMap (fuseL M)).length ≤ 10000000) => fused_l0 M es hx hM hl3 hes (m - 1) (i + 1) acc hi (by clear hb hd; omega) hb
      have e0 : wrap64 ((i : Int) + 1) = ((i + 1 : Nat) : Int) := by clear hIH hb hd; unfold wrap64; omega
      generalize hxx : rd_T36 es (i : Int) = x at *
      rw [List.length_append] at hb
      by_cases hf : (rd_T34 M x.f2).f0 = 3
      · have hfu : fuseL M x = fuseK x (rd_T34 M x.f2).f3 := by unfold fuseL; rw [if_pos hf]
        rw [hfu] at hb ⊢
        obtain ⟨k, hk⟩ := hIH (acc ++ fuseK x (rd_T34 M x.f2).f3) (by rw [List.length_append]; omega)
        have hl1 := fused_l1 M es (i : Int) x hxo (rd_T34 M x.f2).f0 (rd_T34 M x.f2).f1 (rd_T34 M x.f2).f2 (rd_T34 M x.f2).f3 (rd_T34 M x.f2).f4 (rd_T34 M x.f2).f5 (rd_T34 M x.f2).f6 (rd_T34 M x.f2).f7 (rd_T34 M x.f2).f8 (rd_T34 M x.f2).f9 (hM x.f2) (hl3 x.f2) (rd_T34 M x.f2).f3.length 0 k acc (Nat.zero_le _) (by omega) (by rw [List.drop_zero]; omega)
        refine ⟨k + ((rd_T34 M x.f2).f3.length - 0) + 1 + 1, ?_⟩
        rw [cofferdamref16_fused.l0, if_pos hc, if_pos (Int.natCast_nonneg i), hxx, if_pos k0, if_pos k1, if_pos hf]
        rw [List.drop_zero, e0, hk, List.append_assoc] at hl1
        exact hl1
      · have hfu : fuseL M x = [x] := by unfold fuseL; rw [if_neg hf]
        rw [hfu] at hb ⊢
        rw [List.length_singleton] at hb
        obtain ⟨k, hk⟩ := hIH (acc ++ [x]) (by rw [List.length_append, List.length_singleton]; omega)
        refine ⟨k + 1, ?_⟩
        have hal : acc.length < 4398046511104 := by clear hIH hk hd; omega
        rw [cofferdamref16_fused.l0, if_pos hc, if_pos (Int.natCast_nonneg i), hxx, if_pos k0, if_pos k1, if_neg hf, if_pos hal, e0]
        rw [List.append_assoc] at hk
        exact hk
    · refine ⟨1, ?_⟩
      rw [cofferdamref16_fused.l0, if_neg hc, List.drop_eq_nil_of_le (by omega)]
      simp
theorem fused_some (M : List S34) (es : List S36) (hx : ∀ j : Nat, j < es.length → exOk (rd_T36 es (j : Int)) ∧ 0 ≤ (rd_T36 es (j : Int)).f2 ∧ (rd_T36 es (j : Int)).f2 < (M.length : Int)) (hM : ∀ p : Int, ∀ j : Nat, j < (rd_T34 M p).f3.length → exOk (rd_T36 (rd_T34 M p).f3 (j : Int))) (hl3 : ∀ p : Int, (rd_T34 M p).f3.length ≤ 100000) (hes : es.length ≤ 100000) (hb : (es.flatMap (fuseL M)).length ≤ 10000000) :
    ∃ k, cofferdamref16_fused.f k M es = some (es.flatMap (fuseL M)) := by
  obtain ⟨k, hk⟩ := fused_l0 M es hx hM hl3 hes es.length 0 [] (Nat.zero_le _) (by omega) (by rw [List.drop_zero]; simpa using hb)
  refine ⟨k, ?_⟩
  unfold cofferdamref16_fused.f
  rw [List.drop_zero, List.nil_append] at hk
  exact hk
theorem addE_flat (M : List S34) (P : List Int) (es : List S36) : addE M P es = ((es.map (kidE P)).flatMap (fuseL M)).foldl joinStep [] := by
  have key : ∀ (es l : List S36), es.foldl (fun l x => (fuseL M (kidE P x)).foldl joinStep l) l = ((es.map (kidE P)).flatMap (fuseL M)).foldl joinStep l := by
    intro es
    induction es with
    | nil => intro l; rfl
    | cons e es ih =>
      intro l
      rw [List.foldl_cons, List.map_cons, List.flatMap_cons, List.foldl_append]
      exact ih _
  exact key es []
/-! below -/
theorem Rch.snoc' {L : List S34} {i k c : Int} (h : Rch L i k) (hc : Chd L k c) : Rch L i c := by
  induction h with
  | refl i => exact .step hc (.refl _)
  | step h1 _ ih => exact .step h1 (ih hc)
theorem rdOf_set2 {bs : List Bool} {i c : Int} (h0 : 0 ≤ i) (h1 : i < (bs.length : Int)) (hc : 0 ≤ c) : rdOf false (bs.set i.toNat true) c = if c = i then true else rdOf false bs c := by
  unfold rdOf
  rw [List.getD_eq_getElem?_getD, List.getElem?_set]
  by_cases h : c = i
  · subst h
    rw [if_pos rfl, if_pos (by omega), if_pos rfl]
    rfl
  · rw [if_neg (by omega), if_neg h, List.getD_eq_getElem?_getD]
section
variable {M : List S34} {root : Int}
/-- Marked so far: all that is marked lies below the root; of the steps behind x all children of marked ones are marked. -/
structure BInv (M : List S34) (root : Int) (bs : List Bool) (x : Int) : Prop where
  l : bs.length = M.length
  s : ∀ j : Int, 0 ≤ j → rdOf false bs j = true → Rch M root j
  r : rdOf false bs root = true
  c : ∀ j c : Int, x < j → j < (M.length : Int) → rdOf false bs j = true → Chd M j c → rdOf false bs c = true
/-- .. while the children of x are marked. -/
structure BExt (M : List S34) (bs bs' : List Bool) (x : Int) (k4 k3 : Nat) : Prop where
  l : bs'.length = bs.length
  m : ∀ j : Int, 0 ≤ j → rdOf false bs j = true → rdOf false bs' j = true
  u : ∀ j : Int, x ≤ j → rdOf false bs' j = rdOf false bs j
  n : ∀ j : Int, 0 ≤ j → rdOf false bs' j = true → rdOf false bs j = true ∨ Chd M x j
  d4 : ∀ q : Nat, q < k4 → rdOf false bs' (rd (rd_T34 M x).f4 (q : Int)) = true
  d3 : ∀ q : Nat, q < k3 → rdOf false bs' (rd_T36 (rd_T34 M x).f3 (q : Int)).f2 = true
theorem BExt.mark {bs bs' : List Bool} {x c : Int} {k4 k3 k4' k3' : Nat} (h : BExt M bs bs' x k4 k3) (hx0 : 0 ≤ x) (hc : Chd M x c) (c0 : 0 ≤ c) (c1 : c < x) (hl : x < (bs.length : Int)) (h4 : ∀ q : Nat, q < k4' → q < k4 ∨ rd (rd_T34 M x).f4 (q : Int) = c) (h3 : ∀ q : Nat, q < k3' → q < k3 ∨ (rd_T36 (rd_T34 M x).f3 (q : Int)).f2 = c) (n4 : ∀ q : Nat, q < k4 → 0 ≤ rd (rd_T34 M x).f4 (q : Int)) (n3 : ∀ q : Nat, q < k3 → 0 ≤ (rd_T36 (rd_T34 M x).f3 (q : Int)).f2) : BExt M bs (bs'.set c.toNat true) x k4' k3' := by
  have hl' := h.l
  have hs := fun (j : Int) (hj : 0 ≤ j) => rdOf_set2 (bs := bs') (i := c) (c := j) c0 (by omega) hj
  have hm : ∀ j : Int, 0 ≤ j → rdOf false bs' j = true → rdOf false (bs'.set c.toNat true) j = true := by
    intro j hj hv
    rw [hs j hj]
    split
    · rfl
    · exact hv
  have hcc : rdOf false (bs'.set c.toNat true) c = true := by rw [hs c c0, if_pos rfl]
  refine ⟨by rw [List.length_set, hl'], fun j hj hv => hm j hj (h.m j hj hv), fun j hj => ?_, fun j hj hv => ?_, fun q hq => ?_, fun q hq => ?_⟩
  · rw [hs j (by omega), if_neg (by omega)]
    exact h.u j hj
  · rw [hs j hj] at hv
    by_cases hjc : j = c
    · subst hjc; exact .inr hc
    · rw [if_neg hjc] at hv
      exact h.n j hj hv
  · rcases h4 q hq with h' | h'
    · exact hm _ (n4 q h') (h.d4 q h')
    · rw [h']; exact hcc
  · rcases h3 q hq with h' | h'
    · exact hm _ (n3 q h') (h.d3 q h')
    · rw [h']; exact hcc
theorem below_l2 (G : List Bool → Prop) (hD : Down M) (hl3 : ∀ p : Int, (rd_T34 M p).f3.length ≤ 100000) {bs : List Bool} (hbl : bs.length = M.length) {x : Int} (hx0 : 0 ≤ x) (hx1 : x < (M.length : Int)) (cont : ∀ bs', BExt M bs bs' x (rd_T34 M x).f4.length (rd_T34 M x).f3.length → ∃ K r, cofferdamref16_below.l0 K M bs' (wrap64 (x - 1)) = some r ∧ G r) : ∀ (m k : Nat) (bs2 : List Bool), k ≤ (rd_T34 M x).f3.length → (rd_T34 M x).f3.length - k ≤ m → BExt M bs bs2 x (rd_T34 M x).f4.length k → ∃ K r, cofferdamref16_below.l2 K M bs2 x (k : Int) = some r ∧ G r
  | m, k, bs2, h0, h1, hE => by
    have hn3 := hl3 x
    have kid3 : ∀ q : Nat, q < (rd_T34 M x).f3.length → 0 ≤ (rd_T36 (rd_T34 M x).f3 (q : Int)).f2 ∧ (rd_T36 (rd_T34 M x).f3 (q : Int)).f2 < x := fun q hq => hD x hx0 hx1 _ (.inr ⟨q, hq, rfl⟩)
    have kid4 : ∀ q : Nat, q < (rd_T34 M x).f4.length → 0 ≤ rd (rd_T34 M x).f4 (q : Int) := fun q hq => (hD x hx0 hx1 _ (.inl ⟨q, hq, rfl⟩)).1
    by_cases hc : (k : Int) < ((rd_T34 M x).f3.length : Int)
    · have hk : k < (rd_T34 M x).f3.length := by omega
      have hkk := kid3 k hk
      have hmk := hE.mark (k4' := (rd_T34 M x).f4.length) (k3' := k + 1) hx0 (.inr ⟨k, hk, rfl⟩) hkk.1 hkk.2 (by rw [hbl]; exact hx1) (fun q hq => .inl hq) (fun q hq => by
        by_cases hqk : q = k
        · subst hqk; exact .inr rfl
        · exact .inl (by omega)) kid4 (fun q hq => (kid3 q (by omega)).1)
      obtain ⟨K, r, hr, hG⟩ := below_l2 G hD hl3 hbl hx0 hx1 cont (m - 1) (k + 1) _ hk (by omega) hmk
      have e0 : wrap64 ((k : Int) + 1) = ((k + 1 : Nat) : Int) := by clear hr hmk kid3 kid4; unfold wrap64; omega
      have hlt2 : (rd_T36 (rd_T34 M x).f3 (k : Int)).f2 < (bs2.length : Int) := by have := hE.l; omega
      refine ⟨K + 1, r, ?_, hG⟩
      rw [cofferdamref16_below.l2, if_pos hx0, if_pos hx1, if_pos hc, if_pos (Int.natCast_nonneg k), if_pos hkk.1, if_pos hlt2, e0]
      exact hr
    · obtain rfl : k = (rd_T34 M x).f3.length := by omega
      obtain ⟨K, r, hr, hG⟩ := cont bs2 hE
      refine ⟨K + 1, r, ?_, hG⟩
      rw [cofferdamref16_below.l2, if_pos hx0, if_pos hx1, if_neg hc]
      exact hr
theorem below_l1 (G : List Bool → Prop) (hD : Down M) (hl3 : ∀ p : Int, (rd_T34 M p).f3.length ≤ 100000) (hl4 : ∀ p : Int, (rd_T34 M p).f4.length ≤ 100000) {bs : List Bool} (hbl : bs.length = M.length) {x : Int} (hx0 : 0 ≤ x) (hx1 : x < (M.length : Int)) (cont : ∀ bs', BExt M bs bs' x (rd_T34 M x).f4.length (rd_T34 M x).f3.length → ∃ K r, cofferdamref16_below.l0 K M bs' (wrap64 (x - 1)) = some r ∧ G r) : ∀ (m k : Nat) (bs2 : List Bool), k ≤ (rd_T34 M x).f4.length → (rd_T34 M x).f4.length - k ≤ m → BExt M bs bs2 x k 0 → ∃ K r, cofferdamref16_below.l1 K M bs2 x (k : Int) = some r ∧ G r
  | m, k, bs2, h0, h1, hE => by
    have hn4 := hl4 x
    have kid4 : ∀ q : Nat, q < (rd_T34 M x).f4.length → 0 ≤ rd (rd_T34 M x).f4 (q : Int) ∧ rd (rd_T34 M x).f4 (q : Int) < x := fun q hq => hD x hx0 hx1 _ (.inl ⟨q, hq, rfl⟩)
    by_cases hc : (k : Int) < ((rd_T34 M x).f4.length : Int)
    · have hk : k < (rd_T34 M x).f4.length := by omega
      have hkk := kid4 k hk
      have hmk := hE.mark (k4' := k + 1) (k3' := 0) hx0 (.inl ⟨k, hk, rfl⟩) hkk.1 hkk.2 (by rw [hbl]; exact hx1) (fun q hq => by
        by_cases hqk : q = k
        · subst hqk; exact .inr rfl
        · exact .inl (by omega)) (fun q hq => absurd hq (Nat.not_lt_zero _)) (fun q hq => (kid4 q (by omega)).1) (fun q hq => absurd hq (Nat.not_lt_zero _))
      obtain ⟨K, r, hr, hG⟩ := below_l1 G hD hl3 hl4 hbl hx0 hx1 cont (m - 1) (k + 1) _ hk (by omega) hmk
      have e0 : wrap64 ((k : Int) + 1) = ((k + 1 : Nat) : Int) := by clear hr hmk kid4; unfold wrap64; omega
      have hlt2 : rd (rd_T34 M x).f4 (k : Int) < (bs2.length : Int) := by have := hE.l; omega
      refine ⟨K + 1, r, ?_, hG⟩
      rw [cofferdamref16_below.l1, if_pos hx0, if_pos hx1, if_pos hc, if_pos (Int.natCast_nonneg k), if_pos hkk.1, if_pos hlt2, e0]
      exact hr
    · obtain rfl : k = (rd_T34 M x).f4.length := by omega
      obtain ⟨K, r, hr, hG⟩ := below_l2 G hD hl3 hbl hx0 hx1 cont (rd_T34 M x).f3.length 0 bs2 (Nat.zero_le _) (by omega) hE
      refine ⟨K + 1, r, ?_, hG⟩
      rw [cofferdamref16_below.l1, if_pos hx0, if_pos hx1, if_neg hc]
      exact hr
theorem below_l0 (hD : Down M) (hn : M.length ≤ 1000000) (hl3 : ∀ p : Int, (rd_T34 M p).f3.length ≤ 100000) (hl4 : ∀ p : Int, (rd_T34 M p).f4.length ≤ 100000) : ∀ (m : Nat) (x : Int) (bs : List Bool), -1 ≤ x → x < (M.length : Int) → (x + 1).toNat ≤ m → BInv M root bs x → ∃ K r, cofferdamref16_below.l0 K M bs x = some r ∧ BInv M root r (-1)
  | m, x, bs, h0, h1, h2, hB => by
    by_cases hx : x ≥ 0
    · have hx0 : 0 ≤ x := hx
      have e1 : wrap64 (x - 1) = x - 1 := by unfold wrap64; omega
      have hbl : x < (bs.length : Int) := by rw [hB.l]; exact h1
      cases hv : rdOf false bs x with
      | true =>
        have cont : ∀ bs', BExt M bs bs' x (rd_T34 M x).f4.length (rd_T34 M x).f3.length → ∃ K r, cofferdamref16_below.l0 K M bs' (wrap64 (x - 1)) = some r ∧ BInv M root r (-1) := by
          intro bs' hE
          rw [e1]
          refine below_l0 hD hn hl3 hl4 (m - 1) (x - 1) bs' (by omega) (by omega) (by omega) ⟨hE.l.trans hB.l, fun j hj hvj => ?_, ?_, fun j c hj hj1 hvj hc => ?_⟩
          · rcases hE.n j hj hvj with h | h
            · exact hB.s j hj h
            · exact (hB.s x hx0 hv).snoc' h
          · have hr := hB.r
            by_cases hr0 : 0 ≤ root
            · exact hE.m root hr0 hr
            · have e : rdOf false bs' root = rdOf false bs' (root.toNat : Int) := by unfold rdOf; rw [Int.toNat_natCast]
              have e2 : rdOf false bs root = rdOf false bs (root.toNat : Int) := by unfold rdOf; rw [Int.toNat_natCast]
              rw [e]
              rw [e2] at hr
              exact hE.m _ (by omega) hr
          · by_cases hjx : j = x
            · subst hjx
              rcases hc with ⟨q, hq, rfl⟩ | ⟨q, hq, rfl⟩
              · exact hE.d4 q hq
              · exact hE.d3 q hq
            · rw [hE.u j (by omega)] at hvj
              have hcd := hD j (by omega) hj1 c hc
              exact hE.m c hcd.1 (hB.c j c (by omega) hj1 hvj hc)
        obtain ⟨K, r, hr, hG⟩ := below_l1 _ hD hl3 hl4 hB.l hx0 h1 cont (rd_T34 M x).f4.length 0 bs (Nat.zero_le _) (by omega) ⟨rfl, fun _ _ h => h, fun _ _ => rfl, fun _ _ h => .inl h, fun q hq => absurd hq (Nat.not_lt_zero _), fun q hq => absurd hq (Nat.not_lt_zero _)⟩
        refine ⟨K + 1, r, ?_, hG⟩
        rw [cofferdamref16_below.l0, if_pos hx, if_pos hx0, if_pos hbl, if_pos hv]
        exact hr
      | false =>
        obtain ⟨K, r, hr, hG⟩ := below_l0 hD hn hl3 hl4 (m - 1) (x - 1) bs (by omega) (by omega) (by omega) ⟨hB.l, hB.s, hB.r, fun j c hj hj1 hvj hc => by
          by_cases hjx : j = x
          · subst hjx; rw [hv] at hvj; cases hvj
          · exact hB.c j c (by omega) hj1 hvj hc⟩
        refine ⟨K + 1, r, ?_, hG⟩
        rw [cofferdamref16_below.l0, if_pos hx, if_pos hx0, if_pos hbl, if_neg (by rw [hv]; decide), e1]
        exact hr
    · obtain rfl : x = -1 := by omega
      refine ⟨1, bs, ?_, hB⟩
      rw [cofferdamref16_below.l0, if_neg hx]
theorem below_some (hD : Down M) (hn : M.length ≤ 1000000) (hl3 : ∀ p : Int, (rd_T34 M p).f3.length ≤ 100000) (hl4 : ∀ p : Int, (rd_T34 M p).f4.length ≤ 100000) (r0 : 0 ≤ root) (r1 : root < (M.length : Int)) :
    ∃ k r, cofferdamref16_below.f k M root = some r ∧ r.length = M.length ∧ ∀ j : Int, 0 ≤ j → j < (M.length : Int) → rdOf false r j = liveV M root j := by
  have hrep : ∀ j : Int, rdOf false (List.replicate M.length false) j = false := by
    intro j
    unfold rdOf
    rw [List.getD_eq_getElem?_getD, List.getElem?_replicate]
    split <;> rfl
  have hs := fun (j : Int) (hj : 0 ≤ j) => rdOf_set2 (bs := List.replicate M.length false) (i := root) (c := j) r0 (by rw [List.length_replicate]; exact r1) hj
  have hB0 : BInv M root ((List.replicate M.length false).set root.toNat true) root := by
    refine ⟨by rw [List.length_set, List.length_replicate], fun j hj hv => ?_, by rw [hs root r0, if_pos rfl], fun j c hj hj1 hv hc => ?_⟩
    · rw [hs j hj, hrep] at hv
      by_cases h : j = root
      · subst h; exact .refl _
      · rw [if_neg h] at hv; cases hv
    · rw [hs j (by omega), hrep, if_neg (by omega)] at hv
      cases hv
  obtain ⟨K, r, hr, hB⟩ := below_l0 hD hn hl3 hl4 (root + 1).toNat root ((List.replicate M.length false).set root.toNat true) (by omega) r1 (by omega) (root := root) hB0
  refine ⟨K, r, ?_, hB.l, fun j j0 j1 => ?_⟩
  · unfold cofferdamref16_below.f
    have e : ((M.length : Int)).toNat = M.length := Int.toNat_natCast _
    have h281 : M.length ≤ 281474976710656 := by omega
    rw [if_pos (Int.natCast_nonneg _), e, if_pos h281, Option.bind_some, if_pos r0, List.length_replicate, if_pos r1]
    exact hr
  · have hcomp : ∀ a i : Int, Rch M a i → 0 ≤ a → a < (M.length : Int) → rdOf false r a = true → rdOf false r i = true := by
      intro a i h
      induction h with
      | refl i => intro _ _ h; exact h
      | step hc _ ih =>
        intro a0 a1 av
        have h2 := hD _ a0 a1 _ hc
        exact ih h2.1 (by omega) (hB.c _ _ (by omega) a1 av hc)
    have h2 : rdOf false r j = true ↔ liveV M root j = true := by
      rw [liveV_iff]
      exact ⟨fun h => hB.s j j0 h, fun h => hcomp root j h r0 r1 hB.r⟩
    cases ha : rdOf false r j <;> cases hb : liveV M root j <;> simp_all
end

set_option maxHeartbeats 32000000 in
set_option maxRecDepth 100000 in
theorem joined_calls (A : Option Addr) (c : Nat) (l : List S36) (w : World) (hC : Kd.C k36 w A l.length l) (hc : l.length ≤ c) (hl : l.length ≤ 10000000) (hok : ∀ e ∈ l, okJ e) :
    Calls Try.prog 16 #[.slice A l.length c] w fun e w' => ∃ v, e = .returned v ∧ Kd.R k36 36 w' w.heap.size (fun _ => True) v (l.foldl joinStep []) ∧ Below w.heap.size w w' := by
  have HC := Aside0.mk hC
  have HOK := Aside0.mk hok
  clear hC hok
  go_enter Try.func16, Try.ntmps16
  go_wp2
  go_loopg [3, 4] (l.length + 1) (fun kx v3 v4 wr => ∃ (i : Nat) (lx : List S36), i ≤ l.length ∧ l.length - i + 1 ≤ kx ∧ v4 = .int .i64 i ∧ Aside0 (Kd.R k36 36 wr w.heap.size (fun _ => True) v3 ((l.take i).foldl joinStep [])) ∧ Aside0 (Below w.heap.size w wr))
  case atStart => exact ⟨0, [], Nat.zero_le _, by omega, rfl, ⟨Kd.R_nil _ _ _ _ _⟩, ⟨Below.refl _ _⟩⟩
  case round =>
    obtain ⟨i, _, hi, hg, rfl, RQ, BQ⟩ := hrel
    by_cases hlt : i < l.length
    · have hd : decide ((i : Int) < (l.length : Int)) = true := decide_eq_true (by omega)
      have q3 : (0 : Int) ≤ (i : Int) := by omega
      obtain ⟨adf, rfl, y0, y1, y2, y3⟩ := at_T36 (Kd.C_below HC.out BQ.out) (i : Int) q3 (by omega)
      rw [Int.toNat_natCast] at y0 y1 y2 y3
      have hyo := HOK.out (rd_T36 l (i : Int)) (rd_mem l i hlt)
      have hsq := foldl_snoc joinStep l [] i hlt
      have hlo := join_okJ (l.take i) [] (fun e he => by cases he) (fun e he => HOK.out e (List.mem_of_mem_take he))
      have hln := join_len (l.take i) []
      rw [List.length_take] at hln
      generalize rd_T36 l (i : Int) = y at *
      generalize (l.take i).foldl joinStep [] = lq at *
      obtain ⟨Aq, cq, eq_, _⟩ := Kd.R_reads RQ.out
      subst eq_
      have HSQ := Aside0.mk hsq
      have HLN := Aside0.mk (show lq.length ≤ 10000000 by rw [List.length_nil] at hln; omega)
      have hform := (own36 RQ.out).form
      have hlast : 0 < lq.length → okJ (lastE lq) := fun h => hlo _ (rd_mem lq (lq.length - 1) (by omega))
      have hcast : 0 < lq.length → lastE lq = rd_T36 lq ((lq.length : Int) - 1) := fun h => by
        unfold lastE
        congr 1
        omega
      have hjs : joinStep lq y = if 0 < lq.length then (if (lastE lq).f2 = y.f2 then (if (lastE lq).f3 + (lastE lq).f1 = y.f3 then lq.set (lq.length - 1) { lastE lq with f1 := (lastE lq).f1 + y.f1 } else lq ++ [y]) else lq ++ [y]) else lq ++ [y] := rfl
      clear hsq hlo hln
      by_cases h0 : 0 < lq.length
      · have dn : decide ((lq.length : Int) > 0) = true := decide_eq_true (by omega)
        have dn2 : decide ((0 : Int) < (lq.length : Int)) = true := decide_eq_true (by omega)
        have dn3 : decide (0 < lq.length) = true := decide_eq_true h0
        have hnb : lq.length ≤ 10000000 := HLN.out
        obtain ⟨ji, hji⟩ : ∃ ji : Int, (lq.length : Int) - 1 = ji := ⟨_, rfl⟩
        have pj0 : 0 ≤ ji := by omega
        have qj0 : ji < (lq.length : Int) := by omega
        have HJN := Aside0.mk (show ji.toNat = lq.length - 1 by omega)
        have hjw : IntKind.i64.wrap ((lq.length : Int) - 1) = ji := by
          rw [i64_w, hji]
          unfold wrap64
          omega
        obtain ⟨g, cap, hf_, _, _⟩ := hform h0
        injection hf_ with hAq _ hcq
        have hok1 := hlast h0
        have hla := hcast h0
        rw [hji] at hla
        obtain ⟨ad_, ea_, m0, m1, m2, m3⟩ := at_T36 (Kd.R_reads' RQ.out).2.2 ji pj0 qj0
        subst ea_
        have hadg : ad_ = ⟨g, 0, none⟩ := Option.some.inj hAq
        subst hadg
        clear hAq hcq
        rw [← hla] at m0 m1 m2 m3
        simp only [add_plain] at m0 m1 m2 m3
        have hjw2 : IntKind.i64.wrap ji = ji := by rw [← hji] at hjw ⊢; exact hjw
        have pj := eq_true pj0
        have qj := eq_true qj0
        have HJI := Aside0.mk hji
        clear pj0 qj0 hji hjw
        have hjw3 : IntKind.i64.wrap ((lq.length : Int) - 1) = ji := by rw [HJI.out]; exact hjw2
        rw [if_pos h0] at hjs
        clear hlast hcast hla hform
        have hec : ∀ c, (ec lq).set ((lq.length - 1) * 4 + 1) (.int .i64 c) = ec (lq.set (lq.length - 1) { lastE lq with f1 := c }) := fun c => ec_set1 lq _ (by omega) c
        generalize lastE lq = la at *
        by_cases h2 : la.f2 = y.f2
        · have e2 : (la.f2 == y.f2) = true := by rw [h2]; exact beq_self_eq_true _
          rw [if_pos h2] at hjs
          clear h2
          obtain ⟨j1, j2, j3⟩ := hok1
          have ws : IntKind.i64.wrap (la.f3 + la.f1) = la.f3 + la.f1 := by rw [i64_w]; unfold wrap64; omega
          by_cases h3 : la.f3 + la.f1 = y.f3
          · have e3 : (la.f3 + la.f1 == y.f3) = true := by rw [h3]; exact beq_self_eq_true _
            rw [if_pos h3] at hjs
            have HJS := Aside0.mk hjs
            clear hjs
            obtain ⟨j4, j5, j6⟩ := hyo
            have ws2 : IntKind.i64.wrap (la.f1 + y.f1) = la.f1 + y.f1 := by rw [i64_w]; unfold wrap64; omega
            have hst := ((own36 RQ.out).stored (ji.toNat * 4 + 1) (.int .i64 (la.f1 + y.f1)))
            rw [HJN.out, hec, ← HJN.out] at hst
            have HST := Aside0.mk hst
            have hfz : wr.frozen? ⟨g, ji.toNat * 4 + 1, none⟩ = false := by
              obtain ⟨cs_, hh_⟩ := own_typed (own36 RQ.out) g rfl
              exact blk_frozen hh_ _
            have HGB := Aside0.mk (own_base (own36 RQ.out) g rfl)
            clear hst h3 hec
            go_wp2
            repeat (go_quiet (fail); try go_wp2)
            go_region
            go_wp2
            go_roundg (l.length - (i + 1) + 1)
            case rel => exact ⟨i + 1, [], by omega, by omega, by go_num, ⟨by rw [HSQ.out, HJS.out]; exact R36 (by rw [List.length_set, ← HJN.out]; exact HST.out.1) (fun k hk => trivial)⟩, ⟨show Below w.heap.size w (World.setCell _ ⟨g, ji.toNat * 4 + 1, none⟩ _) from Below.setCell (pw_below_drewN BQ.out _) (show w.heap.size ≤ g from HGB.out) _⟩⟩
            case measure => omega
          · have e3 : (la.f3 + la.f1 == y.f3) = false := beq_eq_false_iff_ne.2 h3
            rw [if_neg h3] at hjs
            clear h3 hec
            have HJS := Aside0.mk hjs
            clear hjs
            go_wp2
            go_quiet (fail)
            go_wp2_with ((with_reducible refine gate_builtin (b := .append) (xs := #[.tmp 68, .tmp 73]) rfl ?_); (try (refine gate_guard (by rfl) ?_; dsimp only)); at_builtin; refine Kd.R_append k36 (w0 := w) w.heap.size rfl (.tmp 68) (.tmp 73) 31 36 (.agg #[(.int .i64 0), (.int .i64 0), (.int .i64 0), (.int .i64 0)]) 32 rfl Try.underlying31 info36 rfl (by decide) (by omega) (.slice (some ⟨g, 0, none⟩) lq.length cq) lq y [.int .i64 y.f0, .int .i64 y.f1, .int .i64 y.f2, .int .i64 y.f3] (fun _ => True) (fun _ => False) rfl ?aX ?aP (fun _ hk => hk.elim) (fun _ _ => trivial) ?aO ?aB ?aS ?aL ?_; (case aX => first | rfl | (simp [World.size_alloc, Act.eval]; done)); (case aP => exact k36_mkM _ _ _ _); (case aB => first | exact BQ.out | exact pw_below_drewN BQ.out _); (case aO => first | exact RQ.out | exact Kd.R_drewN RQ.out _); (case aS => exact BQ.out.size); (case aL => have := HLN.out; omega); intro v1 w1 ho1 hb1 hg1 hat1; have HO1 := Aside0.mk ho1; have HB1 := Aside0.mk hb1; clear ho1 hb1 hg1 hat1)
            repeat (go_quiet (fail); try go_wp2)
            go_roundg (l.length - (i + 1) + 1)
            case rel => exact ⟨i + 1, [], by omega, by omega, by go_num, ⟨by rw [HSQ.out, HJS.out]; exact HO1.out⟩, HB1⟩
            case measure => omega
        · have e2 : (la.f2 == y.f2) = false := beq_eq_false_iff_ne.2 h2
          rw [if_neg h2] at hjs
          clear h2 hec
          have HJS := Aside0.mk hjs
          clear hjs
          go_wp2
          go_quiet (fail)
          go_wp2_with ((with_reducible refine gate_builtin (b := .append) (xs := #[.tmp 68, .tmp 73]) rfl ?_); (try (refine gate_guard (by rfl) ?_; dsimp only)); at_builtin; refine Kd.R_append k36 (w0 := w) w.heap.size rfl (.tmp 68) (.tmp 73) 31 36 (.agg #[(.int .i64 0), (.int .i64 0), (.int .i64 0), (.int .i64 0)]) 32 rfl Try.underlying31 info36 rfl (by decide) (by omega) (.slice (some ⟨g, 0, none⟩) lq.length cq) lq y [.int .i64 y.f0, .int .i64 y.f1, .int .i64 y.f2, .int .i64 y.f3] (fun _ => True) (fun _ => False) rfl ?aX ?aP (fun _ hk => hk.elim) (fun _ _ => trivial) ?aO ?aB ?aS ?aL ?_; (case aX => first | rfl | (simp [World.size_alloc, Act.eval]; done)); (case aP => exact k36_mkM _ _ _ _); (case aB => first | exact BQ.out | exact pw_below_drewN BQ.out _); (case aO => first | exact RQ.out | exact Kd.R_drewN RQ.out _); (case aS => exact BQ.out.size); (case aL => have := HLN.out; omega); intro v1 w1 ho1 hb1 hg1 hat1; have HO1 := Aside0.mk ho1; have HB1 := Aside0.mk hb1; clear ho1 hb1 hg1 hat1)
          repeat (go_quiet (fail); try go_wp2)
          go_roundg (l.length - (i + 1) + 1)
          case rel => exact ⟨i + 1, [], by omega, by omega, by go_num, ⟨by rw [HSQ.out, HJS.out]; exact HO1.out⟩, HB1⟩
          case measure => omega
      · have hz0 : lq.length = 0 := by omega
        have dn : decide ((lq.length : Int) > 0) = false := decide_eq_false (by omega)
        have dn2 : decide ((0 : Int) < (lq.length : Int)) = false := decide_eq_false (by omega)
        have dn3 : decide (0 < lq.length) = false := decide_eq_false h0
        rw [if_neg h0] at hjs
        clear hlast hcast hform h0 hz0
        have HJS := Aside0.mk hjs
        clear hjs
        go_wp2
        go_quiet (fail)
        go_wp2_with ((with_reducible refine gate_builtin (b := .append) (xs := #[.tmp 68, .tmp 73]) rfl ?_); (try (refine gate_guard (by rfl) ?_; dsimp only)); at_builtin; refine Kd.R_append k36 (w0 := w) w.heap.size rfl (.tmp 68) (.tmp 73) 31 36 (.agg #[(.int .i64 0), (.int .i64 0), (.int .i64 0), (.int .i64 0)]) 32 rfl Try.underlying31 info36 rfl (by decide) (by omega) (.slice Aq lq.length cq) lq y [.int .i64 y.f0, .int .i64 y.f1, .int .i64 y.f2, .int .i64 y.f3] (fun _ => True) (fun _ => False) rfl ?aX ?aP (fun _ hk => hk.elim) (fun _ _ => trivial) ?aO ?aB ?aS ?aL ?_; (case aX => first | rfl | (simp [World.size_alloc, Act.eval]; done)); (case aP => exact k36_mkM _ _ _ _); (case aB => first | exact BQ.out | exact pw_below_drewN BQ.out _); (case aO => first | exact RQ.out | exact Kd.R_drewN RQ.out _); (case aS => exact BQ.out.size); (case aL => have := HLN.out; omega); intro v1 w1 ho1 hb1 hg1 hat1; have HO1 := Aside0.mk ho1; have HB1 := Aside0.mk hb1; clear ho1 hb1 hg1 hat1)
        repeat (go_quiet (fail); try go_wp2)
        go_roundg (l.length - (i + 1) + 1)
        case rel => exact ⟨i + 1, [], by omega, by omega, by go_num, ⟨by rw [HSQ.out, HJS.out]; exact HO1.out⟩, HB1⟩
        case measure => omega
    · have hd : decide ((i : Int) < (l.length : Int)) = false := decide_eq_false (by omega)
      obtain rfl : i = l.length := by omega
      rw [List.take_length] at RQ
      obtain ⟨Aq, cq, eq_, _⟩ := Kd.R_reads RQ.out
      subst eq_
      go_wp2
      first | go_end0 | ((try simp only [Exit.inBlock, Exit.then]); refine bodyPost_ret (results_tmp rfl _ _ _) rfl ?_)
      exact ⟨_, rfl, RQ.out, BQ.out⟩

/-! ref16.Optimize: what it holds -/
structure R1 (w0 W : World) (ps : List (S34 × Lie)) (P : List Int) (sv pv : Value) : Prop where
  cs : OwnRow CellsOf 34 10 W w0.heap.size sv ps
  pl : W.ownsRow w0.heap.size 3 1 pv P.length (nums .i64 P)
  st : StepsW W w0.heap.size ps
  key : ∀ p ∈ ps, KeyAt w0 p.1 p.2
  nep : ∀ p ∈ ps, NeRow pv p.2.kv
  bel : Below w0.heap.size w0 W
section
variable {w0 Wb W W1 W2 : World} {ps : List (S34 × Lie)} {P : List Int} {sv pv sv1 pv1 : Value}
theorem R1.below (h : R1 w0 W ps P sv pv) (hb : Below W.heap.size W W1) : R1 w0 W1 ps P sv pv :=
  ⟨h.cs.below hb, pw_own_below h.pl hb, h.st.below hb, h.key, h.nep, h.bel.trans (hb.mono h.bel.size)⟩
/-- The places' row stands while a step is laid down. -/
theorem R1.pl1 (h : R1 w0 W ps P sv pv) (hg1 : W.grownBy W1 sv.ownBlock) : W1.ownsRow w0.heap.size 3 1 pv P.length (nums .i64 P) := by
  obtain ⟨_, o, _⟩ := id h.cs
  exact own_other h.pl hg1 (own_type_ne h.pl o (by decide))
theorem R1.snoc {t : S34} {r : Lie} {x : Int} (h : R1 w0 Wb ps P sv pv) (hb : Below Wb.heap.size Wb W)
    (hk : W.ownsRow Wb.heap.size 3 1 r.kv t.f4.length (nums .i64 t.f4)) (he : t.f0 = 3 → W.ownsRow Wb.heap.size 36 4 r.ev t.f3.length (ec t.f3)) (hn : t.f0 ≠ 3 → t.f3 = [] ∧ ∃ A c, r.ev = .slice A 0 c) (hkey : KeyAt w0 t r)
    (ho1 : OwnRow CellsOf 34 10 W1 w0.heap.size sv1 (ps ++ [(t, r)])) (hg1 : W.grownBy W1 sv.ownBlock)
    (ho2 : W2.ownsRow w0.heap.size 3 1 pv1 (P ++ [x]).length (nums .i64 (P ++ [x]))) (hb2 : Below w0.heap.size w0 W2) (hg2 : W1.grownBy W2 pv.ownBlock) (hat2 : pv1.ownBlock = pv.ownBlock ∨ ∃ b, pv1.ownBlock = some b ∧ W1.heap.size ≤ b) :
    R1 w0 W2 (ps ++ [(t, r)]) (P ++ [x]) sv1 pv1 := by
  have hle := h.bel.size
  have hW := h.below hb
  have pl1 := hW.pl1 hg1
  obtain ⟨i0, o0, _⟩ := id hW.cs
  obtain ⟨i1, o1, _⟩ := id ho1
  have hk1 := own_other hk hg1 (own_type_ne hk o0 (by decide))
  have hnk : NeRow pv r.kv := ne_symm (ne_below hk h.pl)
  have hk2 := own_other hk1 hg2 (ne_other hnk)
  have st1 : StepsW W1 w0.heap.size ps := hW.st.but sv.ownBlock (fun k hk hne => hg1.block k hk hne) (fun g e c q hc => by
    obtain ⟨c2, hc2⟩ := own_typed o0 _ e
    rw [hc] at hc2
    injection hc2 with hc2
    injection hc2 with _ hc2
    subst hc2
    decide)
  have st2 : StepsW W2 w0.heap.size ps := st1.move (fun p hp k ho _ hlt => hg2.block k hlt (fun e => by
    obtain ⟨j, hj⟩ := List.mem_iff_getElem?.1 hp
    rcases ho with ho | ⟨h3, ho⟩
    · exact h.nep p hp k e.symm ho
    · obtain ⟨c1, hc1⟩ := own_typed ((st1.row j p hj).e h3) k ho
      exact own_ne pl1 hc1 (by decide) e))
  refine ⟨ho1.other hg2 (own_type_ne o1 pl1 (by decide)), ho2, ?_, ?_, ?_, hb2⟩
  · refine StepsW.snoc st2 ⟨own_less hk2 hle, fun h3 => ?_, hn⟩ (fun p hp => ?_)
    · have he1 := own_other (he h3) hg1 (own_type_ne (he h3) o0 (by decide))
      exact own_less (own_other he1 hg2 (own_type_ne he1 pl1 (by decide))) hle
    · obtain ⟨j, hj⟩ := List.mem_iff_getElem?.1 hp
      exact ⟨ne_symm (ne_below hk (h.st.row j p hj).k), fun h1 h3 => ne_symm (ne_below (he h3) ((h.st.row j p hj).e h1))⟩
  · intro p hp
    rcases List.mem_append.1 hp with hp | hp
    · exact h.key p hp
    · obtain rfl : p = _ := List.mem_singleton.1 hp
      exact hkey
  · intro p hp
    rcases List.mem_append.1 hp with hp | hp
    · obtain ⟨j, hj⟩ := List.mem_iff_getElem?.1 hp
      exact ne_append (h.nep p hp) hat2 (st1.row j p hj).k
    · obtain rfl : p = _ := List.mem_singleton.1 hp
      exact ne_append hnk hat2 hk1
end
/-- The blocks of ref16.Optimize that stay as they are. -/
structure F1 (w W : World) (A0 : Option Addr) (n c0 : Nat) (root : Int) (ro : Bool) : Prop where
  p : W.heap[w.heap.size]? = some (.cells #[.slice A0 n c0, .int .i64 root, .bool ro] 24 (0, 0))
  r : W.heap[w.heap.size + 1]? = some (.cells #[.slice none 0 0, .int .i64 0, .bool false] 24 (0, 0))
theorem F1.below {w W W1 : World} {A0 : Option Addr} {n c0 : Nat} {root : Int} {ro : Bool} (h : F1 w W A0 n c0 root ro) (hb : Below W.heap.size W W1) : F1 w W1 A0 n c0 root ro := ⟨blk_below h.p hb, blk_below h.r hb⟩
theorem F1.grown {w W W1 : World} {A0 : Option Addr} {n c0 : Nat} {root : Int} {ro : Bool} (h : F1 w W A0 n c0 root ro) {b s k : Nat} {e : TypeId} {v : Value} {xs : List Value} (ho : W.ownsRow b e s v k xs) (he : e ≠ 24) (hg : W.grownBy W1 v.ownBlock) : F1 w W1 A0 n c0 root ro := ⟨blk_grown h.p hg (own_ne ho h.p he), blk_grown h.r hg (own_ne ho h.r he)⟩

/-- What holds while the steps that stay are numbered anew. -/
structure Q3 (w : World) (N nb nc : Nat) (lvv : Value) (bl : List Bool) (ob rb : Nat) (As : Option Addr) (cs : Nat) (ro : Bool) (wr : World) (M os : List (S34 × Lie)) (outv : Value) (Ns : List Int) : Prop where
  fc : OwnRow CellsOf 34 10 wr w.heap.size (.slice As M.length cs) M
  st : StepsW wr w.heap.size M
  out : OwnRow CellsOf 34 10 wr w.heap.size outv os
  ne : NeRow outv (.slice As M.length cs)
  fob : wr.heap[ob]? = some (.cells #[outv, .int .i64 0, .bool ro] 24 (0, 0))
  nm : wr.ownsRow w.heap.size 3 1 (.slice (some ⟨nb, 0, none⟩) N nc) N (nums .i64 Ns)
  nn : ∀ p ∈ M, NeRow (.slice (some ⟨nb, 0, none⟩) N nc) p.2.kv
  lv : wr.ownsRow w.heap.size 4 1 lvv N (encs Value.bool bl)
  frb : wr.heap[rb]? = some (.cells #[.slice none 0 0, .int .i64 0, .bool false] 24 (0, 0))
  bel : Below w.heap.size w wr
  d : w.heap.size ≤ ob ∧ w.heap.size ≤ rb ∧ ob ≠ rb
section
variable {w : World} {N nb nc ob rb : Nat} {lvv : Value} {bl : List Bool} {As : Option Addr} {cs : Nat} {ro : Bool} {wr : World} {M os : List (S34 × Lie)} {outv : Value} {Ns : List Int}
theorem Q3.alloc (h : Q3 w N nb nc lvv bl ob rb As cs ro wr M os outv Ns) (o : Obj) : Q3 w N nb nc lvv bl ob rb As cs ro (wr.alloc o) M os outv Ns :=
  have hb : Below wr.heap.size wr (wr.alloc o) := below_alloc (Below.refl _ _) _
  ⟨h.fc.below hb, h.st.below hb, h.out.below hb, h.ne, blk_alloc h.fob _, pw_own_below h.nm hb, h.nn, pw_own_below h.lv hb, blk_alloc h.frb _, h.bel.trans (hb.mono h.bel.size), h.d⟩
theorem Q3.drew (h : Q3 w N nb nc lvv bl ob rb As cs ro wr M os outv Ns) : Q3 w N nb nc lvv bl ob rb As cs ro wr.drew M os outv Ns :=
  ⟨h.fc, h.st.below (below_drew (Below.refl _ _)), h.out, h.ne, h.fob, h.nm, h.nn, h.lv, h.frb, h.bel.trans (below_drew (Below.refl _ _)), h.d⟩
/-- A number laid down. -/
theorem Q3.num (h : Q3 w N nb nc lvv bl ob rb As cs ro wr M os outv Ns) (i x : Int) : Q3 w N nb nc lvv bl ob rb As cs ro (wr.setCell ⟨nb, i.toNat, none⟩ (.int .i64 x)) M os outv (Ns.set i.toNat x) := by
  obtain ⟨cb, hcb⟩ := own_typed h.nm nb rfl
  have hs := own_store h.nm i x
  have blk : ∀ {g : Nat} {c : Array Value} {t : TypeId}, wr.heap[g]? = some (.cells c t (0, 0)) → t ≠ 3 → (wr.setCell ⟨nb, i.toNat, none⟩ (.int .i64 x)).heap[g]? = some (.cells c t (0, 0)) := fun hh ht => blk_far hh (cells_ne hh hcb ht) _
  refine ⟨h.fc.set_ hcb (by decide) _ _, h.st.move (fun p hp k ho _ _ => ?_), h.out.set_ hcb (by decide) _ _, h.ne, blk h.fob (by decide), hs.1, h.nn, own_setCell h.lv (own_ne h.lv hcb (by decide)) _, blk h.frb (by decide), below_set h.bel (own_base h.nm nb rfl), h.d⟩
  refine Below.heap_setCell wr ⟨nb, i.toNat, none⟩ _ k (fun e => ?_)
  subst e
  obtain ⟨j, hj⟩ := List.mem_iff_getElem?.1 hp
  rcases ho with ho | ⟨h3, ho⟩
  · exact h.nn p hp _ rfl ho
  · obtain ⟨c1, hc1⟩ := own_typed ((h.st.row j p hj).e h3) _ ho
    exact cells_ne hc1 hcb (by decide) rfl
/-- A number of a step's own lists turned. -/
theorem Q3.set (h : Q3 w N nb nc lvv bl ob rb As cs ro wr M os outv Ns) {i : Nat} {t t' : S34} {r : Lie} (hi : M[i]? = some (t, r)) (hc : cells1 (t', r) = cells1 (t, r)) (h0 : t'.f0 = t.f0) {g j : Nat} (hg : Owns (t, r) g) (u : Value) (hr : RowAt (wr.setCell ⟨g, j, none⟩ u) w.heap.size t' r) :
    Q3 w N nb nc lvv bl ob rb As cs ro (wr.setCell ⟨g, j, none⟩ u) (M.set i (t', r)) os outv Ns := by
  obtain ⟨hb, hlt, cells, q, hcell, hq⟩ := (h.st.row i _ hi).lt hg
  have hmem := List.mem_of_getElem? hi
  have blk : ∀ {k : Nat} {c : Array Value} {t : TypeId} {f : Nat × Nat}, wr.heap[k]? = some (.cells c t f) → t ≠ 3 → t ≠ 36 → (wr.setCell ⟨g, j, none⟩ u).heap[k]? = some (.cells c t f) := fun hh h3 h36 => (Below.heap_setCell wr ⟨g, j, none⟩ u _ (cells_ne hh hcell (by rcases hq with rfl | rfl; exact h3; exact h36))).trans hh
  have hg1 : wr.grownBy (wr.setCell ⟨g, j, none⟩ u) (some g) := ⟨rfl, rfl, rfl, (KeepsWalks.setCell wr _ u).size, fun k _ hk => Below.heap_setCell _ _ _ k (fun e => hk (by rw [e]))⟩
  have own : ∀ {b e : Nat} {s k : Nat} {v : Value} {xs : List Value}, wr.ownsRow b e s v k xs → e ≠ 3 → e ≠ 36 → some g ≠ v.ownBlock := fun ho h3 h36 e => by
    obtain ⟨c, hc2⟩ := own_typed ho _ e.symm
    exact cells_ne hc2 hcell (by rcases hq with rfl | rfl; exact h3; exact h36) rfl
  have own2 : ∀ {b s k : Nat} {v : Value} {xs : List Value}, wr.ownsRow b 34 s v k xs → v.ownBlock = none ∨ v.ownBlock ≠ some g := fun ho => .inr (fun e => own ho (by decide) (by decide) e.symm)
  obtain ⟨i1, o1, _⟩ := id h.fc
  obtain ⟨i2, o2, _⟩ := id h.out
  have hnb : some g ≠ (Value.slice (some ⟨nb, 0, none⟩) N nc).ownBlock := fun e => by
    have e2 : g = nb := Option.some.inj e
    subst e2
    rcases hg with hg | ⟨h3, hg⟩
    · exact h.nn _ hmem _ rfl hg
    · obtain ⟨c1, hc1⟩ := own_typed ((h.st.row i _ hi).e h3) _ hg
      obtain ⟨c2, hc2⟩ := own_typed h.nm _ rfl
      exact cells_ne hc1 hc2 (by decide) rfl
  refine ⟨cells_set (by rw [List.length_set]; exact h.fc.other hg1 (own2 o1)) hi hc, h.st.set hi h0 hr g hg (fun k hk => Below.heap_setCell wr ⟨g, j, none⟩ u k hk), h.out.other hg1 (own2 o2), by rw [List.length_set]; exact h.ne, blk h.fob (by decide) (by decide), own_setCell h.nm hnb u, fun p hp => ?_, own_setCell h.lv (own h.lv (by decide) (by decide)) u, blk h.frb (by decide) (by decide), below_set h.bel hb, h.d⟩
  rcases List.mem_or_eq_of_mem_set hp with hp | rfl
  · exact h.nn p hp
  · have h_ := h.nn (t, r) hmem
    exact h_
/-- One more step that stays. -/
theorem Q3.app (h : Q3 w N nb nc lvv bl ob rb As cs ro wr M os outv Ns) {p : S34 × Lie} {v1 : Value} {w1 : World} (ho : OwnRow CellsOf 34 10 w1 w.heap.size v1 (os ++ [p])) (hb : Below w.heap.size w w1) (hg : wr.grownBy w1 outv.ownBlock) (hat : v1.ownBlock = outv.ownBlock ∨ ∃ b, v1.ownBlock = some b ∧ wr.heap.size ≤ b) :
    Q3 w N nb nc lvv bl ob rb As cs ro (w1.setCell ⟨ob, 0, none⟩ v1) M (os ++ [p]) v1 Ns := by
  obtain ⟨i1, o1, _⟩ := id h.fc
  obtain ⟨i2, o2, _⟩ := id h.out
  have blk : ∀ {k : Nat} {c : Array Value} {t : TypeId} {f : Nat × Nat}, wr.heap[k]? = some (.cells c t f) → t ≠ 34 → w1.heap[k]? = some (.cells c t f) := fun hh h34 => (hg.block _ (blk_lt hh) (fun e => by
    obtain ⟨c2, hc2⟩ := own_typed o2 _ e.symm
    exact cells_ne hh hc2 h34 rfl)).trans hh
  have hob := blk h.fob (by decide)
  have csn : OwnRow CellsOf 34 10 w1 w.heap.size (.slice As M.length cs) M := h.fc.other hg (ne_other h.ne)
  have hst1 : StepsW w1 w.heap.size M := h.st.but outv.ownBlock (fun k hk hne => hg.block k hk hne) (fun g e c q hc => by
    obtain ⟨c2, hc2⟩ := own_typed o2 _ e
    rw [hc] at hc2
    injection hc2 with hc2
    injection hc2 with _ hc2
    subst hc2
    decide)
  have nm1 := own_other h.nm hg (own_type_ne h.nm o2 (by decide))
  have lv1 := own_other h.lv hg (own_type_ne h.lv o2 (by decide))
  refine ⟨csn.set_ hob (by decide) _ _, hst1.set24 hob _, ho.set_ hob (by decide) _ _, ne_append h.ne hat o1, by simpa using blk_set hob 0 v1, own_setCell nm1 (own_ne nm1 hob (by decide)) _, h.nn, own_setCell lv1 (own_ne lv1 hob (by decide)) _, blk_far (blk h.frb (by decide)) (fun e => h.d.2.2 e.symm) _, below_set hb h.d.1, h.d⟩
theorem Q3.rowAt (h : Q3 w N nb nc lvv bl ob rb As cs ro wr M os outv Ns) {i : Nat} {t : S34} {r : Lie} (hi : M[i]? = some (t, r)) : RowAt wr w.heap.size t r := h.st.row i _ hi
/-- One of a step's kids turned. -/
theorem Q3.setk (h : Q3 w N nb nc lvv bl ob rb As cs ro wr M os outv Ns)
    {i : Nat} {t : S34} {r : Lie} (hi : M[i]? = some (t, r)) {g m c : Nat} (hkv : r.kv = .slice (some ⟨g, 0, none⟩) m c) (k : Nat) (x : Int) : Q3 w N nb nc lvv bl ob rb As cs ro (wr.setCell ⟨g, k, none⟩ (.int .i64 x)) (M.set i ({ t with f4 := t.f4.set k x }, r)) os outv Ns := by
  have hr := h.st.row i _ hi
  have hk := hr.k
  obtain ⟨A, c2, e⟩ := own_slice hk
  have hk2 := hk
  simp only [hkv] at hk2 e
  injection e with e1 e2 e3
  subst e2
  have hst := own_store hk2 (k : Int) x
  rw [Int.toNat_natCast] at hst
  have hg : Owns (t, r) g := .inl (by show r.kv.ownBlock = _; rw [hkv]; rfl)
  refine h.set (t' := { t with f4 := t.f4.set k x }) hi rfl rfl hg _ ⟨?_, fun h3 => ?_, hr.n⟩
  · show (wr.setCell ⟨g, k, none⟩ (.int .i64 x)).ownsRow _ 3 1 r.kv (t.f4.set k x).length (nums .i64 (t.f4.set k x))
    rw [List.length_set, hkv]
    exact hst.1
  · have he := hr.e h3
    exact own_setCell he (p := ⟨g, k, none⟩) (fun e => by
      obtain ⟨c1, h1⟩ := own_typed he _ e.symm
      obtain ⟨c2, h2⟩ := own_typed hk g (by show r.kv.ownBlock = _; rw [hkv]; rfl)
      exact cells_ne h1 h2 (by decide) rfl) _
/-- The kid of one of a step's extents turned. -/
theorem Q3.sete (h : Q3 w N nb nc lvv bl ob rb As cs ro wr M os outv Ns)
    {i : Nat} {t : S34} {r : Lie} (hi : M[i]? = some (t, r)) (h3 : t.f0 = 3) {g m c : Nat} (hev : r.ev = .slice (some ⟨g, 0, none⟩) m c) (k : Nat) (hk : k < t.f3.length) (x : Int) : Q3 w N nb nc lvv bl ob rb As cs ro (wr.setCell ⟨g, k * 4 + 2, none⟩ (.int .i64 x)) (M.set i ({ t with f3 := t.f3.set k { rd_T36 t.f3 (k : Int) with f2 := x } }, r)) os outv Ns := by
  have hr := h.st.row i _ hi
  have he := hr.e h3
  obtain ⟨A, c2, e⟩ := own_slice he
  have he2 := he
  simp only [hev] at he2 e
  injection e with e1 e2 e3
  subst e2
  have hst := he2.stored (k * 4 + 2) (.int .i64 x)
  rw [ec_set2 t.f3 k hk x] at hst
  have hg : Owns (t, r) g := .inr ⟨h3, by show r.ev.ownBlock = _; rw [hev]; rfl⟩
  refine h.set (t' := { t with f3 := t.f3.set k { rd_T36 t.f3 (k : Int) with f2 := x } }) hi rfl rfl hg _ ⟨?_, fun _ => ?_, fun hn => absurd h3 hn⟩
  · exact own_setCell hr.k (p := ⟨g, k * 4 + 2, none⟩) (fun e => by
      obtain ⟨c1, h1⟩ := own_typed hr.k _ e.symm
      obtain ⟨c2, h2⟩ := own_typed he g (by show r.ev.ownBlock = _; rw [hev]; rfl)
      exact cells_ne h1 h2 (by decide) rfl) _
  · show (wr.setCell ⟨g, k * 4 + 2, none⟩ (.int .i64 x)).ownsRow _ 36 4 r.ev (t.f3.set k _).length (ec (t.f3.set k _))
    rw [List.length_set, hev]
    exact hst.1
end
/-- A number put into the row. -/
theorem rd_set (Ns : List Int) (i k x : Int) (h0 : 0 ≤ i) (hk : 0 ≤ k) (h1 : i < (Ns.length : Int)) : rd (Ns.set i.toNat x) k = if k = i then x else rd Ns k := by
  unfold rd
  rw [List.getD_eq_getElem?_getD, List.getElem?_set]
  by_cases h : k = i
  · subst h
    rw [if_pos rfl, if_pos (by omega), if_pos rfl]
    rfl
  · rw [if_neg (by omega), if_neg h, List.getD_eq_getElem?_getD]
/-- What is asked of a plan for the reference. -/
structure RefOk (L0 : List S34) (root : Int) : Prop where
  ok : PlanOk L0 root
  fl : ∀ i : Nat, i < L0.length → (((rd_T34 L0 (i : Int)).f3.map (kidE (opt1 (L0.take i)).2)).flatMap (fuseL (opt1 (L0.take i)).1)).length ≤ 10000000
  l3 : ∀ p : Int, (rd_T34 (opt1 L0).1 p).f3.length ≤ 100000
theorem rd36_map (f : S36 → S36) (es : List S36) (j : Nat) (hj : j < es.length) : rd_T36 (es.map f) (j : Int) = f (rd_T36 es (j : Int)) := by
  simp [rd_T36, List.getD, hj]
theorem newT_all {M : List S34} {P : List Int} {t : S34} (ok : AddOk M P t) : newT (M, P) t = { t with f3 := addE M P t.f3, f4 := t.f4.map (rd P) } := by
  unfold newT
  by_cases h : t.f0 = 3
  · rw [if_pos h]
  · rw [if_neg h, ok.n3 h]
    have e := ok.n3 h
    obtain ⟨a0, a1, a2, a3, a4, a5, a6, a7, a8, a9⟩ := t
    simp only at e
    subst e
    rfl
theorem newP_all {M : List S34} {P : List Int} {t : S34} (ok : AddOk M P t) : newP (M, P) t = atL M (addE M P t.f3) := by
  unfold newP
  by_cases h : t.f0 = 3
  · rw [if_pos h]
  · rw [if_neg h, ok.n3 h]
    rfl
theorem step_plain {M : List S34} {P : List Int} {t : S34} (ok : AddOk M P t) (hb : ((t.f3.map (kidE P)).flatMap (fuseL M)).length ≤ 10000000) :
    ∃ fl : List S36, (∃ k, cofferdamref16_fused.f k M (t.f3.map (kidE P)) = some fl) ∧ fl.length ≤ 10000000 ∧ (∀ e ∈ fl, okJ e) ∧ fl.foldl joinStep [] = addE M P t.f3 := by
  have hx : ∀ j : Nat, j < (t.f3.map (kidE P)).length → exOk (rd_T36 (t.f3.map (kidE P)) (j : Int)) ∧ 0 ≤ (rd_T36 (t.f3.map (kidE P)) (j : Int)).f2 ∧ (rd_T36 (t.f3.map (kidE P)) (j : Int)).f2 < (M.length : Int) := by
    intro j hj
    rw [List.length_map] at hj
    rw [rd36_map _ _ j hj]
    obtain ⟨h1, h2, h3, h4, h5⟩ := ok.e j hj
    exact ⟨h1, h4, h5⟩
  refine ⟨_, fused_some M _ hx ok.Le ok.Ll (by rw [List.length_map]; exact ok.l3) hb, hb, ?_, (addE_flat M P t.f3).symm⟩
  intro e he
  obtain ⟨x, hxm, hex⟩ := List.mem_flatMap.1 he
  obtain ⟨j, hj⟩ := List.mem_iff_getElem?.1 hxm
  obtain ⟨hjl, hjx⟩ := List.getElem?_eq_some_iff.1 hj
  have e1 : rd_T36 (t.f3.map (kidE P)) (j : Int) = x := by
    unfold rd_T36
    rw [Int.toNat_natCast, List.getD_eq_getElem?_getD, hj]
    rfl
  have := (hx j hjl).1
  rw [e1] at this
  exact fuseL_okJ this (ok.Le x.f2) e hex
theorem addE_one {M : List S34} {P : List Int} {t : S34} (ok : AddOk M P t) (h : (addE M P t.f3).length = 1) : 0 ≤ (rd_T36 (addE M P t.f3) 0).f2 ∧ (rd_T36 (addE M P t.f3) 0).f2 < (M.length : Int) := by
  by_cases h0 : t.f0 = 3
  · exact (ok.ne h0).2 _ (rd_mem _ 0 (by omega))
  · rw [ok.n3 h0] at h
    cases h

theorem at36_0 {w : World} {A : Option Addr} {n : Nat} {xs : List S36} (h : Kd.C k36 w A n xs) (h1 : 0 < n) : ∃ ad : Addr, A = some ad ∧ w.cell? ad = some (.int .i64 (rd_T36 xs 0).f0) ∧ w.cell? ⟨ad.block, ad.off + 1, none⟩ = some (.int .i64 (rd_T36 xs 0).f1) ∧ w.cell? ⟨ad.block, ad.off + 2, none⟩ = some (.int .i64 (rd_T36 xs 0).f2) ∧ w.cell? ⟨ad.block, ad.off + 3, none⟩ = some (.int .i64 (rd_T36 xs 0).f3) := by
  obtain ⟨ad, e, h0, h1, h2, h3⟩ := at_T36 h 0 (Int.le_refl _) (by omega)
  have ez : ad.add ((0 : Int).toNat * 4) = ad := by unfold Addr.add; simp
  rw [ez] at h0 h1 h2 h3
  exact ⟨ad, e, h0, h1, h2, h3⟩
theorem Kd_own36 {w : World} {base c : Nat} {A : Option Addr} {l : List S36} (h : w.ownsRow base 36 4 (.slice A l.length c) l.length (ec l)) : Kd.C k36 w A l.length l := (Kd.R_reads' (R36 (ok := fun _ => True) h (fun _ _ => trivial))).2.2
/-- The step is all of one kid. -/
def oneK (M : List S34) (E : List S36) : Prop := E.length = 1 ∧ (rd_T36 E 0).f3 = 0 ∧ (rd_T36 E 0).f1 = (rd_T34 M (rd_T36 E 0).f2).f1
open Classical in
noncomputable def oneB (M : List S34) (E : List S36) : Bool := decide (oneK M E)
theorem oneB_true {M : List S34} {E : List S36} (h : oneK M E) : oneB M E = true := by unfold oneB; simp [h]
theorem oneB_false {M : List S34} {E : List S36} (h : ¬ oneK M E) : oneB M E = false := by unfold oneB; simp [h]
theorem oneB_at {M : List S34} {E : List S36} : atL M E = if oneB M E = true then (rd_T36 E 0).f2 else (M.length : Int) := by
  unfold atL
  by_cases h1 : E.length = 1
  · rw [if_pos h1]
    by_cases h2 : (rd_T36 E 0).f3 = 0
    · rw [if_pos h2]
      by_cases h3 : (rd_T36 E 0).f1 = (rd_T34 M (rd_T36 E 0).f2).f1
      · rw [if_pos h3, if_pos (oneB_true ⟨h1, h2, h3⟩)]
      · rw [if_neg h3, if_neg (by rw [oneB_false (fun h => h3 h.2.2)]; decide)]
    · rw [if_neg h2, if_neg (by rw [oneB_false (fun h => h2 h.2.1)]; decide)]
  · rw [if_neg h1, if_neg (by rw [oneB_false (fun h => h1 h.1)]; decide)]
theorem oneB_len {M : List S34} {E : List S36} (h : oneB M E = true) : E.length = 1 := by
  unfold oneB at h
  simp at h
  exact h.1
end Go.Proofs.Ytneglmnffdmbiaa.P
