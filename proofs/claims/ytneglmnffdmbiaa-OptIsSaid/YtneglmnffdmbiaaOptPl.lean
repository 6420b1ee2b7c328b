import Derived.Test.YtneglmnffdmbiaaOptDef
import Derived.Test.YtneglmnffdmbiaaOptBd
namespace Go.Proofs.Ytneglmnffdmbiaa.P
open Go.RowKit Go.Proofs.YtneglmnffdmbiaaW.PrintWords Go.Proofs.YtneglmnffdmbiaaW.PrintLast Go.Proofs.YtneglmnffdmbiaaW.PrintMore
set_option linter.unusedVariables false
set_option linter.unusedSimpArgs false

/-! plain laws of extents -/
/-- Two neighbours that could be one. -/
def Jn (x y : S36) : Prop := x.f2 = y.f2 ∧ x.f3 + x.f1 = y.f3
instance (x y : S36) : Decidable (Jn x y) := inferInstanceAs (Decidable (_ ∧ _))
theorem lastE_snoc (l : List S36) (z : S36) : lastE (l ++ [z]) = z := by
  unfold lastE rd_T36
  rw [Int.toNat_natCast, List.length_append, List.length_singleton, Nat.add_sub_cancel, List.getD_eq_getElem?_getD, List.getElem?_append_right (Nat.le_refl _), Nat.sub_self]
  rfl
theorem joinStep_nil (y : S36) : joinStep [] y = [y] := rfl
theorem joinStep_snoc (l : List S36) (z y : S36) : joinStep (l ++ [z]) y = if Jn z y then l ++ [{ z with f1 := z.f1 + y.f1 }] else l ++ [z] ++ [y] := by
  have hl : 0 < (l ++ [z]).length := by rw [List.length_append, List.length_singleton]; omega
  have hs : ∀ q : S36, (l ++ [z]).set ((l ++ [z]).length - 1) q = l ++ [q] := by
    intro q
    rw [List.length_append, List.length_singleton, Nat.add_sub_cancel, List.set_append_right _ _ (Nat.le_refl _), Nat.sub_self]
    rfl
  unfold joinStep
  rw [lastE_snoc, if_pos hl, hs]
  by_cases h1 : z.f2 = y.f2
  · rw [if_pos h1]
    by_cases h2 : z.f3 + z.f1 = y.f3
    · rw [if_pos h2, if_pos ⟨h1, h2⟩]
    · rw [if_neg h2, if_neg (fun h => h2 h.2)]
  · rw [if_neg h1, if_neg (fun h => h1 h.1)]
theorem tile_snoc : ∀ (l : List S36) (a b : Int) (y : S36), Tile a l b → y.f0 = b → 1 ≤ y.f1 → Tile a (l ++ [y]) (b + y.f1)
  | [], a, b, y, h, h0, h1 => by
    have : a = b := h
    subst this
    exact ⟨h0, h1, rfl⟩
  | x :: l, a, b, y, h, h0, h1 => ⟨h.1, h.2.1, tile_snoc l _ b y h.2.2 h0 h1⟩
theorem tile_last : ∀ (l : List S36) (a b : Int) (z : S36), Tile a (l ++ [z]) b → Tile a l z.f0 ∧ 1 ≤ z.f1 ∧ z.f0 + z.f1 = b
  | [], a, b, z, h => by
    obtain ⟨h0, h1, h2⟩ := h
    have : a + z.f1 = b := h2
    exact ⟨h0.symm, h1, by omega⟩
  | x :: l, a, b, z, h => by
    obtain ⟨h0, h1, h2⟩ := tile_last l _ b z h.2.2
    exact ⟨⟨h.1, h.2.1, h0⟩, h1, h2⟩
theorem tile_append : ∀ (l r : List S36) (a b c : Int), Tile a l b → Tile b r c → Tile a (l ++ r) c
  | [], r, a, b, c, h, h2 => by
    have : a = b := h
    subst this
    exact h2
  | x :: l, r, a, b, c, h, h2 => ⟨h.1, h.2.1, tile_append l r _ b c h.2.2 h2⟩
theorem tile_le : ∀ (l : List S36) (a b : Int), Tile a l b → a + l.length ≤ b
  | [], a, b, h => by
    have : a = b := h
    simp
    omega
  | x :: l, a, b, h => by
    have := tile_le l _ b h.2.2
    have h1 := h.2.1
    rw [List.length_cons]
    omega
theorem tile_mem : ∀ (l : List S36) (a b : Int), Tile a l b → ∀ e ∈ l, a ≤ e.f0 ∧ 1 ≤ e.f1 ∧ e.f0 + e.f1 ≤ b
  | [], a, b, h, e, he => by cases he
  | x :: l, a, b, h, e, he => by
    obtain ⟨h0, h1, h2⟩ := h
    have := tile_le l _ b h2
    rcases List.mem_cons.1 he with rfl | he
    · omega
    · have := tile_mem l _ b h2 e he
      omega
/-- No neighbours could be one. -/
def NJ : List S36 → Prop
  | [] => True
  | [_] => True
  | x :: y :: r => ¬ Jn x y ∧ NJ (y :: r)
theorem NJ_snoc : ∀ (l : List S36) (z y : S36), NJ (l ++ [z]) → ¬ Jn z y → NJ (l ++ [z] ++ [y])
  | [], z, y, _, h => ⟨h, trivial⟩
  | [x], z, y, h, h2 => ⟨h.1, h2, trivial⟩
  | x :: x' :: l, z, y, h, h2 => ⟨h.1, NJ_snoc (x' :: l) z y h.2 h2⟩
theorem NJ_last : ∀ (l : List S36) (z z' : S36), NJ (l ++ [z]) → z'.f2 = z.f2 → z'.f3 = z.f3 → NJ (l ++ [z'])
  | [], z, z', _, _, _ => trivial
  | [x], z, z', h, h2, h3 => ⟨fun hj => h.1 ⟨hj.1.trans h2, hj.2.trans h3⟩, trivial⟩
  | x :: x' :: l, z, z', h, h2, h3 => ⟨h.1, NJ_last (x' :: l) z z' h.2 h2 h3⟩
theorem NJ_tail {x : S36} {l : List S36} (h : NJ (x :: l)) : NJ l := by
  cases l with
  | nil => trivial
  | cons y l => exact h.2
theorem NJ_at : ∀ (l : List S36), NJ l → ∀ i : Nat, i + 1 < l.length → ¬ Jn (rd_T36 l (i : Int)) (rd_T36 l ((i + 1 : Nat) : Int))
  | [], _, i, h => absurd h (Nat.not_lt_zero _)
  | [x], _, i, h => by simp at h
  | x :: y :: l, h, 0, _ => h.1
  | x :: y :: l, h, i + 1, hi => by
    have := NJ_at (y :: l) h.2 i (by simp at hi ⊢; omega)
    unfold rd_T36 at this ⊢
    rw [Int.toNat_natCast, Int.toNat_natCast] at this ⊢
    exact this
theorem joinStep_no (l : List S36) (y : S36) (h : ∀ l' z, l = l' ++ [z] → ¬ Jn z y) : joinStep l y = l ++ [y] := by
  rcases List.eq_nil_or_concat l with rfl | ⟨l', z, rfl⟩
  · rfl
  · rw [List.concat_eq_append] at h ⊢
    rw [joinStep_snoc, if_neg (h l' z rfl)]
/-- Joining what cannot be joined. -/
theorem join_same : ∀ (ys acc : List S36), NJ ys → (∀ l' z y ys', acc = l' ++ [z] → ys = y :: ys' → ¬ Jn z y) → ys.foldl joinStep acc = acc ++ ys
  | [], acc, _, _ => (List.append_nil _).symm
  | y :: ys, acc, h, ha => by
    rw [List.foldl_cons, joinStep_no acc y (fun l' z e => ha l' z y ys e rfl), join_same ys (acc ++ [y]) (NJ_tail h) (fun l' z y' ys' e1 e2 => by
      obtain ⟨_, rfl⟩ := List.append_inj' e1 rfl |>.imp id (fun h => by simpa using h)
      subst e2
      exact h.1)]
    simp
theorem joinStep_NJ (l : List S36) (y : S36) (h : NJ l) : NJ (joinStep l y) := by
  rcases List.eq_nil_or_concat l with rfl | ⟨l', z, rfl⟩
  · trivial
  · rw [List.concat_eq_append] at h ⊢
    rw [joinStep_snoc]
    split
    · exact NJ_last l' z _ h rfl rfl
    · exact NJ_snoc l' z y h (by assumption)
/-- An extent that is one of step n's, of a kid that is no Concat. -/
def EIn (M : List S34) (n : Int) (e : S36) : Prop := ExIn M n e ∧ (rd_T34 M e.f2).f0 ≠ 3
theorem joinStep_tile (l : List S36) (y : S36) (a b : Int) (h : Tile a l b) (h0 : y.f0 = b) (h1 : 1 ≤ y.f1) : Tile a (joinStep l y) (b + y.f1) := by
  rcases List.eq_nil_or_concat l with rfl | ⟨l', z, rfl⟩
  · exact tile_snoc [] a b y h h0 h1
  · rw [List.concat_eq_append] at h ⊢
    rw [joinStep_snoc]
    split
    · obtain ⟨g0, g1, g2⟩ := tile_last l' a b z h
      have := tile_snoc l' a z.f0 { z with f1 := z.f1 + y.f1 } g0 rfl (by show 1 ≤ z.f1 + y.f1; omega)
      rw [show b + y.f1 = z.f0 + (z.f1 + y.f1) by omega]
      exact this
    · exact tile_snoc _ a b y h h0 h1
theorem joinStep_in {M : List S34} {n : Int} (l : List S36) (y : S36) (h : ∀ e ∈ l, EIn M n e) (hy : EIn M n y) : ∀ e ∈ joinStep l y, EIn M n e := by
  rcases List.eq_nil_or_concat l with rfl | ⟨l', z, rfl⟩
  · intro e he
    rw [joinStep_nil, List.mem_singleton] at he
    subst he
    exact hy
  · rw [List.concat_eq_append] at h ⊢
    rw [joinStep_snoc]
    have hz := h z (by simp)
    split
    · rename_i hj
      intro e he
      rcases List.mem_append.1 he with he | he
      · exact h e (by simp [he])
      · rw [List.mem_singleton] at he
        subst he
        obtain ⟨⟨a0, a1, a2, a3, a4⟩, a5⟩ := hz
        obtain ⟨⟨b0, b1, b2, b3, b4⟩, b5⟩ := hy
        obtain ⟨j1, j2⟩ := hj
        rw [← j1] at b4
        exact ⟨⟨a0, a1, by show 1 ≤ z.f1 + y.f1; omega, a3, by show z.f3 + (z.f1 + y.f1) ≤ (rd_T34 M z.f2).f1; omega⟩, a5⟩
    · intro e he
      rcases List.mem_append.1 he with he | he
      · exact h e he
      · rw [List.mem_singleton] at he
        subst he
        exact hy
theorem join_all {M : List S34} {n : Int} : ∀ (ys l : List S36) (a b c : Int), Tile a l b → NJ l → (∀ e ∈ l, EIn M n e) → Tile b ys c → (∀ e ∈ ys, EIn M n e) → Tile a (ys.foldl joinStep l) c ∧ NJ (ys.foldl joinStep l) ∧ ∀ e ∈ ys.foldl joinStep l, EIn M n e
  | [], l, a, b, c, h, hn, hi, hy, _ => by
    have : b = c := hy
    subst this
    exact ⟨h, hn, hi⟩
  | y :: ys, l, a, b, c, h, hn, hi, hy, hyi => by
    obtain ⟨h0, h1, h2⟩ := hy
    rw [List.foldl_cons]
    exact join_all ys _ a (b + y.f1) c (joinStep_tile l y a b h h0 h1) (joinStep_NJ l y hn) (joinStep_in l y hi (hyi y (by simp))) h2 (fun e he => hyi e (by simp [he]))
theorem fuseK_cons (x y : S36) (ys : List S36) : fuseK x (y :: ys) = fuse1 x y ++ fuseK x ys := rfl
theorem fuseK_nil (x : S36) : ∀ (ys : List S36) (a N : Int), Tile a ys N → x.f3 + x.f1 ≤ a → fuseK x ys = []
  | [], a, N, _, _ => rfl
  | y :: ys, a, N, h, hx => by
    obtain ⟨h0, h1, h2⟩ := h
    rw [fuseK_cons, fuseK_nil x ys _ N h2 (by omega)]
    have : ¬ numL x y > 0 := by unfold numL skipL; split <;> split <;> omega
    unfold fuse1
    rw [if_neg this]
    rfl
theorem skip_spec (x y : S36) : (y.f0 < x.f3 ∧ skipL x y = x.f3 - y.f0) ∨ (x.f3 ≤ y.f0 ∧ skipL x y = 0) := by unfold skipL; split <;> omega
theorem num_spec (x y : S36) : (x.f3 + x.f1 - y.f0 < y.f1 ∧ numL x y = x.f3 + x.f1 - y.f0 - skipL x y) ∨ (y.f1 ≤ x.f3 + x.f1 - y.f0 ∧ numL x y = y.f1 - skipL x y) := by unfold numL; split <;> omega
/-- Where in x a sector of its kid lies. -/
def posL (x : S36) (a : Int) : Int := if a < x.f3 then 0 else a - x.f3
theorem pos_spec (x : S36) (a : Int) : (a < x.f3 ∧ posL x a = 0) ∨ (x.f3 ≤ a ∧ posL x a = a - x.f3) := by unfold posL; split <;> omega
/-- What is taken apart tiles what it stood for. -/
theorem fuseK_tile (x : S36) (hx : 1 ≤ x.f1) : ∀ (ys : List S36) (a N : Int), Tile a ys N → x.f3 + x.f1 ≤ N → a ≤ x.f3 + x.f1 → Tile (x.f0 + posL x a) (fuseK x ys) (x.f0 + x.f1)
  | [], a, N, h, hN, ha => by
    have : a = N := h
    subst this
    have hp := pos_spec x a
    show _ = _
    omega
  | y :: ys, a, N, h, hN, ha => by
    obtain ⟨h0, h1, h2⟩ := h
    rw [fuseK_cons]
    unfold fuse1
    have hs := skip_spec x y
    have hm := num_spec x y
    have hp := pos_spec x a
    have hq := pos_spec x (a + y.f1)
    by_cases hn : numL x y > 0
    · rw [if_pos hn]
      by_cases he : a + y.f1 ≤ x.f3 + x.f1
      · have ih := fuseK_tile x hx ys (a + y.f1) N h2 hN he
        refine ⟨?_, ?_, ?_⟩
        · show x.f0 + y.f0 + skipL x y - x.f3 = _
          omega
        · show 1 ≤ numL x y
          omega
        · show Tile (x.f0 + posL x a + numL x y) (fuseK x ys) _
          rw [show x.f0 + posL x a + numL x y = x.f0 + posL x (a + y.f1) by omega]
          exact ih
      · have ih := fuseK_nil x ys (a + y.f1) N h2 (by omega)
        rw [ih]
        refine ⟨?_, ?_, ?_⟩
        · show x.f0 + y.f0 + skipL x y - x.f3 = _
          omega
        · show 1 ≤ numL x y
          omega
        · show x.f0 + posL x a + numL x y = _
          omega
    · rw [if_neg hn]
      by_cases he : a + y.f1 ≤ x.f3 + x.f1
      · have ih := fuseK_tile x hx ys (a + y.f1) N h2 hN he
        rw [show x.f0 + posL x a = x.f0 + posL x (a + y.f1) by omega]
        exact ih
      · have ih := fuseK_nil x ys (a + y.f1) N h2 (by omega)
        rw [ih]
        show x.f0 + posL x a = _
        omega
theorem fuseK_in {M : List S34} {n k : Int} {x : S36} (hx0 : 0 ≤ x.f3) (hk : k < n) {ys : List S36} (hy : ∀ e ∈ ys, EIn M k e) : ∀ e ∈ fuseK x ys, EIn M n e := by
  intro e he
  unfold fuseK at he
  obtain ⟨y, hym, he⟩ := List.mem_flatMap.1 he
  obtain ⟨⟨a0, a1, a2, a3, a4⟩, a5⟩ := hy y hym
  unfold fuse1 at he
  split at he
  · rename_i hn
    rw [List.mem_singleton] at he
    subst he
    have hs := skip_spec x y
    have hm := num_spec x y
    exact ⟨⟨a0, by show y.f2 < n; omega, by show 1 ≤ numL x y; omega, by show 0 ≤ y.f3 + skipL x y; omega, by show y.f3 + skipL x y + numL x y ≤ (rd_T34 M y.f2).f1; omega⟩, a5⟩
  · cases he
/-- All of it, at its place: nothing changes. -/
theorem fuseK_same (x : S36) (hx : x.f0 = x.f3) : ∀ (ys : List S36) (a N : Int), Tile a ys N → x.f3 ≤ a → N ≤ x.f3 + x.f1 → fuseK x ys = ys
  | [], a, N, _, _, _ => rfl
  | y :: ys, a, N, h, ha, hN => by
    have hle := tile_le ys _ N h.2.2
    obtain ⟨h0, h1, h2⟩ := h
    rw [fuseK_cons, fuseK_same x hx ys _ N h2 (by omega) hN]
    have e1 : skipL x y = 0 := by unfold skipL; split <;> omega
    have e2 : numL x y = y.f1 := by unfold numL; rw [e1]; split <;> omega
    unfold fuse1
    rw [e1, e2, if_pos (by omega)]
    have : (⟨x.f0 + y.f0 + 0 - x.f3, y.f1, y.f2, y.f3 + 0⟩ : S36) = y := by
      obtain ⟨y0, y1, y2, y3⟩ := y
      simp only [S36.mk.injEq]
      refine ⟨by omega, trivial, trivial, by omega⟩
    rw [this]
    rfl
/-- Cut into two, and joined again. -/
theorem fuse_cut (x1 x2 : S36) (c : Int) (h10 : x1.f0 = 0) (h13 : x1.f3 = 0) (h11 : x1.f1 = c) (h20 : x2.f0 = c) (h23 : x2.f3 = c) : ∀ (ys acc : List S36) (a N : Int), Tile a ys N → 0 ≤ a → a ≤ c → N ≤ x2.f3 + x2.f1 → NJ ys → (∀ l' z y ys', acc = l' ++ [z] → ys = y :: ys' → ¬ Jn z y) →
    (fuseK x2 ys).foldl joinStep ((fuseK x1 ys).foldl joinStep acc) = acc ++ ys
  | [], acc, a, N, _, _, _, _, _, _ => (List.append_nil _).symm
  | y :: ys, acc, a, N, h, ha, hac, hN, hj, hacc => by
    have hT := h
    have hle := tile_le ys _ N h.2.2
    obtain ⟨h0, h1, h2⟩ := h
    by_cases hA : a + y.f1 ≤ c
    · have e1 : fuse1 x1 y = [y] := by
        have e1 : skipL x1 y = 0 := by unfold skipL; split <;> omega
        have e2 : numL x1 y = y.f1 := by unfold numL; rw [e1]; split <;> omega
        unfold fuse1
        rw [e1, e2, if_pos (by omega)]
        obtain ⟨y0, y1, y2, y3⟩ := y
        simp only [List.cons.injEq, S36.mk.injEq, and_true]
        refine ⟨by simp only at h0; omega, trivial, trivial, by omega⟩
      have e2 : fuse1 x2 y = [] := by
        unfold fuse1
        rw [if_neg (by have hs := skip_spec x2 y; have hm := num_spec x2 y; omega)]
      rw [fuseK_cons, fuseK_cons, e1, e2, List.nil_append, List.singleton_append, List.foldl_cons, joinStep_no acc y (fun l' z e => hacc l' z y ys e rfl)]
      rw [fuse_cut x1 x2 c h10 h13 h11 h20 h23 ys (acc ++ [y]) (a + y.f1) N h2 (by omega) hA hN (NJ_tail hj) (fun l' z y' ys' e1 e2 => by
        obtain ⟨_, rfl⟩ := List.append_inj' e1 rfl |>.imp id (fun h => by simpa using h)
        subst e2
        exact hj.1)]
      simp
    · have e0 : fuseK x1 ys = [] := fuseK_nil x1 ys _ N h2 (by omega)
      have e3 : fuseK x2 ys = ys := fuseK_same x2 (by omega) ys _ N h2 (by omega) hN
      rw [fuseK_cons, fuseK_cons, e0, e3, List.append_nil]
      by_cases hC : a = c
      · have e1 : fuse1 x1 y = [] := by
          unfold fuse1
          rw [if_neg (by have hs := skip_spec x1 y; have hm := num_spec x1 y; omega)]
        have e2 : fuse1 x2 y ++ ys = y :: ys := by
          have := fuseK_same x2 (by omega) (y :: ys) a N hT (by omega) hN
          rw [fuseK_cons, e3] at this
          exact this
        rw [e1, e2]
        exact join_same (y :: ys) acc hj hacc
      · have e1 : fuse1 x1 y = [{ y with f1 := c - a }] := by
          have e1 : skipL x1 y = 0 := by unfold skipL; split <;> omega
          have e2 : numL x1 y = c - a := by unfold numL; rw [e1]; split <;> omega
          unfold fuse1
          rw [e1, e2, if_pos (by omega)]
          obtain ⟨y0, y1, y2, y3⟩ := y
          simp only [List.cons.injEq, S36.mk.injEq, and_true]
          refine ⟨by simp only at h0; omega, trivial, trivial, by omega⟩
        have e2 : fuse1 x2 y = [⟨c, y.f1 - (c - a), y.f2, y.f3 + (c - a)⟩] := by
          have e1 : skipL x2 y = c - a := by unfold skipL; split <;> omega
          have e2 : numL x2 y = y.f1 - (c - a) := by unfold numL; rw [e1]; split <;> omega
          unfold fuse1
          rw [e1, e2, if_pos (by omega)]
          rw [show x2.f0 + y.f0 + (c - a) - x2.f3 = c by omega]
        have hy1 : joinStep acc ({ y with f1 := c - a } : S36) = acc ++ [({ y with f1 := c - a } : S36)] := joinStep_no acc _ (fun l' z e hz => hacc l' z y ys e rfl hz)
        rw [e1, e2, List.foldl_cons, List.foldl_nil, List.singleton_append, List.foldl_cons, hy1, joinStep_snoc, if_pos ⟨rfl, rfl⟩]
        have e4 : ({ ({ y with f1 := c - a } : S36) with f1 := c - a + (y.f1 - (c - a)) } : S36) = y := by
          obtain ⟨y0, y1, y2, y3⟩ := y
          simp only [S36.mk.injEq, true_and, and_true]
          omega
        show ys.foldl joinStep (acc ++ [({ ({ y with f1 := c - a } : S36) with f1 := c - a + (y.f1 - (c - a)) } : S36)]) = _
        rw [e4, join_same ys (acc ++ [y]) (NJ_tail hj) (fun l' z y' ys' e1 e2 => by
          obtain ⟨_, rfl⟩ := List.append_inj' e1 rfl |>.imp id (fun h => by simpa using h)
          subst e2
          exact hj.1)]
        simp
end Go.Proofs.Ytneglmnffdmbiaa.P
