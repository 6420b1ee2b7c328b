import Derived.Test.YtneglmnffdmbiaaOptCp
import Derived.Test.YtneglmnffdmbiaaOptPh3
namespace Go.Proofs.Ytneglmnffdmbiaa.P
open Go.RowKit Go.Proofs.YtneglmnffdmbiaaW.PrintWords Go.Proofs.YtneglmnffdmbiaaW.PrintLast Go.Proofs.YtneglmnffdmbiaaW.PrintMore
set_option linter.unusedVariables false
set_option linter.unusedSimpArgs false

/-! what is left of a plan: nothing is left to do on it -/
theorem cnt_succ (V : Int → Bool) (n : Nat) : cnt V (n + 1) = cnt V n + (if V (n : Int) = true then 1 else 0) := by
  rw [← idxV_len, ← idxV_len, idxV_succ]
  split
  · rw [List.length_append, List.length_singleton]
  · rfl
theorem cnt_mono (V : Int → Bool) {a : Nat} : ∀ {b : Nat}, a ≤ b → cnt V a ≤ cnt V b
  | 0, h => by
    obtain rfl : a = 0 := by omega
    exact Nat.le_refl _
  | b + 1, h => by
    by_cases hb : a = b + 1
    · subst hb; exact Nat.le_refl _
    · have := cnt_mono V (show a ≤ b by omega)
      have h2 := cnt_succ V b
      omega
theorem idx_at (V : Int → Bool) (i : Nat) (hv : V (i : Int) = true) : ∀ n : Nat, i < n → (idxV V n)[cnt V i]? = some i
  | 0, h => absurd h (Nat.not_lt_zero _)
  | n + 1, h => by
    rw [idxV_succ]
    by_cases hi : i = n
    · subst hi
      rw [if_pos hv, List.getElem?_append_right (by rw [idxV_len]; exact Nat.le_refl _), idxV_len, Nat.sub_self]
      rfl
    · have ih := idx_at V i hv n (by omega)
      split
      · rw [List.getElem?_append_left (List.getElem?_eq_some_iff.1 ih).1]
        exact ih
      · exact ih
theorem idx_of (V : Int → Bool) : ∀ (n p : Nat), p < (idxV V n).length → ∃ i : Nat, i < n ∧ V (i : Int) = true ∧ cnt V i = p
  | 0, p, h => by simp [idxV] at h
  | n + 1, p, h => by
    rw [idxV_succ] at h
    by_cases hv : V (n : Int) = true
    · rw [if_pos hv, List.length_append, List.length_singleton] at h
      by_cases hp : p < (idxV V n).length
      · obtain ⟨i, a, b, c⟩ := idx_of V n p hp
        exact ⟨i, by omega, b, c⟩
      · exact ⟨n, by omega, hv, by rw [← idxV_len]; omega⟩
    · rw [if_neg hv] at h
      obtain ⟨i, a, b, c⟩ := idx_of V n p h
      exact ⟨i, by omega, b, c⟩
theorem cntI_lt (V : Int → Bool) {i j : Int} (h0 : 0 ≤ i) (hij : i < j) (hv : V i = true) : cntI V i < cntI V j := by
  obtain ⟨a, rfl⟩ : ∃ a : Nat, i = (a : Int) := ⟨i.toNat, by omega⟩
  obtain ⟨b, rfl⟩ : ∃ b : Nat, j = (b : Int) := ⟨j.toNat, by omega⟩
  unfold cntI
  rw [Int.toNat_natCast, Int.toNat_natCast]
  have h1 := cnt_succ V a
  rw [if_pos hv] at h1
  have h2 := cnt_mono V (show a + 1 ≤ b by omega)
  omega
theorem cntI_inj (V : Int → Bool) {i j : Int} (h0 : 0 ≤ i) (g0 : 0 ≤ j) (hi : V i = true) (hj : V j = true) (h : cntI V i = cntI V j) : i = j := by
  rcases Int.lt_trichotomy i j with h1 | h1 | h1
  · have := cntI_lt V h0 h1 hi
    omega
  · exact h1
  · have := cntI_lt V g0 h1 hj
    omega
theorem cntI_nn (V : Int → Bool) (i : Int) : 0 ≤ cntI V i := by unfold cntI; omega
theorem tile_map {g : S36 → S36} (h0 : ∀ e, (g e).f0 = e.f0) (h1 : ∀ e, (g e).f1 = e.f1) : ∀ (l : List S36) (a N : Int), Tile a l N → Tile a (l.map g) N
  | [], a, N, h => h
  | e :: l, a, N, h => ⟨(h0 e).trans h.1, by rw [h1 e]; exact h.2.1, by rw [h1 e]; exact tile_map h0 h1 l _ N h.2.2⟩
theorem NJ_map {g : S36 → S36} : ∀ (l : List S36), (∀ x ∈ l, ∀ y ∈ l, Jn (g x) (g y) → Jn x y) → NJ l → NJ (l.map g)
  | [], _, _ => trivial
  | [x], _, _ => trivial
  | x :: y :: l, h, hn => ⟨fun hj => hn.1 (h x (by simp) y (by simp) hj), NJ_map (y :: l) (fun a ha b hb => h a (by simp [ha]) b (by simp [hb])) hn.2⟩
section
variable {M : List S34} {V : Int → Bool}
theorem q_at {i : Int} (h0 : 0 ≤ i) (h1 : i < (M.length : Int)) (hv : V i = true) : cntI V i < ((optG M V).length : Int) ∧ rd_T34 (optG M V) (cntI V i) = ren V (rd_T34 M i) := by
  obtain ⟨a, rfl⟩ : ∃ a : Nat, i = (a : Int) := ⟨i.toNat, by omega⟩
  have h := idx_at V a hv M.length (by omega)
  have hl := (List.getElem?_eq_some_iff.1 h).1
  unfold cntI
  rw [Int.toNat_natCast]
  refine ⟨by unfold optG; rw [List.length_map]; omega, ?_⟩
  unfold rd_T34 optG
  rw [Int.toNat_natCast, List.getD_eq_getElem?_getD, List.getElem?_map, h]
  rfl
theorem q_of {p : Int} (h0 : 0 ≤ p) (h1 : p < ((optG M V).length : Int)) : ∃ i : Int, 0 ≤ i ∧ i < (M.length : Int) ∧ V i = true ∧ cntI V i = p := by
  unfold optG at h1
  rw [List.length_map] at h1
  obtain ⟨i, a, b, c⟩ := idx_of V M.length p.toNat (by omega)
  refine ⟨(i : Int), by omega, by omega, b, ?_⟩
  unfold cntI
  rw [Int.toNat_natCast, c]
  omega
theorem q_chd {i : Int} (h0 : 0 ≤ i) (h1 : i < (M.length : Int)) (hv : V i = true) {c' : Int} : Chd (optG M V) (cntI V i) c' ↔ ∃ c, Chd M i c ∧ c' = cntI V c := by
  unfold Chd
  rw [(q_at h0 h1 hv).2]
  constructor
  · rintro (⟨j, hj, rfl⟩ | ⟨j, hj, rfl⟩)
    · have hj' : j < (rd_T34 M i).f4.length := by simpa [ren] using hj
      exact ⟨_, .inl ⟨j, hj', rfl⟩, rdI_map _ _ j hj'⟩
    · have hj' : j < (rd_T34 M i).f3.length := by simpa [ren] using hj
      refine ⟨_, .inr ⟨j, hj', rfl⟩, ?_⟩
      show (rd_T36 ((rd_T34 M i).f3.map (renE V)) (j : Int)).f2 = _
      simp [rd_T36, List.getD, hj', renE]
  · rintro ⟨c, hc | hc, rfl⟩
    · obtain ⟨j, hj, rfl⟩ := hc
      exact .inl ⟨j, by simpa [ren] using hj, rdI_map _ _ j hj⟩
    · obtain ⟨j, hj, rfl⟩ := hc
      refine .inr ⟨j, by simpa [ren] using hj, ?_⟩
      show (rd_T36 ((rd_T34 M i).f3.map (renE V)) (j : Int)).f2 = _
      simp [rd_T36, List.getD, hj, renE]
theorem mem_chd3 {i : Int} {e : S36} (he : e ∈ (rd_T34 M i).f3) : Chd M i e.f2 := by
  obtain ⟨j, hj, rfl⟩ := mem_rd he
  exact .inr ⟨j, hj, rfl⟩
theorem q_full (hG : AllGood M) (hV : ∀ i c : Int, 0 ≤ i → i < (M.length : Int) → V i = true → Chd M i c → V c = true) {c : Int} (h0 : 0 ≤ c) (h1 : c < (M.length : Int)) (hv : V c = true) (h : Full (optG M V) (cntI V c)) : Full M c := by
  unfold Full at h ⊢
  rw [(q_at h0 h1 hv).2] at h
  obtain ⟨hf, e', he, e3, e1⟩ := h
  have hf' : (rd_T34 M c).f0 = 3 := hf
  have he' : (rd_T34 M c).f3.map (renE V) = [e'] := he
  have hl : (rd_T34 M c).f3.length = 1 := by rw [← List.length_map (renE V), he']; rfl
  obtain ⟨e, hee⟩ := List.length_eq_one_iff.1 hl
  rw [hee] at he'
  obtain rfl : renE V e = e' := by simpa using he'
  have hin := ((hG c h0 h1).c hf').2.1 e (by rw [hee]; simp)
  have hve := hV c e.f2 h0 h1 hv (mem_chd3 (by rw [hee]; simp))
  have hb := hin.1.2.1
  have e1' : e.f1 = (rd_T34 (optG M V) (cntI V e.f2)).f1 := e1
  rw [(q_at hin.1.1 (by omega) hve).2] at e1'
  exact ⟨hf', e, hee, e3, e1'⟩
theorem q_good (hG : AllGood M) (hV : ∀ i c : Int, 0 ≤ i → i < (M.length : Int) → V i = true → Chd M i c → V c = true) : AllGood (optG M V) := by
  intro p p0 p1
  obtain ⟨i, i0, i1, hv, rfl⟩ := q_of p0 p1
  have h := hG i i0 i1
  have hq := (q_at i0 i1 hv).2
  refine ⟨by rw [hq]; exact h.s, by rw [hq]; show (List.map _ _).length ≤ 60; rw [List.length_map]; exact h.l4, ?_, ?_⟩
  · rw [hq]
    intro hf
    obtain ⟨t1, t2, t3, t4, t5⟩ := h.c hf
    refine ⟨tile_map (g := renE V) (fun _ => rfl) (fun _ => rfl) _ _ _ t1, fun e' he' => ?_, NJ_map _ (fun x hx y hy hj => ?_) t3, by show List.map _ _ = []; rw [t4]; rfl, t5⟩
    · obtain ⟨e, he, rfl⟩ := List.mem_map.1 (show e' ∈ (rd_T34 M i).f3.map (renE V) from he')
      obtain ⟨⟨a0, a1, a2, a3, a4⟩, a5⟩ := t2 e he
      have hve := hV i e.f2 i0 i1 hv (mem_chd3 he)
      have hqe := q_at (M := M) (V := V) a0 (by omega) hve
      refine ⟨⟨cntI_nn V _, cntI_lt V a0 a1 hve, a2, a3, ?_⟩, ?_⟩
      · show e.f3 + e.f1 ≤ (rd_T34 (optG M V) (cntI V e.f2)).f1
        rw [hqe.2]
        exact a4
      · show (rd_T34 (optG M V) (cntI V e.f2)).f0 ≠ 3
        rw [hqe.2]
        exact a5
    · have h1 := (t2 x hx).1.1
      have h2 := (t2 y hy).1.1
      exact ⟨cntI_inj V h1 h2 (hV i x.f2 i0 i1 hv (mem_chd3 hx)) (hV i y.f2 i0 i1 hv (mem_chd3 hy)) hj.1, hj.2⟩
  · rw [hq]
    intro hf
    obtain ⟨t1, t2, t3⟩ := h.o hf
    refine ⟨by show List.map _ _ = []; rw [t1]; rfl, fun j hj => ?_, fun j hj hF => ?_⟩
    · have hj' : j < (rd_T34 M i).f4.length := by simpa [ren] using hj
      have e := rdI_map (cntI V) (rd_T34 M i).f4 j hj'
      show 0 ≤ rd ((rd_T34 M i).f4.map (cntI V)) (j : Int) ∧ rd ((rd_T34 M i).f4.map (cntI V)) (j : Int) < _
      rw [e]
      exact ⟨cntI_nn V _, cntI_lt V (t2 j hj').1 (t2 j hj').2 (hV i _ i0 i1 hv (.inl ⟨j, hj', rfl⟩))⟩
    · have hj' : j < (rd_T34 M i).f4.length := by simpa [ren] using hj
      have e := rdI_map (cntI V) (rd_T34 M i).f4 j hj'
      have hF' : Full (optG M V) (rd ((rd_T34 M i).f4.map (cntI V)) (j : Int)) := hF
      rw [e] at hF'
      exact t3 j hj' (q_full hG hV (t2 j hj').1 (by have := (t2 j hj').2; omega) (hV i _ i0 i1 hv (.inl ⟨j, hj', rfl⟩)) hF')
end
theorem rch_last {L : List S34} {r i : Int} (h : Rch L r i) : i = r ∨ ∃ j, Rch L r j ∧ Chd L j i := by
  induction h with
  | refl i => exact .inl rfl
  | step hc _ ih =>
    rcases ih with rfl | ⟨j, hj, hc'⟩
    · exact .inr ⟨_, .refl _, hc⟩
    · exact .inr ⟨j, .step hc hj, hc'⟩
/-- What Optimize leaves. -/
structure QOk (q : List S34) (qr : Int) : Prop where
  n0 : 1 ≤ q.length
  n1 : q.length ≤ 1000
  r0 : 0 ≤ qr
  r1 : qr < (q.length : Int)
  g : AllGood q
  f : ∀ i : Int, 0 ≤ i → i < (q.length : Int) → ¬ Full q i
  p : ∀ i : Int, 0 ≤ i → i < (q.length : Int) → i ≠ qr → ∃ j, i < j ∧ j < (q.length : Int) ∧ Chd q j i
  rc : ∀ i : Int, 0 ≤ i → i < (q.length : Int) → Rch q qr i
  l8 : ∀ i : Int, 0 ≤ i → i < (q.length : Int) → (rd_T34 q i).f8.length ≤ 32 ∧ (rd_T34 q i).f9.length ≤ 32
theorem opt1_keep (L : List S34) : ∀ n : Nat, n ≤ L.length → ∀ j : Int, 0 ≤ j → j < (n : Int) → (rd_T34 (opt1 (L.take n)).1 j).f8 = (rd_T34 L j).f8 ∧ (rd_T34 (opt1 (L.take n)).1 j).f9 = (rd_T34 L j).f9
  | 0, _, j, h0, h1 => by omega
  | n + 1, h, j, h0, h1 => by
    rw [opt1_snoc L n h]
    have hl : ((opt1 (L.take n)).1).length = n := by rw [(opt1_len _).1, List.length_take]; omega
    show (rd_T34 ((opt1 (L.take n)).1 ++ [_]) j).f8 = _ ∧ (rd_T34 ((opt1 (L.take n)).1 ++ [_]) j).f9 = _
    by_cases hj : j < (n : Int)
    · rw [rdT_app _ _ j (by rw [hl]; exact hj) h0]
      exact opt1_keep L n (by omega) j h0 hj
    · obtain rfl : j = (n : Int) := by omega
      have e : rd_T34 ((opt1 (L.take n)).1 ++ [newT (opt1 (L.take n)) (rd_T34 L (n : Int))]) (n : Int) = newT (opt1 (L.take n)) (rd_T34 L (n : Int)) := by
        have := rdT_new (opt1 (L.take n)).1 (newT (opt1 (L.take n)) (rd_T34 L (n : Int)))
        rw [hl] at this
        exact this
      rw [e]
      unfold newT
      split <;> exact ⟨rfl, rfl⟩
theorem q_ok {L : List S34} {root : Int} (hb : BdOk L root) : QOk (optL L root) (optR L root) ∧ (optL L root).length ≤ L.length := by
  have hI := Inv.all (.of hb) L.length (Nat.le_refl _)
  have hk := opt1_keep L L.length (Nat.le_refl _)
  rw [List.take_length] at hI hk
  have hr := hb.2.2
  obtain ⟨r0, rle, hrs, hrF⟩ := hI.pl root hr.2.1 hr.2.2.1
  have hrN : rd (opt1 L).2 root < ((opt1 L).1.length : Int) := by have := hr.2.2.1; rw [hI.lm]; omega
  have hD := hI.g.down
  have hVc : ∀ i c : Int, 0 ≤ i → i < ((opt1 L).1.length : Int) → optV L root i = true → Chd (opt1 L).1 i c → optV L root c = true := fun i c _ _ hv hc => liveV_clo hv hc
  have hVr : optV L root (rd (opt1 L).2 root) = true := (liveV_iff _ _ _).2 (.refl _)
  have hlen : (optG (opt1 L).1 (optV L root)).length ≤ L.length := by
    unfold optG
    rw [List.length_map, idxV_len, hI.lm]
    exact cnt_le _ _
  have hqr := q_at r0 hrN hVr
  have hlive : ∀ i : Int, optV L root i = true → Rch (opt1 L).1 (rd (opt1 L).2 root) i := fun i h => (liveV_iff _ _ _).1 h
  have hrch : ∀ i : Int, Rch (opt1 L).1 (rd (opt1 L).2 root) i → Rch (optG (opt1 L).1 (optV L root)) (cntI (optV L root) (rd (opt1 L).2 root)) (cntI (optV L root) i) := by
    have key : ∀ a i : Int, Rch (opt1 L).1 a i → 0 ≤ a → a < ((opt1 L).1.length : Int) → optV L root a = true → Rch (optG (opt1 L).1 (optV L root)) (cntI (optV L root) a) (cntI (optV L root) i) := by
      intro a i h
      induction h with
      | refl i => intro _ _ _; exact .refl _
      | step hc _ ih =>
        intro a0 a1 av
        have h2 := hD _ a0 a1 _ hc
        exact .step ((q_chd a0 a1 av).2 ⟨_, hc, rfl⟩) (ih h2.1 (by omega) (hVc _ _ a0 a1 av hc))
    exact fun i h => key _ i h r0 hrN hVr
  unfold optL optR
  refine ⟨⟨?_, by have := hb.1; omega, cntI_nn _ _, hqr.1, q_good hI.g hVc, fun p p0 p1 => ?_, fun p p0 p1 hp => ?_, fun p p0 p1 => ?_, fun p p0 p1 => ?_⟩, hlen⟩
  · have := cntI_nn (optV L root) (rd (opt1 L).2 root)
    have := hqr.1
    omega
  · obtain ⟨i, i0, i1, hv, rfl⟩ := q_of p0 p1
    intro hF
    have hF' := q_full hI.g hVc i0 i1 hv hF
    rcases rch_last (hlive i hv) with rfl | ⟨j, hj, hc⟩
    · exact hrF hF'
    · have hj2 := hj.le hD r0 hrN
      exact hI.g.tight hj2.1 (by omega) hc hF'
  · obtain ⟨i, i0, i1, hv, rfl⟩ := q_of p0 p1
    rcases rch_last (hlive i hv) with rfl | ⟨j, hj, hc⟩
    · exact absurd rfl hp
    · have hj2 := hj.le hD r0 hrN
      have hvj : optV L root j = true := (liveV_iff _ _ _).2 hj
      have hij := (hD j hj2.1 (by omega) _ hc).2
      exact ⟨cntI (optV L root) j, cntI_lt _ i0 hij hv, (q_at hj2.1 (by omega) hvj).1, (q_chd hj2.1 (by omega) hvj).2 ⟨_, hc, rfl⟩⟩
  · obtain ⟨i, i0, i1, hv, rfl⟩ := q_of p0 p1
    exact hrch i (hlive i hv)
  · obtain ⟨i, i0, i1, hv, rfl⟩ := q_of p0 p1
    rw [(q_at i0 i1 hv).2]
    have hiL : i < (L.length : Int) := by have := hI.lm; omega
    have h2 := hk i i0 hiL
    have h3 := (hr.2.2.2 i i0 hiL).2.2.2
    show (rd_T34 (opt1 L).1 i).f8.length ≤ 32 ∧ (rd_T34 (opt1 L).1 i).f9.length ≤ 32
    rw [h2.1, h2.2]
    exact h3
/-! done again, nothing changes -/
def ids (n : Nat) : List Int := (List.range n).map (fun i : Nat => (i : Int))
theorem ids_len (n : Nat) : (ids n).length = n := by unfold ids; rw [List.length_map, List.length_range]
theorem ids_succ (n : Nat) : ids (n + 1) = ids n ++ [(n : Int)] := by unfold ids; rw [List.range_succ, List.map_append]; rfl
theorem ids_rd (n : Nat) {k : Int} (h0 : 0 ≤ k) (h1 : k < (n : Int)) : rd (ids n) k = k := by
  have hk : k.toNat < n := by omega
  simp [rd, ids, List.getD, hk]
  omega
theorem rdT_take (q : List S34) (n : Nat) (k : Int) (h1 : k < (n : Int)) (h0 : 0 ≤ k) : rd_T34 (q.take n) k = rd_T34 q k := by
  unfold rd_T34
  rw [List.getD_eq_getElem?_getD, List.getElem?_take, if_pos (by omega), List.getD_eq_getElem?_getD]
theorem map_id {ks : List Int} {f : Int → Int} (h : ∀ q : Nat, q < ks.length → f (rd ks (q : Int)) = rd ks (q : Int)) : ks.map f = ks := by
  apply List.ext_getElem?
  intro i
  rw [List.getElem?_map]
  by_cases hi : i < ks.length
  · rw [List.getElem?_eq_getElem hi]
    have := h i hi
    have e : rd ks (i : Int) = ks[i] := by simp [rd, List.getD, hi]
    rw [e] at this
    simp [this]
  · rw [List.getElem?_eq_none (by omega)]
    rfl
section
variable {q : List S34} {qr : Int} (hq : QOk q qr)
include hq
theorem again_addE {n : Nat} (hn : n < q.length) (hf : (rd_T34 q (n : Int)).f0 = 3) : addE (q.take n) (ids n) (rd_T34 q (n : Int)).f3 = (rd_T34 q (n : Int)).f3 := by
  obtain ⟨_, t2, t3, _, _⟩ := (hq.g (n : Int) (by omega) (by omega)).c hf
  have key : ∀ (es l : List S36), (∀ e ∈ es, EIn q n e) → es.foldl (fun l x => (fuseL (q.take n) (kidE (ids n) x)).foldl joinStep l) l = es.foldl joinStep l := by
    intro es
    induction es with
    | nil => intro l _; rfl
    | cons e es ih =>
      intro l h
      obtain ⟨⟨a0, a1, a2, a3, a4⟩, a5⟩ := h e (by simp)
      rw [List.foldl_cons, List.foldl_cons]
      have e1 : kidE (ids n) e = e := by
        unfold kidE
        rw [ids_rd n a0 a1]
      have e2 : fuseL (q.take n) e = [e] := by
        unfold fuseL
        rw [rdT_take q n e.f2 a1 a0, if_neg a5]
      rw [e1, e2]
      exact ih _ (fun x hx => h x (by simp [hx]))
  unfold addE
  rw [key _ _ t2, join_same _ [] t3 (fun l' z y ys' e _ => by simp at e)]
  rfl
theorem again_opt1 : ∀ n : Nat, n ≤ q.length → opt1 (q.take n) = (q.take n, ids n)
  | 0, _ => rfl
  | n + 1, h => by
    rw [opt1_snoc q n h, again_opt1 n (by omega)]
    have hg := hq.g (n : Int) (by omega) (by omega)
    have hF := hq.f (n : Int) (by omega) (by omega)
    have hE := fun hf => again_addE hq (n := n) h hf
    have hlt : (q.take n).length = n := by rw [List.length_take]; omega
    have hT : newT (q.take n, ids n) (rd_T34 q (n : Int)) = rd_T34 q (n : Int) := by
      unfold newT
      by_cases hf : (rd_T34 q (n : Int)).f0 = 3
      · rw [if_pos hf, hE hf, (hg.c hf).2.2.2.1]
        have h4 := (hg.c hf).2.2.2.1
        generalize rd_T34 q (n : Int) = t at *
        obtain ⟨a0, a1, a2, a3, a4, a5, a6, a7, a8, a9⟩ := t
        simp only at h4
        subst h4
        rfl
      · rw [if_neg hf]
        have h4 : (rd_T34 q (n : Int)).f4.map (rd (ids n)) = (rd_T34 q (n : Int)).f4 := map_id (fun j hj => by
          have := (hg.o hf).2.1 j hj
          exact ids_rd n this.1 this.2)
        rw [h4]
    have hP : newP (q.take n, ids n) (rd_T34 q (n : Int)) = (n : Int) := by
      unfold newP
      by_cases hf : (rd_T34 q (n : Int)).f0 = 3
      · rw [if_pos hf, hE hf]
        rcases atL_cases (q.take n) (rd_T34 q (n : Int)).f3 with h' | ⟨e, he, e3, e1, _⟩
        · rw [h'.1, hlt]
        · have hin := ((hg.c hf).2.1 e (by rw [he]; simp)).1
          rw [rdT_take q n e.f2 hin.2.1 hin.1] at e1
          exact absurd ⟨hf, e, he, e3, e1⟩ hF
      · rw [if_neg hf]
        show ((q.take n).length : Int) = _
        rw [hlt]
    unfold addS
    rw [hT, hP, ids_succ]
    show (q.take n ++ [rd_T34 q (n : Int)], _) = _
    have e : rd_T34 q (n : Int) = q[n] := by simp [rd_T34, List.getD, show n < q.length from h]
    rw [e, ← List.take_succ_eq_append_getElem h]
theorem again_full : opt1 q = (q, ids q.length) := by
  have := again_opt1 hq q.length (Nat.le_refl _)
  rwa [List.take_length] at this
theorem again_root : rd (ids q.length) qr = qr := ids_rd _ hq.r0 hq.r1
theorem again_V : ∀ k : Int, 0 ≤ k → k < (q.length : Int) → optV q qr k = true := by
  intro k k0 k1
  unfold optV
  rw [again_full hq]
  show liveV q (rd (ids q.length) qr) k = true
  rw [again_root hq]
  exact (liveV_iff _ _ _).2 (hq.rc k k0 k1)
theorem again_idx : ∀ n : Nat, n ≤ q.length → idxV (optV q qr) n = List.range n
  | 0, _ => rfl
  | n + 1, h => by
    rw [idxV_succ, if_pos (again_V hq _ (by omega) (by omega)), again_idx n (by omega), List.range_succ]
theorem again_cnt {k : Int} (h0 : 0 ≤ k) (h1 : k ≤ (q.length : Int)) : cntI (optV q qr) k = k := by
  unfold cntI
  rw [← idxV_len, again_idx hq k.toNat (by omega), List.length_range]
  omega
theorem again_L : optL q qr = q ∧ optR q qr = qr := by
  constructor
  · unfold optL
    rw [again_full hq]
    show optG q (optV q qr) = q
    unfold optG
    rw [again_idx hq q.length (Nat.le_refl _)]
    apply List.ext_getElem?
    intro i
    rw [List.getElem?_map]
    by_cases hi : i < q.length
    · rw [List.getElem?_range hi, List.getElem?_eq_getElem hi]
      have hg := hq.g (i : Int) (by omega) (by omega)
      have e : rd_T34 q (i : Int) = q[i] := by simp [rd_T34, List.getD, hi]
      show some (ren (optV q qr) (rd_T34 q (i : Int))) = _
      have hr : ren (optV q qr) (rd_T34 q (i : Int)) = rd_T34 q (i : Int) := by
        have h4 : (rd_T34 q (i : Int)).f4.map (cntI (optV q qr)) = (rd_T34 q (i : Int)).f4 := map_id (fun j hj => by
          have := hg.kids4 (show rd (rd_T34 q (i : Int)).f4 (j : Int) ∈ _ from by
            have e2 : rd (rd_T34 q (i : Int)).f4 (j : Int) = (rd_T34 q (i : Int)).f4[j] := by simp [rd, List.getD, hj]
            rw [e2]
            exact List.getElem_mem hj)
          exact again_cnt hq this.1 (by omega))
        have h3 : (rd_T34 q (i : Int)).f3.map (renE (optV q qr)) = (rd_T34 q (i : Int)).f3 := by
          have : (rd_T34 q (i : Int)).f3.map (renE (optV q qr)) = (rd_T34 q (i : Int)).f3.map (fun e => e) := List.map_congr_left (fun e he => by
            have := hg.kids3 he
            unfold renE
            rw [again_cnt hq this.1 (by omega)])
          rw [this, List.map_id']
        unfold ren
        rw [h4, h3]
      rw [hr, e]
    · rw [List.getElem?_eq_none (by rw [List.length_range]; omega), List.getElem?_eq_none (by omega)]
      rfl
  · unfold optR
    rw [again_full hq]
    show cntI (optV q qr) (rd (ids q.length) qr) = qr
    rw [again_root hq, again_cnt hq hq.r0 (by have := hq.r1; omega)]
theorem again_l3 (n : Nat) (p : Int) : (rd_T34 (q.take n) p).f3.length ≤ 8192 ∧ ∀ j : Nat, j < (rd_T34 (q.take n) p).f3.length → exOk (rd_T36 (rd_T34 (q.take n) p).f3 (j : Int)) := by
  rw [rdT_nat]
  by_cases hp : p.toNat < (q.take n).length
  · rw [List.length_take] at hp
    rw [rdT_take q n _ (by omega) (by omega)]
    exact ⟨hq.g.l3 _, fun j hj => hq.g.ex _ j hj⟩
  · rw [rdT_out _ _ (by omega)]
    exact ⟨by simp [z34], fun j hj => by simp [z34] at hj⟩
theorem again_ok : PlanOk q qr := by
  have hn := hq.n1
  have hr := hq.r1
  refine ⟨hq.n1, hq.r0, hq.r1, fun i hi => ?_, ?_, ?_, ?_, ?_, ?_⟩
  · rw [again_opt1 hq i (by omega)]
    have hg := hq.g (i : Int) (by omega) (by omega)
    have hlt : ((q.take i).length : Int) = (i : Int) := by rw [List.length_take]; omega
    have hli : ((ids i).length : Int) = (i : Int) := by rw [ids_len]
    show AddOk (q.take i) (ids i) (rd_T34 q (i : Int))
    refine ⟨Nat.le_trans hg.l4 (by omega), fun j hj => ?_, fun p => Nat.le_trans (again_l3 hq i p).1 (by omega), fun p j hj => (again_l3 hq i p).2 j hj, Nat.le_trans (hq.g.l3 _) (by omega), fun j hj => ?_, fun hf => ?_, fun hf => (hg.o hf).1⟩
    · rw [hli]
      by_cases hf : (rd_T34 q (i : Int)).f0 = 3
      · rw [(hg.c hf).2.2.2.1] at hj
        cases hj
      · exact (hg.o hf).2.1 j hj
    · have hk := hg.kids3 (rd_mem _ j hj)
      refine ⟨hq.g.ex _ j hj, hk.1, by rw [hli]; exact hk.2, ?_, ?_⟩
      · rw [ids_rd i hk.1 hk.2]
        exact hk.1
      · rw [ids_rd i hk.1 hk.2, hlt]
        exact hk.2
    · rw [again_addE hq hi hf]
      refine ⟨?_, fun e he => ?_⟩
      · rcases Nat.eq_zero_or_pos (rd_T34 q (i : Int)).f3.length with h | h
        · have ht := (hg.c hf).1
          rw [List.length_eq_zero_iff.1 h] at ht
          have h1 : (0 : Int) = (rd_T34 q (i : Int)).f1 := ht
          have := hg.s
          omega
        · exact h
      · have hk := hg.kids3 he
        rw [hlt]
        exact hk
  · rw [again_full hq]
    exact hq.g.down
  · rw [again_full hq]
    show 0 ≤ rd (ids q.length) qr
    rw [again_root hq]
    exact hq.r0
  · rw [again_full hq]
    show rd (ids q.length) qr < _
    rw [again_root hq]
    exact hq.r1
  · intro p
    rw [again_full hq]
    exact Nat.le_trans (hq.g.l4 p) (by omega)
  · intro p
    rw [again_full hq]
    exact Nat.le_trans (hq.g.l3 p) (by omega)
theorem again_lens : Lens q := by
  refine ⟨hq.n1, fun p p0 p1 => ⟨Nat.le_trans (hq.g.l3 p) (by omega), Nat.le_trans (hq.g.l4 p) (by omega), ?_, ?_⟩⟩
  · have := (hq.l8 p p0 p1).1; omega
  · have := (hq.l8 p p0 p1).2; omega
end
end Go.Proofs.Ytneglmnffdmbiaa.P
