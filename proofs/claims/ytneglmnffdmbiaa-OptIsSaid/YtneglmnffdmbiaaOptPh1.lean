import Derived.Test.YtneglmnffdmbiaaOptRows
namespace Go.Proofs.Ytneglmnffdmbiaa.P
open Go.RowKit Go.Proofs.YtneglmnffdmbiaaW.PrintWords Go.Proofs.YtneglmnffdmbiaaW.PrintLast Go.Proofs.YtneglmnffdmbiaaW.PrintMore
set_option linter.unusedVariables false
set_option linter.unusedSimpArgs false

/-- One more step gone through. -/
def newT (s : List S34 × List Int) (t : S34) : S34 := if t.f0 = 3 then { t with f3 := addE s.1 s.2 t.f3, f4 := t.f4.map (rd s.2) } else { t with f4 := t.f4.map (rd s.2) }
def newP (s : List S34 × List Int) (t : S34) : Int := if t.f0 = 3 then atL s.1 (addE s.1 s.2 t.f3) else (s.1.length : Int)
def addS (s : List S34 × List Int) (t : S34) : List S34 × List Int := (s.1 ++ [newT s t], s.2 ++ [newP s t])
def opt1 (L0 : List S34) : List S34 × List Int := L0.foldl addS ([], [])
theorem opt1_snoc (L0 : List S34) (i : Nat) (hi : i < L0.length) : opt1 (L0.take (i + 1)) = addS (opt1 (L0.take i)) (rd_T34 L0 (i : Int)) := by
  have e : rd_T34 L0 (i : Int) = L0[i] := by simp [rd_T34, List.getD, hi]
  unfold opt1
  rw [List.take_succ_eq_append_getElem hi, List.foldl_append, e]
  rfl
theorem foldS_len : ∀ (L0 : List S34) (s : List S34 × List Int), (L0.foldl addS s).1.length = s.1.length + L0.length ∧ (L0.foldl addS s).2.length = s.2.length + L0.length
  | [], s => ⟨rfl, rfl⟩
  | t :: L0, s => by
    have h := foldS_len L0 (addS s t)
    rw [List.foldl_cons, h.1, h.2]
    simp [addS]
    omega
theorem opt1_len (L0 : List S34) : (opt1 L0).1.length = L0.length ∧ (opt1 L0).2.length = L0.length := by
  have := foldS_len L0 ([], [])
  simpa [opt1] using this
/-- What opt.add asks of a step. -/
structure AddOk (L : List S34) (P : List Int) (t : S34) : Prop where
  l4 : t.f4.length ≤ 100000
  k : ∀ i : Nat, i < t.f4.length → 0 ≤ rd t.f4 (i : Int) ∧ rd t.f4 (i : Int) < (P.length : Int)
  Ll : ∀ p : Int, (rd_T34 L p).f3.length ≤ 100000
  Le : ∀ p : Int, ∀ j : Nat, j < (rd_T34 L p).f3.length → exOk (rd_T36 (rd_T34 L p).f3 j)
  l3 : t.f3.length ≤ 100000
  e : ∀ i : Nat, i < t.f3.length → exOk (rd_T36 t.f3 i) ∧ 0 ≤ (rd_T36 t.f3 i).f2 ∧ (rd_T36 t.f3 i).f2 < (P.length : Int) ∧ 0 ≤ rd P (rd_T36 t.f3 i).f2 ∧ rd P (rd_T36 t.f3 i).f2 < (L.length : Int)
  ne : t.f0 = 3 → 0 < (addE L P t.f3).length ∧ ∀ e ∈ addE L P t.f3, 0 ≤ e.f2 ∧ e.f2 < (L.length : Int)
  n3 : t.f0 ≠ 3 → t.f3 = []
/-- The optimizer and what it has gone through. -/
structure OptS (w0 : World) (o : Nat) (W : World) (ps : List (S34 × Lie)) (P : List Int) (sv pv : Value) : Prop where
  at_ : W.heap[o]? = some (.cells #[sv, pv] 41 (0, 0))
  cs : OwnRow CellsOf 34 10 W w0.heap.size sv ps
  pl : W.ownsRow w0.heap.size 3 1 pv P.length (nums .i64 P)
  st : StepsW W w0.heap.size ps
  key : ∀ p ∈ ps, KeyAt w0 p.1 p.2
  nep : ∀ p ∈ ps, NeRow pv p.2.kv
  bel : Below w0.heap.size w0 W

theorem add_step {w0 : World} {o : Nat} {W : World} {ps : List (S34 × Lie)} {P : List Int} {sv pv : Value} (h : OptS w0 o W ps P sv pv) (hbo : w0.heap.size ≤ o) (t : S34) (A3 : Option Addr) (c3 : Nat) (A4 : Option Addr) (c4 : Nat) (A8 : Option Addr) (c8 : Nat) (A9 : Option Addr) (c9 : Nat)
    (h3 : Kd.C k36 w0 A3 t.f3.length t.f3) (l3 : t.f3.length ≤ c3) (h4 : Kd.C (Kd.int .i64) w0 A4 t.f4.length t.f4) (l4 : t.f4.length ≤ c4) (h8 : Kd.C (Kd.int .u8) w0 A8 t.f8.length t.f8) (l8 : t.f8.length ≤ c8) (h9 : Kd.C (Kd.int .u8) w0 A9 t.f9.length t.f9) (l9 : t.f9.length ≤ c9)
    (hn : ps.length ≤ 100000) (hP : P.length ≤ 100000) (ok : AddOk (ps.map Prod.fst) P t) :
    Calls Try.prog 14 #[.pointer (some ⟨o, 0, none⟩), .agg #[.int .i64 t.f0, .int .i64 t.f1, .int .i64 t.f2, .slice A3 t.f3.length c3, .slice A4 t.f4.length c4, .int .i64 t.f5, .int .i64 t.f6, .int .i64 t.f7, .slice A8 t.f8.length c8, .slice A9 t.f9.length c9]] W fun e W' => e = .returned (.tuple #[]) ∧ ∃ (sv1 pv1 : Value) (r : Lie), OptS w0 o W' (ps ++ [(newT (ps.map Prod.fst, P) t, r)]) (P ++ [newP (ps.map Prod.fst, P) t]) sv1 pv1
      ∧ (∀ k, k < W.heap.size → k ≠ o → (∀ cells q, W.heap[k]? = some (.cells cells q (0, 0)) → q ≠ 3 ∧ q ≠ 34) → W'.heap[k]? = W.heap[k]?) := by
  obtain ⟨A, c, rfl, hlc, hC⟩ := h.st.C (fun p hp => (h.key p hp).below h.bel) h.cs
  obtain ⟨inner, ho, hr⟩ := h.cs
  obtain ⟨Ap, cp, rfl⟩ := own_slice h.pl
  have hlen : (ps.map Prod.fst).length = ps.length := List.length_map _
  have hox : o < W.heap.size := blk_lt h.at_
  have key := add_calls o A c (ps.map Prod.fst) Ap cp P inner t A3 c3 A4 c4 (.slice A8 t.f8.length c8) (.slice A9 t.f9.length c9) w0.heap.size W ⟨by rw [hlen]; exact h.at_⟩ hbo h.bel.size (by rw [hlen]; exact hC) (by rw [hlen]; exact ho) h.pl (Kd.C_below h3 h.bel) l3 (Kd.C_below h4 h.bel) l4 ok.l4 rfl rfl (by rw [hlen]; exact hn) hP (by omega) ok.k ok.Ll ok.Le ok.l3 ok.e ok.ne
  refine key.mono ?_
  rintro e W' ⟨rfl, sv1, pv1, at_, ev, Ak, ck, HA, hat, hnc⟩
  rw [hlen] at HA
  have hat_ : at_ = newP (ps.map Prod.fst, P) t := by
    unfold newP
    by_cases h0 : t.f0 = 3
    · rw [if_pos h0]; exact hat h0
    · rw [if_neg h0]; exact (hnc h0).2
  have hsz := HA.sz
  have chg : ∀ p ∈ ps, ∀ k, Owns p k → w0.heap.size ≤ k → k < W.heap.size → W'.heap[k]? = W.heap[k]? := by
    intro p hp k hok _ hlt
    obtain ⟨j, hj⟩ := List.mem_iff_getElem?.1 hp
    obtain ⟨_, _, cells, q, hc, hq⟩ := (h.st.row j p hj).lt hok
    refine HA.chg k hlt (fun e_ => ?_) (fun e_ => ?_) (fun e_ => ?_)
    · subst e_
      rw [h.at_] at hc
      injection hc with hc
      injection hc with _ hc
      rcases hq with rfl | rfl <;> exact absurd hc (by decide)
    · have := own_ne ho hc (by rcases hq with rfl | rfl <;> decide)
      exact this e_
    · rcases hok with hok | ⟨h30, hok⟩
      · exact h.nep p hp k e_.symm hok
      · obtain ⟨cells2, hc2⟩ := own_typed ((h.st.row j p hj).e h30) k hok
        exact own_ne h.pl hc2 (by decide) e_
  refine ⟨rfl, sv1, pv1, ⟨ev, .slice Ak t.f4.length ck, .slice A8 t.f8.length c8, .slice A9 t.f9.length c9⟩, ⟨HA.fo, ?_, ?_, ?_, ?_, ?_, h.bel.trans HA.bel⟩, ?_⟩
  · have e0 : sc t ev (.slice Ak t.f4.length ck) (.slice A8 t.f8.length c8) (.slice A9 t.f9.length c9) = cells1 (newT (ps.map Prod.fst, P) t, ⟨ev, .slice Ak t.f4.length ck, .slice A8 t.f8.length c8, .slice A9 t.f9.length c9⟩) := by
      unfold cells1 newT sc
      split <;> rfl
    have hfs := HA.fs
    rw [e0] at hfs
    exact cells_snoc hr hfs
  · rw [List.length_append, List.length_singleton, ← hat_]
    exact HA.fp
  · refine StepsW.snoc (h.st.move chg) ⟨?_, fun h0 => ?_, fun h0 => ?_⟩ (fun p hp => ?_)
    · have e1 : (newT (ps.map Prod.fst, P) t).f4 = t.f4.map (rd P) := by unfold newT; split <;> rfl
      rw [e1, List.length_map]
      exact own_less HA.fk (by have := h.bel.size; omega)
    · have h30 : t.f0 = 3 := by
        unfold newT at h0
        split at h0 <;> exact h0
      have e1 : (newT (ps.map Prod.fst, P) t).f3 = addE (ps.map Prod.fst) P t.f3 := by unfold newT; rw [if_pos h30]
      rw [e1]
      exact own_less (HA.fe h30) (by have := h.bel.size; omega)
    · have h30 : t.f0 ≠ 3 := by
        intro h30
        apply h0
        unfold newT
        rw [if_pos h30]
        exact h30
      have e1 : (newT (ps.map Prod.fst, P) t).f3 = t.f3 := by unfold newT; rw [if_neg h30]
      rw [e1, (hnc h30).1, ok.n3 h30]
      exact ⟨rfl, A3, c3, rfl⟩
    · obtain ⟨j, hj⟩ := List.mem_iff_getElem?.1 hp
      refine ⟨fun k hk hk' => ?_, fun h1 h2 k hk hk' => ?_⟩
      · have e1 := ((h.st.row j p hj).lt (.inl hk)).2.1
        have e2 := own_base HA.fk k hk'
        omega
      · have h30 : t.f0 = 3 := by
          unfold newT at h2
          split at h2 <;> exact h2
        have e1 := ((h.st.row j p hj).lt (.inr ⟨h1, hk⟩)).2.1
        have e2 := own_base (HA.fe h30) k hk'
        omega
  · intro p hp
    rcases List.mem_append.1 hp with hp | hp
    · exact h.key p hp
    · obtain rfl : p = _ := List.mem_singleton.1 hp
      refine ⟨A8, c8, A9, c9, ?_⟩
      have e8 : (newT (ps.map Prod.fst, P) t).f8 = t.f8 := by unfold newT; split <;> rfl
      have e9 : (newT (ps.map Prod.fst, P) t).f9 = t.f9 := by unfold newT; split <;> rfl
      rw [e8, e9]
      exact ⟨rfl, l8, h8, rfl, l9, h9⟩
  · intro p hp
    rcases List.mem_append.1 hp with hp | hp
    · intro k hk hk'
      obtain ⟨j, hj⟩ := List.mem_iff_getElem?.1 hp
      have e1 := ((h.st.row j p hj).lt (.inl hk')).2.1
      rcases HA.pb with hpb | ⟨b, hb, hle⟩
      · rw [hpb] at hk
        exact h.nep p hp k hk hk'
      · rw [hb] at hk
        injection hk with hk
        omega
    · obtain rfl : p = _ := List.mem_singleton.1 hp
      exact HA.nk
  · intro k hlt hko hkq
    refine HA.chg k hlt hko (fun e_ => ?_) (fun e_ => ?_)
    · obtain ⟨cells, hc⟩ := own_typed ho k e_.symm
      exact (hkq cells 34 hc).2 rfl
    · obtain ⟨cells, hc⟩ := own_typed h.pl k e_.symm
      exact (hkq cells 3 hc).1 rfl
end Go.Proofs.Ytneglmnffdmbiaa.P
