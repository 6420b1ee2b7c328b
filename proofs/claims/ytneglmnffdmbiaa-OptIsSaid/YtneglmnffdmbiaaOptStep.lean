import Derived.Test.YtneglmnffdmbiaaOptBase
namespace Go.Proofs.Ytneglmnffdmbiaa.P
open Go.RowKit Go.Proofs.YtneglmnffdmbiaaW.PrintWords Go.Proofs.YtneglmnffdmbiaaW.PrintLast Go.Proofs.YtneglmnffdmbiaaW.PrintMore
set_option linter.unusedVariables false
set_option linter.unusedSimpArgs false

section
variable {P : Program} {ops : Array Oper} {o : Oper} {a : Act} {Q : Exit → Act → World → Prop} {K : Act → World → Prop}
/-- append(v, x), the one element lying wherever it may. -/
theorem step_append_at {w0 W : World} (base : Nat) (hw : Region.wanted o (yielded ops a.tmps) = true) (s x : Operand) (t e : TypeId) (z : Value) (size bytes : Nat)
    (ho : o.op = .call { callee := .builtin .append, args := #[s, x], argTypes := #[t, t] })
    (ht : P.underlying t = some (.slice e)) (hinfo : (P.info? e).map (fun i => (i.zero, i.size, i.bytes)) = some (some z, size, bytes)) (hz : z.cells.size = size) (hs0 : 0 < size) (hb0 : 0 < bytes)
    (v : Value) (n : Nat) (xs ys : List Value) (b : Nat) (hs : a.eval s = v) (hx : a.eval x = .slice (some ⟨b, 0, none⟩) 1 1) (hys : ys.length = size) (hcell : W.heap[b]? = some (.cells ys.toArray e (0, 0))) (h1 : ∀ u ∈ ys, u.oneCell' = true)
    (HO : W.ownsRow base e size v n xs) (HB : Below base w0 W) (hbase : base ≤ W.heap.size) (hl : (n + 1) * bytes ≤ 140737488355328)
    (h : ∀ v1 w1, w1.ownsRow base e size v1 (n + 1) (xs ++ ys) → Below base w0 w1 → W.grownBy w1 v.ownBlock → (v1.ownBlock = v.ownBlock ∨ ∃ b, v1.ownBlock = some b ∧ W.heap.size ≤ b) → K (a.put o.dst v1) w1) :
    if Region.wanted o (yielded ops a.tmps) = true then Oper.wp P o a W K Q else K (a.put o.dst undef) W := by
  obtain ⟨i0, hi, hzz⟩ := Option.map_eq_some_iff.1 hinfo
  simp only [Prod.mk.injEq] at hzz
  obtain ⟨hz0, hz1, hz2⟩ := hzz
  have hlen : n + 1 ≤ 140737488355328 := Nat.le_trans (Nat.le_mul_of_pos_right _ hb0) hl
  rw [if_pos hw]
  obtain ⟨v1, w1, hr, hown, hg, _, hat⟩ := run_append_own_at (P := P) W base t o.type e i0 z size bytes ht hi hz0 hz1 hz2 hz hs0 v n xs HO ⟨b, 0, none⟩ 1 1 ys (by rw [hys]; simp)
    (by simpa using World.news_of_block (cs := ys.toArray) (t := e) (fr := (0, 0)) hcell) h1 (by simp only [maxLen]; omega) hl hbase
  unfold Oper.wp execOp
  simp only [ho, resolve, invoke, builtin, Sem.run_bind, Sem.run_pure, Result.andThen_ok, List.map_toArray, List.map_cons, List.map_nil, hs, hx, hr]
  refine h v1 w1 hown (HB.grown hg hbase (own_base HO)) hg ?_
  rcases hat with hat | hat
  · exact .inl hat
  · exact .inr ⟨_, hat, Nat.le_refl _⟩
end

section
variable {P : Program} {md : Region.Mode} {ops : Array Oper} {Q : Exit → Act → World → Prop} {S : World → Prop} {ds : List Nat}
/-- One of the last stores. -/
theorem last_store {i : Nat} {oi : Oper} {fuel : Nat} {l : Array Bool} {a : Act} {w w1 : World} (l' : Array Bool) (hi : ops[i]? = some oi) (hN : oi.dst = none) (hc : readyB md ops l l' i = true) (hd : i ∈ ds)
    (hw : Region.wanted oi (yielded ops a.tmps) = true) (hrun : (execOp a.eval oi).run P w = .ok .skip w1) (h : wpAnyLast P md ops Q S ds fuel l' a w1) : wpAnyLast P md ops Q S ds (fuel + 1) l a w :=
  last_ (N := none) l' hi hN hc hd (fun K hK => skip_ hw hN hrun (hK.out _ _ h))
end

/-- What holds at a step that is being added. -/
structure AddS (w : World) (o base : Nat) (osv opv : Value) (bcs : Array Value) (svb pvb : Option Nat) (kv ev : Value) (nk ne : Nat) (ks : List Int) (es : List Value) (pe : Prop) (W : World) (sv pv : Value) (nS nP : Nat) (CS : List Value) (Ps : List Int) : Prop where
  fo : W.heap[o]? = some (.cells #[osv, opv] 41 (0, 0))
  fb : W.heap[w.heap.size]? = some (.cells bcs 34 (0, 0))
  fs : W.ownsRow base 34 10 sv nS CS
  fp : W.ownsRow base 3 1 pv nP (nums .i64 Ps)
  fk : W.ownsRow (w.heap.size + 1) 3 1 kv nk (nums .i64 ks)
  fe : pe → W.ownsRow (w.heap.size + 1) 36 4 ev ne es
  bel : Below base w W
  sz : w.heap.size + 1 ≤ W.heap.size
  chg : ∀ k, k < w.heap.size → k ≠ o → some k ≠ svb → some k ≠ pvb → W.heap[k]? = w.heap[k]?
  nk : NeRow pv kv
  pb : pv.ownBlock = pvb ∨ ∃ b, pv.ownBlock = some b ∧ w.heap.size ≤ b
section
variable {w W w1 : World} {o base : Nat} {osv opv : Value} {bcs : Array Value} {svb pvb : Option Nat} {kv ev : Value} {nk ne : Nat} {ks : List Int} {es : List Value} {pe : Prop} {sv pv v1 : Value} {nS nP : Nat} {CS : List Value} {Ps : List Int}
theorem AddS.alloc (h : AddS w o base osv opv bcs svb pvb kv ev nk ne ks es pe W sv pv nS nP CS Ps) (hbw : base ≤ w.heap.size) (ob : Obj) : AddS w o base osv opv bcs svb pvb kv ev nk ne ks es pe (W.alloc ob) sv pv nS nP CS Ps :=
  have hb : Below W.heap.size W (W.alloc ob) := below_alloc (Below.refl _ _) _
  ⟨blk_alloc h.fo _, blk_alloc h.fb _, pw_own_below h.fs hb, pw_own_below h.fp hb, pw_own_below h.fk hb, fun hp => pw_own_below (h.fe hp) hb, h.bel.alloc (by have := h.sz; omega) _, by have := h.sz; rw [World.size_alloc]; omega,
    fun k h1 h0 h2 h3 => (hb.block k (by have := h.sz; omega)).trans (h.chg k h1 h0 h2 h3), h.nk, h.pb⟩
theorem AddS.appS (h : AddS w o base osv opv bcs svb pvb kv ev nk ne ks es pe W sv pv nS nP CS Ps) (hsv : svb = sv.ownBlock) (hlt : ∀ k, sv.ownBlock = some k → k < w.heap.size) {n2 : Nat} {CS2 : List Value} (ho1 : w1.ownsRow base 34 10 v1 n2 CS2) (hb1 : Below base w w1) (hg : W.grownBy w1 sv.ownBlock) :
    AddS w o base osv opv bcs svb pvb kv ev nk ne ks es pe w1 v1 pv n2 nP CS2 Ps := by
  have blk : ∀ {g : Nat} {ob : Obj}, W.heap[g]? = some ob → some g ≠ sv.ownBlock → w1.heap[g]? = some ob := fun hh hne => (hg.block _ (blk_lt hh) hne).trans hh
  refine ⟨blk h.fo (own_ne h.fs h.fo (by decide)), blk h.fb (fun e_ => by have := hlt _ e_.symm; omega), ho1, own_other h.fp hg (own_type_ne h.fp h.fs (by decide)), own_other h.fk hg (own_type_ne h.fk h.fs (by decide)), fun hp => own_other (h.fe hp) hg (own_type_ne (h.fe hp) h.fs (by decide)), hb1, Nat.le_trans h.sz hg.size, fun k h1 h0 h2 h3 => ?_, h.nk, h.pb⟩
  exact (hg.block k (by have := h.sz; omega) (by rw [← hsv]; exact h2)).trans (h.chg k h1 h0 h2 h3)
theorem AddS.appP (h : AddS w o base osv opv bcs svb pvb kv ev nk ne ks es pe W sv pv nS nP CS Ps) (hpv : pvb = pv.ownBlock) {n2 : Nat} {Ps2 : List Int} (ho1 : w1.ownsRow base 3 1 v1 n2 (nums .i64 Ps2)) (hb1 : Below base w w1) (hg : W.grownBy w1 pv.ownBlock) (hat : v1.ownBlock = pv.ownBlock ∨ ∃ b, v1.ownBlock = some b ∧ W.heap.size ≤ b) :
    AddS w o base osv opv bcs svb pvb kv ev nk ne ks es pe w1 sv v1 nS n2 CS Ps2 := by
  have blk : ∀ {g : Nat} {ob : Obj}, W.heap[g]? = some ob → some g ≠ pv.ownBlock → w1.heap[g]? = some ob := fun hh hne => (hg.block _ (blk_lt hh) hne).trans hh
  refine ⟨blk h.fo (own_ne h.fp h.fo (by decide)), blk h.fb (own_ne h.fp h.fb (by decide)), own_other h.fs hg (own_type_ne h.fs h.fp (by decide)), ho1, own_other h.fk hg (ne_other h.nk), fun hp => own_other (h.fe hp) hg (own_type_ne (h.fe hp) h.fp (by decide)), hb1, Nat.le_trans h.sz hg.size, fun k h1 h0 h2 h3 => ?_, ne_append h.nk hat h.fk, by
    rcases hat with hat | ⟨b, hb, hle⟩
    · rw [hat]; exact h.pb
    · exact .inr ⟨b, hb, Nat.le_trans (by have := h.sz; omega) hle⟩⟩
  exact (hg.block k (by have := h.sz; omega) (by rw [← hpv]; exact h3)).trans (h.chg k h1 h0 h2 h3)
theorem AddS.set0 (h : AddS w o base osv opv bcs svb pvb kv ev nk ne ks es pe W sv pv nS nP CS Ps) (hbo : base ≤ o) (hbx : o ≠ w.heap.size) (u : Value) : AddS w o base u opv bcs svb pvb kv ev nk ne ks es pe (W.setCell ⟨o, 0, none⟩ u) sv pv nS nP CS Ps :=
  ⟨by simpa using blk_set h.fo 0 u, blk_far h.fb (fun e_ => hbx e_.symm) u, own_setCell h.fs (own_ne h.fs h.fo (by decide)) u, own_setCell h.fp (own_ne h.fp h.fo (by decide)) u, own_setCell h.fk (own_ne h.fk h.fo (by decide)) u, fun hp => own_setCell (h.fe hp) (own_ne (h.fe hp) h.fo (by decide)) u, h.bel.setCell (show base ≤ o from hbo) u, by have := h.sz; simpa [World.setCell] using this,
    fun k h1 h0 h2 h3 => (Below.heap_setCell W ⟨o, 0, none⟩ u k h0).trans (h.chg k h1 h0 h2 h3), h.nk, h.pb⟩
theorem AddS.set1 (h : AddS w o base osv opv bcs svb pvb kv ev nk ne ks es pe W sv pv nS nP CS Ps) (hbo : base ≤ o) (hbx : o ≠ w.heap.size) (u : Value) : AddS w o base osv u bcs svb pvb kv ev nk ne ks es pe (W.setCell ⟨o, 1, none⟩ u) sv pv nS nP CS Ps :=
  ⟨by simpa using blk_set h.fo 1 u, blk_far h.fb (fun e_ => hbx e_.symm) u, own_setCell h.fs (own_ne h.fs h.fo (by decide)) u, own_setCell h.fp (own_ne h.fp h.fo (by decide)) u, own_setCell h.fk (own_ne h.fk h.fo (by decide)) u, fun hp => own_setCell (h.fe hp) (own_ne (h.fe hp) h.fo (by decide)) u, h.bel.setCell (show base ≤ o from hbo) u, by have := h.sz; simpa [World.setCell] using this,
    fun k h1 h0 h2 h3 => (Below.heap_setCell W ⟨o, 1, none⟩ u k h0).trans (h.chg k h1 h0 h2 h3), h.nk, h.pb⟩
end
end Go.Proofs.Ytneglmnffdmbiaa.P
