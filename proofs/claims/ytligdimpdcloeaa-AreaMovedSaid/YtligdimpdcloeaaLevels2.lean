import Derived.Test.YtligdimpdcloeaaLevels1
namespace Go.Proofs.Ytligdimpdcloeaa.P
open Go.RowKit Go.Shelf
attribute [local go_sem] Oper.semAt_some
set_option linter.unusedVariables false
set_option linter.unusedSimpArgs false

/-- A range over levels(n), whose iterator keeps its own number in a cell: a body that never leaves. -/
theorem range_levels (F : Fence) (n : Nat) {g : Operand} {ps : Array Tmp} {assign body : Code} {Q : Exit → Act → World → Prop} {a : Act} {w : World}
    (hro : F.round = none) (h1 : 1 ≤ n) (h2 : 1 ≤ n - 1) (Bn : Nat) (N : Int) (hg : a.eval g = .func (.func 29) #[] #[.pointer (some ⟨Bn, 0, none⟩)]) (h91 : F.fn 29)
    (hb : Boxed w Bn 3 (.int .i64 N)) (hps : ps.size = 2) (I : List (Nat × Nat) → World → Prop)
    (hIset : ∀ pre W (v : Int), I pre W → I pre (W.setCell ⟨Bn, 0, none⟩ (.int .i64 v)))
    (hIput : ∀ pre W (l : Nat) (o o' : Obj), I pre W → w.heap.size ≤ l → W.heap[l]? = some o → o.isCells = false → I pre (W.putObj l o'))
    (hI0 : ∀ o o' : Obj, I [] ((w.alloc o).alloc o')) (a₁ : Nat × Nat → Act)
    (hassign : ∀ (l : Nat) (x : Nat × Nat) (W : World) (K : Act → World → Prop), K (a₁ x) W →
      assign.wpIn (F.inRound l) (n - 1 - 1) Try.prog (Exit.then K (fun _ _ _ => False)) { tmps := (ps.zip #[.int .i64 (x.1 : Nat), .int .i64 (x.2 : Nat)]).foldl (fun t (p, v) => t.setIfInBounds p v) a.tmps, defers := [] } W)
    (hbody : ∀ (l : Nat) (pre : List (Nat × Nat)) (x : Nat × Nat) (W : World), I pre W → pre.length < 2100 → Boxed W Bn 3 (.int .i64 (x.2 : Nat)) →
      body.wpIn (F.inRound l) (n - 1 - 1) Try.prog (ownPostK (fun A B => B.heap[Bn]? = A.heap[Bn]?) I (fun _ _ _ => False) (pre ++ [x]) W) (a₁ x) W)
    (hdone : ∀ (W : World), I (levZ N) W → W.heap[w.heap.size]? = some (.deferred (some [])) → Q .normal { a with defers := { target := .collected w.heap.size, args := #[] } :: a.defers } W) :
    (Code.rangeFunc g ps assign body).wpIn F n Try.prog Q a w := by
  refine wpIn_rangeFunc ?_
  intro fn hfn
  rw [hro]
  obtain ⟨R, hR⟩ : ∃ R : LoopState → Loop, R = fun st => { state := st, pending := none, fn, tmps := a.tmps, params := ps, assign, body, defers := w.heap.size } := ⟨_, rfl⟩
  have hRp : ∀ s, (R s).params = ps := fun s => by rw [hR]
  have hRs : ∀ s, (R s).state = s := fun s => by rw [hR]
  have hRn : ∀ s, (R s).pending = none := fun s => by rw [hR]
  have hRw : ∀ s t, ({ R s with state := t } : Loop) = R t := fun s t => by rw [hR]
  have hBn := hb.lt
  have hL1 : ((w.alloc (.deferred (some []))).alloc (.loop (R .ready))).heap[w.heap.size + 1]? = some (.loop (R .ready)) := by
    have := World.alloc_heap_new (w.alloc (.deferred (some []))) (.loop (R .ready)); rwa [World.size_alloc] at this
  have hK1 : ((w.alloc (.deferred (some []))).alloc (.loop (R .ready))).heap[w.heap.size]? = some (.deferred (some [])) :=
    (Below.heap_alloc _ _ _ (by rw [World.size_alloc]; omega)).trans (World.alloc_heap_new w _)
  have hB1 : Boxed ((w.alloc (.deferred (some []))).alloc (.loop (R .ready))) Bn 3 (.int .i64 N) := (hb.alloc _).alloc _
  have hI1 := hI0 (.deferred (some [])) (.loop (R .ready))
  refine ⟨w.heap.size + 1, [{ target := .collected w.heap.size, args := #[] }], (w.alloc (.deferred (some []))).alloc (.loop (R .ready)), { target := .fn (.func 29) #[.pointer (some ⟨Bn, 0, none⟩)], args := #[.func (.yield (w.heap.size + 1)) #[] #[]] }, (w.alloc (.deferred (some []))).alloc (.loop (R .ready)), 29,
    #[.func (.yield (w.heap.size + 1)) #[] #[], .pointer (some ⟨Bn, 0, none⟩)], (w.alloc (.deferred (some []))).alloc (.loop (R .ready)), ?_, ?_, ?_, ?_, fun _ => h1, ?_⟩
  · rw [hR]; exact run_enterLoop_outer _ _ _ _ _
  · simp only [resolve, hg]
    simp [go_sem]
  · intro f' hf'; simp [Target.leads] at hf'; subst hf'; exact h91
  · simp [invoke, go_sem, enters_of Try.func29 (by kernel_rfl) rfl]
  · refine (levels_iterZ F (n - 1) h91 hro h2 (w.heap.size + 1) Bn N
      (fun pre v W => I pre W ∧ Boxed W Bn 3 (.int .i64 v) ∧ W.heap[w.heap.size + 1]? = some (.loop (R .ready)) ∧ W.heap[w.heap.size]? = some (.deferred (some [])))
      (fun pre v W h => h.2.1)
      (fun pre v v' W h => ⟨hIset pre W v' h.1, h.2.1.set _, (Below.heap_setCell W _ _ _ (by show w.heap.size + 1 ≠ Bn; omega)).trans h.2.2.1, (Below.heap_setCell W _ _ _ (by show w.heap.size ≠ Bn; omega)).trans h.2.2.2⟩)
      ?_ _ ⟨hI1, hB1, hL1, hK1⟩).mono ?_
    · rintro pre first m W ⟨hi, hbx, hl, hk⟩ hlen
      have hlt : w.heap.size + 1 < W.heap.size := (Array.getElem?_eq_some_iff.1 hl).1
      have hy := run_yield (P := Try.prog) (args := #[.int .i64 (first : Nat), .int .i64 (m : Nat)]) hl (by rw [hRp, hps]; rfl)
      refine ⟨(R .ready).fn, _, (R .ready).assign, (R .ready).body, hy, ?_⟩
      have e1 : (R .ready).fn = fn := by rw [hR]
      have e2 : (R .ready).assign = assign := by rw [hR]
      have e3 : (R .ready).body = body := by rw [hR]
      have e4 : (R .ready).tmps = a.tmps := by rw [hR]
      rw [e1, e2, e3, e4, hRp]
      refine roundIn_of_wpIn hfn (hassign _ (first, m) W _ ⟨_, run_beginRound hl (hRs _), ?_⟩)
      rw [hRw]
      have hl2 : (W.putObj (w.heap.size + 1) (.loop (R .busy))).heap[w.heap.size + 1]? = some (.loop (R .busy)) := World.putObj_heap_same hlt
      have hk2 : (W.putObj (w.heap.size + 1) (.loop (R .busy))).heap[w.heap.size]? = some (.deferred (some [])) := (World.putObj_heap_other (by omega)).trans hk
      have hb2 : Boxed (W.putObj (w.heap.size + 1) (.loop (R .busy))) Bn 3 (.int .i64 (m : Nat)) := (World.putObj_heap_other (by omega)).trans hbx
      refine wpIn_mono (hbody _ pre (first, m) _ (hIput _ _ _ _ _ hi (by omega) hl rfl) hlen hb2) ?_
      rintro e a3 W3 hp
      cases e with
      | normal =>
        obtain ⟨hk3, hkp3, hi3⟩ := hp
        have hl3 := hk3.same _ _ hl2 rfl
        have hlt3 := (Array.getElem?_eq_some_iff.1 hl3).1
        have hr := run_endRound (P := Try.prog) none hl3
        have e5 : ({ R .busy with state := if (none : Option Code).isNone then LoopState.ready else LoopState.done, pending := none } : Loop) = R .ready := by rw [hR]; rfl
        rw [e5] at hr
        refine ⟨_, _, hr, rfl, hIput _ _ _ _ _ hi3 (by omega) hl3 rfl, ?_, World.putObj_heap_same hlt3, (World.putObj_heap_other (by omega)).trans (hk3.same _ _ hk2 rfl)⟩
        exact ((World.putObj_heap_other (by omega)).trans hkp3).trans hb2
      | ret => exact hp.2.elim
      | exit id => exact hp.2.elim
      | goto t => exact hp.2.elim
      | panic ch => exact hp.elim
      | outgrown => exact hp.elim
    · rintro e W2 ⟨⟨v, rfl⟩, u, hi, hbx, hl, hk⟩
      have hr := run_endLoop (P := Try.prog) hl (by rw [hRs]; decide)
      rw [hRn] at hr
      exact ⟨none, _, hr, hdone _ (hIput _ _ _ _ _ hi (by omega) hl rfl) ((World.putObj_heap_other (by omega)).trans hk)⟩

set_option maxHeartbeats 1000000 in
theorem levels_in (F : Fence) (n : Nat) (h68 : F.fn 24) (hro : F.round = none) (N : Int) (w : World) :
    CallsIn F n Try.prog 24 #[.int .i64 N] w fun e w' => e = .returned (.func (.func 29) #[] #[.pointer (some ⟨w.heap.size, 0, none⟩)]) ∧ w' = w.alloc (.cells #[.int .i64 N] 3) := by
  refine callsIn_of_wp Try.func24 rfl h68 ?_ hro
  simp only [Try.ntmps24, List.size_toArray, List.length_cons, List.length_nil, Nat.reduceAdd, Nat.reduceSub, Array.replicate_succ, Array.replicate_zero, List.push_toArray, List.append_toArray, List.nil_append, List.cons_append]
  gi_wp2
  go_ret
  exact ⟨rfl, rfl⟩
theorem own_lower {w : World} {base base' : Nat} {e : TypeId} {size n : Nat} {v : Value} {xs : List Value} (h : w.ownsRow base e size v n xs) (hle : base' ≤ base) : w.ownsRow base' e size v n xs :=
  ⟨h.1, h.2.imp id (fun ⟨g, cap, cur, e1, hb, r⟩ => ⟨g, cap, cur, e1, Nat.le_trans hle hb, r⟩)⟩
theorem own_not {w : World} {base : Nat} {e : TypeId} {size n : Nat} {v : Value} {xs : List Value} (h : w.ownsRow base e size v n xs) {b : Nat} (hb : b < base) : v.ownBlock ≠ some b := by
  rcases h.2 with ⟨rfl, _⟩ | ⟨g, cap, cur, rfl, hg, _⟩
  · simp [Value.ownBlock]
  · simp [Value.ownBlock]; omega
theorem info3_lev : (Try.prog.info? 3).map (fun i => (i.zero, i.size, i.bytes)) = some (some (.int .i64 0), 1, 8) := by kernel_rfl
set_option maxRecDepth 100000 in
set_option maxHeartbeats 2000000 in
theorem Levels_in (F : Fence) (n : Nat) (h38 : F.fn 17) (h68 : F.fn 24) (h91 : F.fn 29) (hro : F.round = none) (hn : 3 ≤ n) (N : Int) (w : World) :
    CallsIn F n Try.prog 17 #[.int .i64 N] w fun e W' => ∃ v, e = .returned v ∧ W'.ownsRow w.heap.size 3 1 v (levZ N).length ((levZ N).map (fun x => Value.int .i64 (x.2 : Nat))) ∧ Below w.heap.size w W' := by
  have h1 : 1 ≤ n := by omega
  obtain ⟨i0, hi, hz0, hz1, hz2⟩ := info_parts info3_lev
  refine callsIn_of_wp_marks Try.func17 rfl h38 ?_ hro
  simp only [Try.ntmps17, List.size_toArray, List.length_cons, List.length_nil, Nat.reduceAdd, Nat.reduceSub, Array.replicate_succ, Array.replicate_zero, List.push_toArray, List.append_toArray, List.nil_append, List.cons_append]
  gi_wp2_with (gi_at_call 24; refine (levels_in F (n - 1) h68 hro _ _).mono ?_; rintro e w' ⟨rfl, rfl⟩)
  have bO := Boxed.new w 30 (.slice none 0 0)
  have bN := Boxed.new (w.alloc (.cells #[.slice none 0 0] 30)) 3 (.int .i64 N)
  rw [World.size_alloc] at bN
  have hB0 : Below w.heap.size w ((w.alloc (.cells #[.slice none 0 0] 30)).alloc (.cells #[.int .i64 N] 3)) := ((Below.refl _ w).alloc (Nat.le_refl _) _).alloc (by simp) _
  have hsz : ((w.alloc (.cells #[.slice none 0 0] 30)).alloc (.cells #[.int .i64 N] 3)).heap.size = w.heap.size + 2 := by rw [World.size_alloc, World.size_alloc]
  have bO2 := bO.alloc (.cells #[.int .i64 N] 3)
  generalize (w.alloc (.cells #[.slice none 0 0] 30)).alloc (.cells #[.int .i64 N] 3) = W0 at *
  refine range_levels F n hro h1 (by omega) (w.heap.size + 1) N rfl h91 bN rfl
    (fun pre W => (∃ v, Boxed W w.heap.size 30 v ∧ W.ownsRow (w.heap.size + 2) 3 1 v pre.length (pre.map (fun x => Value.int .i64 (x.2 : Nat)))) ∧ Below w.heap.size w W ∧ w.heap.size + 2 ≤ W.heap.size)
    ?_ ?_ ?_
    (fun x => { tmps := #[.int .i64 N, undef, .slice none 0 0, .pointer (some ⟨w.heap.size, 0, none⟩), undef, .int .i64 (x.2 : Nat), .int .i64 N, .func (.func 29) #[] #[.pointer (some ⟨w.heap.size + 1, 0, none⟩)], .int .i64 (x.1 : Nat), .int .i64 (x.2 : Nat), undef, undef, undef, undef, undef], defers := [] }) ?assign ?body ?done
  · rintro pre W u ⟨⟨v, hv, hrow⟩, hB, hs⟩
    exact ⟨⟨v, hv.kept (grownBy_setCell' W (w.heap.size + 1) _) (by simp), hrow.kept (grownBy_setCell' W (w.heap.size + 1) _) (.inr (own_not hrow (by omega)))⟩, hB.setCell (p := ⟨w.heap.size + 1, 0, none⟩) (by show w.heap.size ≤ w.heap.size + 1; omega) _, by rw [World.size_setCell]; exact hs⟩
  · rintro pre W l o o' ⟨⟨v, hv, hrow⟩, hB, hs⟩ hl ho hc
    have hlt := (Array.getElem?_eq_some_iff.1 ho).1
    exact ⟨⟨v, hv.kept (grownBy_putObj' W l o') (by simp; omega), ownsRow_putObj hrow _ ho hc⟩, hB.grown (grownBy_putObj' W l o') (by omega) (fun k e => by cases e; omega), by simp [World.putObj]; exact hs⟩
  · intro o o'
    exact ⟨⟨_, (bO2.alloc _).alloc _, World.ownsRow_nil _ _ _ _⟩, (hB0.alloc (by omega) _).alloc (by simp; omega) _, by simp; omega⟩
  case assign =>
    intro l x W K hK
    gi_wp2
    exact hK
  case body =>
    rintro l pre x W ⟨⟨v, hv, hrow⟩, hB, hs⟩ hlen hBn
    have hc := hv.cell
    have hml : pre.length + 1 ≤ maxLen := Nat.le_trans (by omega : pre.length + 1 ≤ 3000) (by decide)
    have hml2 : (pre.length + 1) * 8 ≤ 140737488355328 := by omega
    gi_wp2_with (gi_at_builtin; refine wpListIn_append_own _ rfl _ _ 30 rfl (w.heap.size + 2) 3 i0 (.int .i64 0) 1 8 Try.underlying30 hi hz0 hz1 hz2 rfl (by decide) _ _ _ rfl (hrow.alloc _) ⟨W.heap.size, 0, none⟩ 1 1 [.int .i64 (x.2 : Nat)] rfl rfl (cell_one_new _ _ _) (by simp [Value.oneCell']) hml hml2 (by simp; omega) ?_; intro v' w1 hown' hgrow _; obtain ⟨g', cap', rfl⟩ := ownsRow_succ hown'; obtain ⟨hv1, hv2, hr2, hk2, hb2⟩ := hv.appended (by decide) (own_lower hrow (by omega : w.heap.size ≤ w.heap.size + 2)) hB.size (Nat.le_refl _) (own_lower hown' (by omega)) hgrow; have hr3 := hown'.kept (grownBy_setCell' w1 w.heap.size (.slice (some ⟨g', 0, none⟩) (pre.length + 1) cap')) (.inr (own_not hown' (by omega))); have hbn1 : w1.heap[w.heap.size + 1]? = W.heap[w.heap.size + 1]? := (hgrow.block _ (by simp; omega) (fun e => own_not hrow (by omega : w.heap.size + 1 < w.heap.size + 2) e.symm)).trans (Below.heap_alloc _ _ _ (by omega)); have hc1 := hv1.cell; have hf1 := hv1.frozen)
    refine ⟨hk2, (Below.heap_setCell w1 _ _ _ (by simp)).trans hbn1, ⟨_, hv2, ?_⟩, hB.trans hb2, Nat.le_trans hs hb2.size⟩
    simpa using hr3
  case done =>
    rintro W ⟨⟨v, hv, hrow⟩, hB, hs⟩ hK
    have hc := hv.cell
    gi_wp2
    refine ⟨by simp, .inl ⟨_, _, rfl, run_takeDeferred hK, ?_⟩⟩
    exact ⟨_, results_tmp rfl _ _ _, v, rfl, ownsRow_putObj (own_lower hrow (by omega)) _ hK rfl, hB.grown (grownBy_putObj' W _ _) (by omega) (fun k e => by cases e; omega)⟩
end Go.Proofs.Ytligdimpdcloeaa.P
