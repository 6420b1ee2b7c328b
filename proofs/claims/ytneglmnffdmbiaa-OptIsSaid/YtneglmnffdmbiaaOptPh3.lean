import Derived.Test.YtneglmnffdmbiaaOptDef
import Derived.RangeFuncBox
namespace Go.Proofs.Ytneglmnffdmbiaa.P
open Go.RowKit Go.Proofs.YtneglmnffdmbiaaW.PrintWords Go.Proofs.YtneglmnffdmbiaaW.PrintLast Go.Proofs.YtneglmnffdmbiaaW.PrintMore
set_option linter.unusedVariables false
set_option linter.unusedSimpArgs false

theorem Rch.snoc {L : List S34} {i k c : Int} (h : Rch L i k) (hc : Chd L k c) : Rch L i c := by
  induction h with
  | refl i => exact .step hc (.refl _)
  | step h1 _ ih => exact .step h1 (ih hc)
theorem liveV_clo {L : List S34} {r i c : Int} (h : liveV L r i = true) (hc : Chd L i c) : liveV L r c = true := (liveV_iff _ _ _).2 (((liveV_iff _ _ _).1 h).snoc hc)
theorem Wk.all {L : List S34} {V : Int → Bool} {r : Int} (hD : Down L) (h0 : 0 ≤ r) (h1 : r < (L.length : Int)) (h : Wk L (fun _ => false) V r) : V = liveV L r := by
  have key : ∀ i k, Rch L i k → 0 ≤ i → i ≤ r → V i = true → V k = true := by
    intro i k hr
    induction hr with
    | refl i => intro _ _ hv; exact hv
    | step hc _ ih =>
      intro hi0 hi1 hv
      have hd := hD _ hi0 (by omega) _ hc
      exact ih hd.1 (by omega) (h.clo _ hi1 hv _ hc)
  funext k
  have h2 : V k = true ↔ liveV L r k = true := by
    rw [liveV_iff]
    constructor
    · intro hv
      rcases h.new k hv with h3 | h3
      · cases h3
      · exact h3
    · intro hr
      exact key r k hr h0 (Int.le_refl _) h.has
  cases ha : V k <;> cases hb : liveV L r k <;> simp_all

/-- The steps, those ahead of i that stay renumbered. -/
def Mst (V : Int → Bool) (ps : List (S34 × Lie)) (i : Nat) : List (S34 × Lie) := ps.mapIdx (fun j p => if j < i ∧ V (j : Int) = true then (ren V p.1, p.2) else p)
theorem Mst_at (V : Int → Bool) (ps : List (S34 × Lie)) (i j : Nat) : (Mst V ps i)[j]? = (ps[j]?).map (fun p => if j < i ∧ V (j : Int) = true then (ren V p.1, p.2) else p) := by unfold Mst; rw [List.getElem?_mapIdx]
theorem Mst_len (V : Int → Bool) (ps : List (S34 × Lie)) (i : Nat) : (Mst V ps i).length = ps.length := by unfold Mst; rw [List.length_mapIdx]
theorem Mst_zero (V : Int → Bool) (ps : List (S34 × Lie)) : Mst V ps 0 = ps := by
  apply List.ext_getElem?
  intro j
  rw [Mst_at]
  cases ps[j]? <;> simp
theorem Mst_here (V : Int → Bool) (ps : List (S34 × Lie)) (i : Nat) (p : S34 × Lie) (hp : ps[i]? = some p) : (Mst V ps i)[i]? = some p := by rw [Mst_at, hp]; simp
theorem Mst_dead (V : Int → Bool) (ps : List (S34 × Lie)) (i : Nat) (hv : V (i : Int) = false) : Mst V ps (i + 1) = Mst V ps i := by
  apply List.ext_getElem?
  intro j
  rw [Mst_at, Mst_at]
  cases ps[j]? with
  | none => rfl
  | some p =>
    simp only [Option.map_some]
    by_cases hj : j = i
    · subst hj; simp [hv]
    · have : j < i + 1 ↔ j < i := by omega
      simp only [this]
theorem Mst_live (V : Int → Bool) (ps : List (S34 × Lie)) (i : Nat) (p : S34 × Lie) (hp : ps[i]? = some p) (hv : V (i : Int) = true) : Mst V ps (i + 1) = (Mst V ps i).set i (ren V p.1, p.2) := by
  have hlt := (List.getElem?_eq_some_iff.1 hp).1
  apply List.ext_getElem?
  intro j
  rw [Mst_at, List.getElem?_set, Mst_len, Mst_at]
  by_cases hj : i = j
  · subst hj
    rw [if_pos rfl, if_pos hlt, hp]
    simp [hv]
  · rw [if_neg hj]
    have : j < i + 1 ↔ j < i := by omega
    simp only [this]
/-- The steps that stay. -/
def outs (V : Int → Bool) (ps : List (S34 × Lie)) (i : Nat) : List (S34 × Lie) := (idxV V i).map (fun j => let p := ps.getD j (z34, zL); (ren V p.1, p.2))
theorem outs_live (V : Int → Bool) (ps : List (S34 × Lie)) (i : Nat) (p : S34 × Lie) (hp : ps[i]? = some p) (hv : V (i : Int) = true) : outs V ps (i + 1) = outs V ps i ++ [(ren V p.1, p.2)] := by
  unfold outs
  rw [idxV_succ, if_pos hv, List.map_append]
  simp [List.getD, hp]
theorem outs_dead (V : Int → Bool) (ps : List (S34 × Lie)) (i : Nat) (hv : V (i : Int) = false) : outs V ps (i + 1) = outs V ps i := by
  unfold outs
  rw [idxV_succ, if_neg (by rw [hv]; decide)]
theorem outs_len (V : Int → Bool) (ps : List (S34 × Lie)) (i : Nat) : (outs V ps i).length = cnt V i := by unfold outs; rw [List.length_map, idxV_len]
/-- A row, its first so many turned. -/
def partL {α : Type} (f : α → α) (ks : List α) (i : Nat) : List α := (ks.take i).map f ++ ks.drop i
theorem partL_zero {α : Type} (f : α → α) (ks : List α) : partL f ks 0 = ks := by simp [partL]
theorem partL_all {α : Type} (f : α → α) (ks : List α) : partL f ks ks.length = ks.map f := by simp [partL]
theorem partL_len {α : Type} (f : α → α) (ks : List α) (i : Nat) : (partL f ks i).length = ks.length := by
  unfold partL
  rw [List.length_append, List.length_map, List.length_take, List.length_drop]
  omega
theorem partL_at {α : Type} (f : α → α) (ks : List α) (i : Nat) (d : α) : (partL f ks i).getD i d = ks.getD i d := by
  by_cases hi : i < ks.length
  · unfold partL
    rw [List.getD_eq_getElem?_getD, List.getElem?_append_right (by rw [List.length_map, List.length_take]; omega), List.length_map, List.length_take, List.getElem?_drop, show i + (i - min i ks.length) = i by omega, List.getD_eq_getElem?_getD]
  · rw [List.getD_eq_getElem?_getD, List.getD_eq_getElem?_getD, List.getElem?_eq_none (by rw [partL_len]; omega), List.getElem?_eq_none (by omega)]
theorem partL_set {α : Type} (f : α → α) (ks : List α) (i : Nat) (hi : i < ks.length) (d : α) : (partL f ks i).set i (f (ks.getD i d)) = partL f ks (i + 1) := by
  unfold partL
  have e : ks.getD i d = ks[i] := by simp [List.getD, hi]
  rw [List.set_append_right _ _ (by rw [List.length_map, List.length_take]; omega), List.length_map, List.length_take, show i - min i ks.length = 0 by omega, List.drop_eq_getElem_cons hi, List.set_cons_zero, List.take_succ_eq_append_getElem hi, List.map_append, List.append_assoc, e]
  rfl

/-- What holds while the steps that stay are numbered anew. -/
structure Ph3 (w : World) (V : Int → Bool) (N lv ov fv mb ob nb rb : Nat) (As : Option Addr) (cs : Nat) (ro : Bool) (wr : World) (M os : List (S34 × Lie)) (outv : Value) (n : Nat) (Nf : Int → Int) : Prop where
  fc : OwnRow CellsOf 34 10 wr w.heap.size (.slice As M.length cs) M
  st : StepsW wr w.heap.size M
  out : OwnRow CellsOf 34 10 wr w.heap.size outv os
  ne : NeRow outv (.slice As M.length cs)
  fob : wr.heap[ob]? = some (.cells #[outv, .int .i64 0, .bool ro] 24 (0, 0))
  nm : IMap wr nb n Nf
  wk : WkW wr mb lv ov fv N V
  frb : wr.heap[rb]? = some (.cells #[.slice none 0 0, .int .i64 0, .bool false] 24 (0, 0))
  bel : Below w.heap.size w wr
  d : w.heap.size ≤ ob ∧ w.heap.size ≤ nb ∧ w.heap.size ≤ rb ∧ mb ≠ nb ∧ ob ≠ rb
theorem IMap.ne {w : World} {b n : Nat} {V : Int → Int} (h : IMap w b n V) {g : Nat} {cells : Array Value} {t : TypeId} {fr : Nat × Nat} (hg : w.heap[g]? = some (.cells cells t fr)) : b ≠ g := by
  obtain ⟨D, ⟨es, clock, hb, _⟩, _⟩ := h
  intro e
  subst e
  rw [hb] at hg
  cases hg
theorem BMap.ne {w : World} {b n : Nat} {V : Int → Bool} (h : BMap w b n V) {g : Nat} {cells : Array Value} {t : TypeId} {fr : Nat × Nat} (hg : w.heap[g]? = some (.cells cells t fr)) : b ≠ g := by
  obtain ⟨_, D, _, ⟨es, clock, hb, _⟩, _⟩ := h
  intro e
  subst e
  rw [hb] at hg
  cases hg
theorem cells_ne {w : World} {g g' : Nat} {c c' : Array Value} {t t' : TypeId} {f f' : Nat × Nat} (h : w.heap[g]? = some (.cells c t f)) (h' : w.heap[g']? = some (.cells c' t' f')) (hne : t ≠ t') : g ≠ g' := by
  intro e
  subst e
  rw [h] at h'
  injection h' with h'
  injection h' with _ h'
  exact hne h'
section
variable {w : World} {V : Int → Bool} {N lv ov fv mb ob nb rb : Nat} {As : Option Addr} {cs : Nat} {ro : Bool} {wr : World} {M os : List (S34 × Lie)} {outv : Value} {n : Nat} {Nf : Int → Int}
/-- Any mover that lets stand all but one block. -/
theorem Ph3.alloc (h : Ph3 w V N lv ov fv mb ob nb rb As cs ro wr M os outv n Nf) (o : Obj) : Ph3 w V N lv ov fv mb ob nb rb As cs ro (wr.alloc o) M os outv n Nf :=
  have hb : Below wr.heap.size wr (wr.alloc o) := below_alloc (Below.refl _ _) _
  ⟨h.fc.below hb, h.st.below hb, h.out.below hb, h.ne, blk_alloc h.fob _, h.nm.kept (World.grownBy_alloc _ o none) (by simp), h.wk.alloc _, blk_alloc h.frb _, h.bel.trans (hb.mono h.bel.size), h.d⟩
theorem Ph3.drew (h : Ph3 w V N lv ov fv mb ob nb rb As cs ro wr M os outv n Nf) : Ph3 w V N lv ov fv mb ob nb rb As cs ro wr.drew M os outv n Nf :=
  ⟨h.fc, h.st.below (below_drew (Below.refl _ _)), h.out, h.ne, h.fob, h.nm, ⟨h.wk.map, h.wk.bl, h.wk.bf⟩, h.frb, h.bel.trans (below_drew (Below.refl _ _)), h.d⟩
/-- A number laid down. -/
theorem Ph3.num (h : Ph3 w V N lv ov fv mb ob nb rb As cs ro wr M os outv n Nf) {w1 : World} {n1 : Nat} {Nf1 : Int → Int} (hm : IMap w1 nb n1 Nf1) (hg : wr.grownBy w1 (some nb)) : Ph3 w V N lv ov fv mb ob nb rb As cs ro w1 M os outv n1 Nf1 := by
  have blk : ∀ {g : Nat} {c : Array Value} {t : TypeId} {f : Nat × Nat}, wr.heap[g]? = some (.cells c t f) → w1.heap[g]? = some (.cells c t f) := fun hh => (hg.block _ (blk_lt hh) (fun e => h.nm.ne hh (by injection e with e; exact e.symm))).trans hh
  have own : ∀ {b : Nat} {e : TypeId} {s k : Nat} {v : Value} {xs : List Value}, wr.ownsRow b e s v k xs → v.ownBlock = none ∨ v.ownBlock ≠ some nb := fun ho => .inr (fun e => by
    obtain ⟨c, hc⟩ := own_typed ho _ e
    exact h.nm.ne hc rfl)
  obtain ⟨i1, o1, _⟩ := id h.fc
  obtain ⟨i2, o2, _⟩ := id h.out
  refine ⟨h.fc.other hg (own o1), h.st.but (some nb) (fun k hk hne => hg.block k hk hne) (fun g e c q hc => ?_), h.out.other hg (own o2), h.ne, blk h.fob, hm, ⟨h.wk.map.kept hg (fun e => h.d.2.2.2.1 (by injection e)), blk h.wk.bl, blk h.wk.bf⟩, blk h.frb, h.bel.grown hg h.bel.size (fun k hk => by injection hk with hk; have := h.d; omega), h.d⟩
  injection e with e
  subst e
  exact absurd rfl (h.nm.ne hc)
/-- A number of a step's own lists turned. -/
theorem Ph3.set (h : Ph3 w V N lv ov fv mb ob nb rb As cs ro wr M os outv n Nf) {i : Nat} {t t' : S34} {r : Lie} (hi : M[i]? = some (t, r)) (hc : cells1 (t', r) = cells1 (t, r)) (h0 : t'.f0 = t.f0) {g j : Nat} (hg : Owns (t, r) g) (u : Value) (hr : RowAt (wr.setCell ⟨g, j, none⟩ u) w.heap.size t' r) :
    Ph3 w V N lv ov fv mb ob nb rb As cs ro (wr.setCell ⟨g, j, none⟩ u) (M.set i (t', r)) os outv n Nf := by
  obtain ⟨hb, hlt, cells, q, hcell, hq⟩ := (h.st.row i _ hi).lt hg
  have blk : ∀ {k : Nat} {c : Array Value} {t : TypeId} {f : Nat × Nat}, wr.heap[k]? = some (.cells c t f) → t ≠ 3 → t ≠ 36 → (wr.setCell ⟨g, j, none⟩ u).heap[k]? = some (.cells c t f) := fun hh h3 h36 => (Below.heap_setCell wr ⟨g, j, none⟩ u _ (cells_ne hh hcell (by rcases hq with rfl | rfl; exact h3; exact h36))).trans hh
  have hgr : ∀ b, b ≠ g → wr.grownBy (wr.setCell ⟨g, j, none⟩ u) (some g) := fun _ _ => ⟨rfl, rfl, rfl, (KeepsWalks.setCell wr _ u).size, fun k _ hk => Below.heap_setCell _ _ _ k (fun e => hk (by rw [e]))⟩
  have hg1 := hgr (g + 1) (by omega)
  have own : ∀ {b : Nat} {s k : Nat} {v : Value} {xs : List Value}, wr.ownsRow b 34 s v k xs → v.ownBlock = none ∨ v.ownBlock ≠ some g := fun ho => .inr (fun e => by
    obtain ⟨c, hc2⟩ := own_typed ho _ e
    exact cells_ne hc2 hcell (by rcases hq with rfl | rfl <;> decide) rfl)
  obtain ⟨i1, o1, _⟩ := id h.fc
  obtain ⟨i2, o2, _⟩ := id h.out
  refine ⟨cells_set (by rw [List.length_set]; exact h.fc.other hg1 (own o1)) hi hc, h.st.set hi h0 hr g hg (fun k hk => Below.heap_setCell wr ⟨g, j, none⟩ u k hk), h.out.other hg1 (own o2), by rw [List.length_set]; exact h.ne, blk h.fob (by decide) (by decide), h.nm.kept hg1 (fun e => h.nm.ne hcell (by injection e)), ⟨h.wk.map.kept hg1 (fun e => h.wk.map.ne hcell (by injection e)), blk h.wk.bl (by decide) (by decide), blk h.wk.bf (by decide) (by decide)⟩, blk h.frb (by decide) (by decide), below_set h.bel hb, h.d⟩
/-- One more step that stays. -/
theorem Ph3.app (h : Ph3 w V N lv ov fv mb ob nb rb As cs ro wr M os outv n Nf) {p : S34 × Lie} {v1 : Value} {w1 : World} (ho : OwnRow CellsOf 34 10 w1 w.heap.size v1 (os ++ [p])) (hb : Below w.heap.size w w1) (hg : wr.grownBy w1 outv.ownBlock) (hat : v1.ownBlock = outv.ownBlock ∨ ∃ b, v1.ownBlock = some b ∧ wr.heap.size ≤ b) :
    Ph3 w V N lv ov fv mb ob nb rb As cs ro (w1.setCell ⟨ob, 0, none⟩ v1) M (os ++ [p]) v1 n Nf := by
  obtain ⟨i1, o1, _⟩ := id h.fc
  obtain ⟨i2, o2, _⟩ := id h.out
  have blk : ∀ {k : Nat} {c : Array Value} {t : TypeId} {f : Nat × Nat}, wr.heap[k]? = some (.cells c t f) → t ≠ 34 → w1.heap[k]? = some (.cells c t f) := fun hh h34 => (hg.block _ (blk_lt hh) (fun e => by
    obtain ⟨c2, hc2⟩ := own_typed o2 _ e.symm
    exact cells_ne hh hc2 h34 rfl)).trans hh
  have hob := blk h.fob (by decide)
  have far : ∀ {k : Nat} {c : Array Value} {t : TypeId} {f : Nat × Nat}, w1.heap[k]? = some (.cells c t f) → k ≠ ob → (w1.setCell ⟨ob, 0, none⟩ v1).heap[k]? = some (.cells c t f) := fun hh hne => (Below.heap_setCell w1 ⟨ob, 0, none⟩ v1 _ hne).trans hh
  have hgs : w1.grownBy (w1.setCell ⟨ob, 0, none⟩ v1) (some ob) := grownBy_setCell' w1 ob v1
  have ownb : ∀ {e : TypeId} {b s k : Nat} {v : Value} {xs : List Value}, w1.ownsRow b e s v k xs → e ≠ 24 → v.ownBlock = none ∨ v.ownBlock ≠ some ob := fun ho2 hne => .inr (fun e => by
    obtain ⟨c, hc2⟩ := own_typed ho2 _ e
    exact cells_ne hc2 hob hne rfl)
  have mapne : ∀ {b : Nat} {es : Array MapEntry} {clk : Nat}, wr.heap[b]? = some (.map es clk) → some b ≠ outv.ownBlock := fun hh e => by
    obtain ⟨c2, hc2⟩ := own_typed o2 _ e.symm
    rw [hh] at hc2
    cases hc2
  have csn : OwnRow CellsOf 34 10 w1 w.heap.size (.slice As M.length cs) M := h.fc.other hg (ne_other h.ne)
  have hst1 : StepsW w1 w.heap.size M := h.st.but outv.ownBlock (fun k hk hne => hg.block k hk hne) (fun g e c q hc => by
    obtain ⟨c2, hc2⟩ := own_typed o2 _ e
    rw [hc] at hc2
    injection hc2 with hc2
    injection hc2 with _ hc2
    subst hc2
    decide)
  have hnm1 : IMap w1 nb n Nf := h.nm.kept hg (by
    obtain ⟨D, ⟨es, clock, hb, _⟩, _⟩ := h.nm
    exact mapne hb)
  have hbm1 : BMap w1 mb N V := h.wk.map.kept hg (by
    obtain ⟨_, D, _, ⟨es, clock, hb, _⟩, _⟩ := h.wk.map
    exact mapne hb)
  obtain ⟨i3, o3, _⟩ := id csn
  refine ⟨csn.other hgs (ownb o3 (by decide)), hst1.but (some ob) (fun k hk hne => hgs.block k hk hne) (fun g e c q hc => ?_), ?_, ?_, by simpa using blk_set hob 0 v1, hnm1.kept hgs (fun e => hnm1.ne hob (by injection e)), ⟨hbm1.kept hgs (fun e => hbm1.ne hob (by injection e)), far (blk h.wk.bl (by decide)) (cells_ne h.wk.bl h.fob (by decide)), far (blk h.wk.bf (by decide)) (cells_ne h.wk.bf h.fob (by decide))⟩, far (blk h.frb (by decide)) (fun e => h.d.2.2.2.2 e.symm), below_set hb h.d.1, h.d⟩
  · injection e with e
    subst e
    rw [hob] at hc
    injection hc with hc
    injection hc with _ hc
    subst hc
    decide
  · obtain ⟨_, o4, _⟩ := id ho
    exact ho.other hgs (ownb o4 (by decide))
  · exact ne_append h.ne hat o1
/-- The kids' row of a step. -/
theorem Ph3.rowAt (h : Ph3 w V N lv ov fv mb ob nb rb As cs ro wr M os outv n Nf) {i : Nat} {t : S34} {r : Lie} (hi : M[i]? = some (t, r)) : RowAt wr w.heap.size t r := h.st.row i _ hi
end
theorem Ph3.mono {w : World} {V : Int → Bool} {N lv ov fv mb ob nb rb : Nat} {As : Option Addr} {cs : Nat} {ro : Bool} {wr : World} {M os : List (S34 × Lie)} {outv : Value} {n n' : Nat} {Nf : Int → Int} (h : Ph3 w V N lv ov fv mb ob nb rb As cs ro wr M os outv n Nf) (hn : n ≤ n') : Ph3 w V N lv ov fv mb ob nb rb As cs ro wr M os outv n' Nf := { h with nm := h.nm.mono hn }
/-- One of a step's kids turned. -/
theorem Ph3.setk {w : World} {V : Int → Bool} {N lv ov fv mb ob nb rb : Nat} {As : Option Addr} {cs : Nat} {ro : Bool} {wr : World} {M os : List (S34 × Lie)} {outv : Value} {n : Nat} {Nf : Int → Int} (h : Ph3 w V N lv ov fv mb ob nb rb As cs ro wr M os outv n Nf)
    {i : Nat} {t : S34} {r : Lie} (hi : M[i]? = some (t, r)) {g m c : Nat} (hkv : r.kv = .slice (some ⟨g, 0, none⟩) m c) (k : Nat) (x : Int) : Ph3 w V N lv ov fv mb ob nb rb As cs ro (wr.setCell ⟨g, k, none⟩ (.int .i64 x)) (M.set i ({ t with f4 := t.f4.set k x }, r)) os outv n Nf := by
  have hr := h.st.row i _ hi
  have hk := hr.k
  obtain ⟨A, c2, e⟩ := own_slice hk
  have hk2 := hk
  simp only [hkv] at hk2 e
  injection e with e1 e2 e3
  subst e2
  have hst := own_store hk2 (k : Int) x
  rw [Int.toNat_natCast] at hst
  have hg : Owns (t, r) g := .inl (by show r.kv.ownBlock = _; rw [hkv]; rfl)
  refine h.set (t' := { t with f4 := t.f4.set k x }) hi rfl rfl hg _ ⟨?_, fun h3 => ?_, hr.n⟩
  · show (wr.setCell ⟨g, k, none⟩ (.int .i64 x)).ownsRow _ 3 1 r.kv (t.f4.set k x).length (nums .i64 (t.f4.set k x))
    rw [List.length_set, hkv]
    exact hst.1
  · have he := hr.e h3
    exact own_setCell he (p := ⟨g, k, none⟩) (fun e => by
      obtain ⟨c1, h1⟩ := own_typed he _ e.symm
      obtain ⟨c2, h2⟩ := own_typed hk g (by show r.kv.ownBlock = _; rw [hkv]; rfl)
      exact cells_ne h1 h2 (by decide) rfl) _
theorem ec_at2 (l : List S36) (k : Nat) (hk : k < l.length) : (ec l)[k * 4 + 2]? = some (.int .i64 (rd_T36 l (k : Int)).f2) := by
  have e0 : l[k]? = some (rd_T36 l (k : Int)) := by simp [rd_T36, List.getD, hk]
  have e1 := ec_drop l k _ e0
  have e2 := congrArg (fun z : List Value => z[2]?) e1
  simp only [List.getElem?_take, List.getElem?_drop] at e2
  rw [if_pos (by omega)] at e2
  exact e2
/-- The kid of one of a step's extents turned. -/
theorem Ph3.sete {w : World} {V : Int → Bool} {N lv ov fv mb ob nb rb : Nat} {As : Option Addr} {cs : Nat} {ro : Bool} {wr : World} {M os : List (S34 × Lie)} {outv : Value} {n : Nat} {Nf : Int → Int} (h : Ph3 w V N lv ov fv mb ob nb rb As cs ro wr M os outv n Nf)
    {i : Nat} {t : S34} {r : Lie} (hi : M[i]? = some (t, r)) (h3 : t.f0 = 3) {g m c : Nat} (hev : r.ev = .slice (some ⟨g, 0, none⟩) m c) (k : Nat) (hk : k < t.f3.length) (x : Int) : Ph3 w V N lv ov fv mb ob nb rb As cs ro (wr.setCell ⟨g, k * 4 + 2, none⟩ (.int .i64 x)) (M.set i ({ t with f3 := t.f3.set k { rd_T36 t.f3 (k : Int) with f2 := x } }, r)) os outv n Nf := by
  have hr := h.st.row i _ hi
  have he := hr.e h3
  obtain ⟨A, c2, e⟩ := own_slice he
  have he2 := he
  simp only [hev] at he2 e
  injection e with e1 e2 e3
  subst e2
  have hst := he2.stored (k * 4 + 2) (.int .i64 x)
  rw [ec_set2 t.f3 k hk x] at hst
  have hg : Owns (t, r) g := .inr ⟨h3, by show r.ev.ownBlock = _; rw [hev]; rfl⟩
  refine h.set (t' := { t with f3 := t.f3.set k { rd_T36 t.f3 (k : Int) with f2 := x } }) hi rfl rfl hg _ ⟨?_, fun _ => ?_, fun hn => absurd h3 hn⟩
  · exact own_setCell hr.k (p := ⟨g, k * 4 + 2, none⟩) (fun e => by
      obtain ⟨c1, h1⟩ := own_typed hr.k _ e.symm
      obtain ⟨c2, h2⟩ := own_typed he g (by show r.ev.ownBlock = _; rw [hev]; rfl)
      exact cells_ne h1 h2 (by decide) rfl) _
  · show (wr.setCell ⟨g, k * 4 + 2, none⟩ (.int .i64 x)).ownsRow _ 36 4 r.ev (t.f3.set k _).length (ec (t.f3.set k _))
    rw [List.length_set, hev]
    exact hst.1
theorem Mst_out {V : Int → Bool} {ps : List (S34 × Lie)} : ∀ p ∈ outs V ps ps.length, p ∈ Mst V ps ps.length := by
  intro p hp
  unfold outs idxV at hp
  obtain ⟨j, hj, rfl⟩ := List.mem_map.1 hp
  obtain ⟨hj1, hj2⟩ := List.mem_filter.1 hj
  have hlt : j < ps.length := List.mem_range.1 hj1
  apply List.mem_of_getElem? (i := j)
  rw [Mst_at]
  have e : ps[j]? = some (ps.getD j (z34, zL)) := by simp [List.getD, hlt]
  rw [e]
  simp only [Option.map_some]
  rw [if_pos ⟨hlt, hj2⟩]
theorem outs_fst (V : Int → Bool) (ps : List (S34 × Lie)) : (outs V ps ps.length).map Prod.fst = optG (ps.map Prod.fst) V := by
  unfold outs optG
  rw [List.map_map, List.length_map]
  apply List.map_congr_left
  intro j hj
  have hlt : j < ps.length := List.mem_range.1 (List.mem_filter.1 hj).1
  simp [rd_T34, List.getD, hlt]
theorem KeyAt.ren {w : World} {t : S34} {r : Lie} (V : Int → Bool) (h : KeyAt w t r) : KeyAt w (ren V t) r := h
theorem StepsW.set24 {w : World} {base b j : Nat} {ps : List (S34 × Lie)} {cells : Array Value} (h : StepsW w base ps) (hb : w.heap[b]? = some (.cells cells 24 (0, 0))) (u : Value) : StepsW (w.setCell ⟨b, j, none⟩ u) base ps :=
  h.but (some b) (fun k hk hne => Below.heap_setCell w ⟨b, j, none⟩ u k (fun e => hne (by rw [e]))) (fun g e c q hc => by
    injection e with e
    subst e
    rw [hb] at hc
    injection hc with hc
    injection hc with _ hc
    subst hc
    decide)
theorem outs_key {w : World} {V : Int → Bool} {ps : List (S34 × Lie)} (h : ∀ p ∈ ps, KeyAt w p.1 p.2) : ∀ p ∈ outs V ps ps.length, KeyAt w p.1 p.2 := by
  intro p hp
  unfold outs idxV at hp
  obtain ⟨j, hj, rfl⟩ := List.mem_map.1 hp
  have hlt : j < ps.length := List.mem_range.1 (List.mem_filter.1 hj).1
  have hm : ps.getD j (z34, zL) ∈ ps := by
    rw [List.getD_eq_getElem?_getD, List.getElem?_eq_getElem hlt]
    exact List.getElem_mem hlt
  have := h _ hm
  exact KeyAt.ren V this
theorem set_same {α : Type} {l : List α} {i : Nat} {p : α} (h : l[i]? = some p) : l.set i p = l := by
  apply List.ext_getElem?
  intro j
  rw [List.getElem?_set]
  split
  · rename_i e
    subst e
    rw [if_pos (List.getElem?_eq_some_iff.1 h).1, h]
  · rfl
theorem set_at {α : Type} {l : List α} {i : Nat} (p q : α) (h : l[i]? = some p) : (l.set i q)[i]? = some q := by
  rw [List.getElem?_set, if_pos rfl, if_pos (List.getElem?_eq_some_iff.1 h).1]
end Go.Proofs.Ytneglmnffdmbiaa.P
