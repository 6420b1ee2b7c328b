import Derived.Test.YtneglmnffdmbiaaOptFuse
import Derived.Lib.SliceRun
namespace Go.Proofs.Ytneglmnffdmbiaa.P
open Go.RowKit Go.Proofs.YtneglmnffdmbiaaW.PrintWords Go.Proofs.YtneglmnffdmbiaaW.PrintLast Go.Proofs.YtneglmnffdmbiaaW.PrintMore
set_option linter.unusedVariables false
set_option linter.unusedSimpArgs false

/-- The cells of a row of extents. -/
def e4 (x : S36) : List Value := [.int .i64 x.f0, .int .i64 x.f1, .int .i64 x.f2, .int .i64 x.f3]
def ec (l : List S36) : List Value := l.flatMap e4
theorem ec_len : ∀ l : List S36, (ec l).length = l.length * 4
  | [] => rfl
  | x :: l => by
    have := ec_len l
    unfold ec at this ⊢
    rw [List.flatMap_cons, List.length_append, this, List.length_cons]
    show 4 + _ = _
    omega
theorem ec_drop : ∀ (l : List S36) (j : Nat) (p : S36), l[j]? = some p → ((ec l).drop (j * 4)).take 4 = e4 p
  | [], j, p, h => by simp at h
  | x :: l, 0, p, h => by
    obtain rfl : x = p := by simpa using h
    rfl
  | x :: l, j + 1, p, h => by
    have h' : l[j]? = some p := by simpa using h
    have := ec_drop l j p h'
    unfold ec at this ⊢
    rw [List.flatMap_cons, show (j + 1) * 4 = (e4 x).length + j * 4 by show _ = 4 + _; omega, List.drop_append, List.drop_eq_nil_of_le (Nat.le_add_right _ _), List.nil_append, Nat.add_sub_cancel_left]
    exact this
theorem reps36 (l : List S36) (w : World) (base : Nat) (ok : Nat → Prop) : Reps (k36.M w base ok) 4 l (ec l) := by
  refine ⟨ec_len l, fun j p hj => ?_⟩
  rw [ec_drop l j p hj]
  exact k36_mkM _ _ _ p
theorem reps36_inner {l : List S36} {w : World} {base : Nat} {ok : Nat → Prop} {inner : List Value} (h : Reps (k36.M w base ok) 4 l inner) : inner = ec l := by
  apply List.ext_getElem?
  intro q
  have hl := h.1
  by_cases hq : q < l.length * 4
  · have hj : l[q / 4]? = some (l[q / 4]'(by omega)) := List.getElem?_eq_getElem _
    have e1 := k36_openM (h.2 (q / 4) _ hj)
    have e2 := ec_drop l (q / 4) _ hj
    have e3 : (inner.drop (q / 4 * 4)).take 4 = ((ec l).drop (q / 4 * 4)).take 4 := by rw [e2]; exact e1
    have e4' := congrArg (fun z : List Value => z[q % 4]?) e3
    simp only [List.getElem?_take, List.getElem?_drop] at e4'
    rw [if_pos (by omega), if_pos (by omega), show q / 4 * 4 + q % 4 = q by omega] at e4'
    exact e4'
  · rw [List.getElem?_eq_none (by omega), List.getElem?_eq_none (by rw [ec_len]; omega)]
theorem own36 {w : World} {base : Nat} {ok : Nat → Prop} {v : Value} {l : List S36} (h : k36.R 36 w base ok v l) : w.ownsRow base 36 4 v l.length (ec l) := by
  obtain ⟨_, inner, ho, hr⟩ := h
  rw [← reps36_inner hr]
  exact ho
theorem R36 {w : World} {base : Nat} {ok : Nat → Prop} {v : Value} {l : List S36} (h : w.ownsRow base 36 4 v l.length (ec l)) (hok : ∀ k, v.ownBlock = some k → ok k) : k36.R 36 w base ok v l := ⟨hok, ec l, h, reps36 l _ _ _⟩
/-- One number of an extent turned. -/
theorem ec_set1 (l : List S36) (i : Nat) (hi : i < l.length) (c : Int) : (ec l).set (i * 4 + 1) (.int .i64 c) = ec (l.set i { rd_T36 l i with f1 := c }) := by
  induction l generalizing i with
  | nil => simp at hi
  | cons x l ih =>
    cases i with
    | zero => rfl
    | succ i =>
      have h2 : i < l.length := by simpa using hi
      have h := ih i h2
      have e1 : rd_T36 (x :: l) ((i + 1 : Nat) : Int) = rd_T36 l (i : Int) := by simp [rd_T36, List.getD]
      rw [e1, List.set_cons_succ]
      unfold ec at h ⊢
      rw [List.flatMap_cons, List.flatMap_cons, ← h, List.set_append_right _ _ (by show 4 ≤ _; omega)]
      congr 1
      rw [show (i + 1) * 4 + 1 - (e4 x).length = i * 4 + 1 by show _ - 4 = _; omega]
theorem ec_set2 (l : List S36) (i : Nat) (hi : i < l.length) (c : Int) : (ec l).set (i * 4 + 2) (.int .i64 c) = ec (l.set i { rd_T36 l i with f2 := c }) := by
  induction l generalizing i with
  | nil => simp at hi
  | cons x l ih =>
    cases i with
    | zero => rfl
    | succ i =>
      have h2 : i < l.length := by simpa using hi
      have h := ih i h2
      have e1 : rd_T36 (x :: l) ((i + 1 : Nat) : Int) = rd_T36 l (i : Int) := by simp [rd_T36, List.getD]
      rw [e1, List.set_cons_succ]
      unfold ec at h ⊢
      rw [List.flatMap_cons, List.flatMap_cons, ← h, List.set_append_right _ _ (by show 4 ≤ _; omega)]
      congr 1
      rw [show (i + 1) * 4 + 2 - (e4 x).length = i * 4 + 2 by show _ - 4 = _; omega]

set_option maxHeartbeats 8000000 in
set_option maxRecDepth 100000 in
theorem clone_calls (A : Option Addr) (c : Nat) (l : List Int) (hc : l.length ≤ c) (hl : l.length ≤ 100000) (w : World) (h : Kd.C (Kd.int .i64) w A l.length l) :
    Calls Try.prog 20 #[.slice A l.length c] w fun e w' => ∃ v, e = .returned v ∧ Kd.R (Kd.int .i64) 3 w' w.heap.size (fun _ => True) v l ∧ Below w.heap.size w w' := by
  have q25 : ∀ (w : World) (a : Option Addr) (n c n' c' : Nat), (binOp .eql 25 (.slice a n c) (.slice none n' c')).run Try.prog w = .ok (.bool a.isNone) w := fun w a n c n' c' => Lib.run_eql_slice_nil w _ _ a n c n' c' Try.underlying25
  cases A with
  | none =>
    have h0 : l.length = 0 := by
      rcases Nat.eq_zero_or_pos l.length with h0 | h0
      · exact h0
      · obtain ⟨ad, e, _⟩ := h.2.2 h0
        cases e
    obtain rfl := List.length_eq_zero_iff.1 h0
    go_enter Try.func20, Try.ntmps20
    go_wp2
    go_ret
    exact ⟨_, rfl, Kd.R_nil _ _ _ _ _, Below.refl _ _⟩
  | some ad =>
    have hr : ReadsInt (w.alloc (.cells #[] 3 (0, 0))) .i64 (some ad) l.length l := (Kd.reads_of_C (enc := Value.int .i64) (d := (0 : Int)) h).below (below_alloc (Below.refl _ _) _)
    have ho : (w.alloc (.cells #[] 3 (0, 0))).ownsRow w.heap.size 3 1 (.slice (some ⟨w.heap.size, 0, none⟩) 0 0) 0 (nums .i64 []) := by
      have := World.ownsRow_lit (base := w.heap.size) (e := 3) (size := 1) w #[] 0 (Nat.le_refl _) (by decide) rfl
      simpa [nums] using this
    have HB := Aside0.mk (below_alloc (Below.refl w.heap.size w) (.cells #[] 3 (0, 0)))
    have HR := Aside0.mk hr
    have HO := Aside0.mk ho
    clear hr ho h
    go_enter Try.func20, Try.ntmps20
    go_wp2_with (first | ((with_reducible refine gate_builtin (b := .append) (xs := #[.tmp 5, .tmp 6]) rfl ?_); (try (refine gate_guard (by rfl) ?_; dsimp only)); at_builtin; refine print_append_row (w0 := w) w.heap.size rfl (.tmp 5) (.tmp 6) 25 3 .i64 8 rfl Try.underlying25 info3 (by decide) (.slice (some ⟨w.heap.size, 0, none⟩) 0 0) [] l (some ad) l.length c rfl rfl HO.out HR.out HB.out HB.out.size (by show (0 + l.length) * 8 ≤ _; omega) ?_; intro v1 w1 ho1 hb1 hg1 hat1; have HO1 := Aside0.mk ho1; have HB1 := Aside0.mk hb1; clear ho1 hb1 hg1 hat1))
    go_ret
    exact ⟨_, rfl, Kd.R_of_own (by simpa [nums, encs] using HO1.out) (fun _ _ => trivial), HB1.out⟩
end Go.Proofs.Ytneglmnffdmbiaa.P
