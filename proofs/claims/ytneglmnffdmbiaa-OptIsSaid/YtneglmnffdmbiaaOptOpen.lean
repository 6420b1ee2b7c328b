/- Proved here: an argument that is a plan, or a row of whole numbers: its cells, its numbers. -/
import Derived.Test.YtneglmnffdmbiaaOptBase
import Derived.Deep.Slices
import Derived.OpenShut
import Derived.ChangeArms
import Derived.Deep.Strs
namespace Go.Proofs.Ytneglmnffdmbiaa.P
open Go.RowKit Go.Deep Go.Proofs.YtneglmnffdmbiaaW.PrintWords Go.Proofs.YtneglmnffdmbiaaW.PrintLast Go.Proofs.YtneglmnffdmbiaaW.PrintMore
set_option linter.unusedVariables false
set_option linter.unusedSimpArgs false

theorem cellsT3 : Try.prog.cellsOf 3 = 1 := by kernel_rfl
theorem cellsT4 : Try.prog.cellsOf 4 = 1 := by kernel_rfl
theorem cellsT5 : Try.prog.cellsOf 5 = 1 := by kernel_rfl
theorem cellsT30 : Try.prog.cellsOf 30 = 1 := by kernel_rfl
theorem cellsT22 : Try.prog.cellsOf 22 = 1 := by kernel_rfl
theorem cellsT25 : Try.prog.cellsOf 25 = 1 := by kernel_rfl
theorem cellsT31 : Try.prog.cellsOf 31 = 1 := by kernel_rfl
theorem cellsT32 : Try.prog.cellsOf 32 = 1 := by kernel_rfl
theorem cellsT36 : Try.prog.cellsOf 36 = 4 := by kernel_rfl
theorem cellsT34 : Try.prog.cellsOf 34 = 10 := by kernel_rfl
theorem cellsT24 : Try.prog.cellsOf 24 = 3 := by kernel_rfl
theorem add_add (a : Addr) (m j : Nat) : (a.add m).add j = a.add (m + j) := by
  unfold Addr.add
  by_cases h1 : m = 0
  · subst h1; simp
  · by_cases h2 : j = 0
    · subst h2; simp [h1]
    · have : ¬ m + j = 0 := by omega
      simp [h1, h2, Nat.add_assoc]
/-- What reads ag t reads by d. -/
def Opens {H : Type} (enc : TypeId × Value → H) {α : Type} (d : Kd α) (w : World) (t : TypeId) : Prop := ∀ (fuel : Nat) (cs : List Value) (x : DataW H × List MemPlace), DataW.trod enc Try.prog w 0 (fun _ => true) true fuel t cs = some x → ∃ a, d.K w a cs
theorem op_row {H : Type} {enc : TypeId × Value → H} {α : Type} [Inhabited α] (d : Kd α) {w : World} {t e : TypeId} (ht : Try.prog.underlying t = some (.slice e)) (hsz : Try.prog.cellsOf e = d.sz) (hop : Opens enc d w e) {fuel : Nat} {cs : List Value} {x : DataW H × List MemPlace} (h : DataW.trod enc Try.prog w 0 (fun _ => true) true fuel t cs = some x) :
    ∃ (A : Option Addr) (c : Nat) (xs : List α), cs = [.slice A xs.length c] ∧ xs.length ≤ c ∧ c ≤ 9223372036854775807 ∧ Kd.C d w A xs.length xs := by
  rcases open_slice ht h with ⟨hv, _⟩ | ⟨a, len, cap, m, n, D, Pl, hv, hb, hl, hm, hmm, _, hx⟩
  · exact ⟨none, 0, [], hv, Nat.le_refl _, by omega, rfl, by simp, fun h => absurd h (Nat.lt_irrefl 0)⟩
  · simp only [if_true] at hmm
    have hm' : cap ≤ 9223372036854775807 := by simpa [maxLen] using hm
    have each : ∀ i, i < len → ∃ q : α, ∃ cs', d.K w q cs' ∧ ∀ j u, cs'[j]? = some u → w.cell? (a.add (i * d.sz + j)) = some u := by
      intro i hi
      obtain ⟨cs', h1, h2⟩ := hx i (by omega)
      obtain ⟨q, hq⟩ := hop _ _ _ h2
      obtain ⟨_, hlen, hcell⟩ := World.cells?_some h1
      refine ⟨q, cs', hq, fun j u hj => ?_⟩
      have hjl : j < cs'.length := (List.getElem?_eq_some_iff.1 hj).1
      have := hcell j (by omega)
      rw [hsz, add_add] at this
      rw [this, hj]
    obtain ⟨q, hq⟩ := choose_lt each
    have hlq : ((List.range len).map q).length = len := by rw [List.length_map, List.length_range]
    refine ⟨some a, cap, (List.range len).map q, by rw [hlq]; exact hv, by rw [hlq]; exact hl, hm', rfl, by rw [hlq]; omega, fun _ => ⟨a, rfl, fun j p hj => ?_⟩⟩
    have hjl : j < len := by
      have := (List.getElem?_eq_some_iff.1 hj).1
      omega
    obtain rfl : q j = p := by
      rw [List.getElem?_map, List.getElem?_range hjl] at hj
      exact Option.some.inj hj
    obtain ⟨cs', hk, hc⟩ := hq j hjl
    exact ⟨cs', d.K_len hk, hk, hc⟩
theorem op_int {H : Type} {enc : TypeId × Value → H} {w : World} {t : TypeId} {k : IntKind} (ht : Try.prog.underlying t = some (.int k)) : Opens enc (Kd.int k) w t := by
  intro fuel cs x h
  obtain ⟨n, rfl, _⟩ := DataW.trod_int ht h
  exact ⟨n, rfl⟩
instance : Inhabited S36 := ⟨z36⟩
instance : Inhabited S34 := ⟨z34⟩
theorem drop_take1 {cs : List Value} {n : Nat} {v : Value} (h : (cs.drop n).take 1 = [v]) : cs[n]? = some v := by
  have := congrArg (fun l : List Value => l[0]?) h
  simpa [List.getElem?_take, List.getElem?_drop] using this
theorem list4 {cs : List Value} (hl : cs.length = 4) {a b c d : Value} (h0 : cs[0]? = some a) (h1 : cs[1]? = some b) (h2 : cs[2]? = some c) (h3 : cs[3]? = some d) : cs = [a, b, c, d] := by
  match cs, hl with
  | [_, _, _, _], _ => simp_all
theorem list3 {cs : List Value} (hl : cs.length = 3) {a b c : Value} (h0 : cs[0]? = some a) (h1 : cs[1]? = some b) (h2 : cs[2]? = some c) : cs = [a, b, c] := by
  match cs, hl with
  | [_, _, _], _ => simp_all
theorem list10 {cs : List Value} (hl : cs.length = 10) {a b c d e f g h i j : Value} (h0 : cs[0]? = some a) (h1 : cs[1]? = some b) (h2 : cs[2]? = some c) (h3 : cs[3]? = some d) (h4 : cs[4]? = some e) (h5 : cs[5]? = some f) (h6 : cs[6]? = some g) (h7 : cs[7]? = some h) (h8 : cs[8]? = some i) (h9 : cs[9]? = some j) : cs = [a, b, c, d, e, f, g, h, i, j] := by
  match cs, hl with
  | [_, _, _, _, _, _, _, _, _, _], _ => simp_all
section
variable {H : Type} {enc : TypeId × Value → H} {w : World}
theorem op_36 : Opens enc k36 w 36 := by
  intro fuel cs x h
  obtain ⟨xs, n, _, rfl, hl, hlen, hf⟩ := DataW.trod_struct Try.underlying36 h
  rw [cellsT36] at hl
  have fld : ∀ (i : Nat) (f : Field), f.type = 3 → (#[({ name := "From", type := 3, offset := 0, embedded := false, tag := "", pkgPath := "", byteOffset := 0 } : Field), { name := "Count", type := 3, offset := 1, embedded := false, tag := "", pkgPath := "", byteOffset := 8 }, { name := "Kid", type := 3, offset := 2, embedded := false, tag := "", pkgPath := "", byteOffset := 16 }, { name := "First", type := 3, offset := 3, embedded := false, tag := "", pkgPath := "", byteOffset := 24 }])[i]? = some f → i < 4 → f.offset = i → ∃ m : Int, cs[i]? = some (.int .i64 m) := by
    intro i f ht hi hi4 ho
    have g := hf i f hi
    have hlt : i < xs.length := by rw [hlen]; exact hi4
    rw [ht, ho, cellsT3, List.getElem?_eq_getElem hlt] at g
    obtain ⟨m, e, _⟩ := DataW.trod_int Try.underlying3 g
    exact ⟨m, drop_take1 e⟩
  obtain ⟨m0, e0⟩ := fld 0 _ rfl rfl (by decide) rfl
  obtain ⟨m1, e1⟩ := fld 1 _ rfl rfl (by decide) rfl
  obtain ⟨m2, e2⟩ := fld 2 _ rfl rfl (by decide) rfl
  obtain ⟨m3, e3⟩ := fld 3 _ rfl rfl (by decide) rfl
  rw [list4 hl e0 e1 e2 e3]
  exact ⟨⟨m0, m1, m2, m3⟩, k36_mk w ⟨m0, m1, m2, m3⟩⟩
theorem op_34 : Opens enc k34 w 34 := by
  intro fuel cs x h
  obtain ⟨xs, n, _, rfl, hl, hlen, hf⟩ := DataW.trod_struct Try.underlying34 h
  rw [cellsT34] at hl
  have at_ : ∀ i : Nat, i < 10 → ∃ y, xs[i]? = some y := fun i hi => ⟨_, List.getElem?_eq_getElem (by rw [hlen]; exact hi)⟩
  have row1 : ∀ {s : List Value} {v : Value} {i : Nat}, s = [v] → s = (cs.drop i).take 1 → cs[i]? = some v := fun h1 h2 => drop_take1 (h2.symm.trans h1)
  have int3 : ∀ (i : Nat) (t : TypeId), Try.prog.underlying t = some (.int .i64) → Try.prog.cellsOf t = 1 → (∃ y, DataW.trod enc Try.prog w 0 (fun _ => true) true n t ((cs.drop i).take (Try.prog.cellsOf t)) = some y) → ∃ m : Int, cs[i]? = some (.int .i64 m) := by
    intro i t ht hc ⟨y, hy⟩
    rw [hc] at hy
    obtain ⟨m, e, _⟩ := DataW.trod_int ht hy
    exact ⟨m, drop_take1 e⟩
  obtain ⟨y0, z0⟩ := at_ 0 (by decide)
  obtain ⟨y1, z1⟩ := at_ 1 (by decide)
  obtain ⟨y2, z2⟩ := at_ 2 (by decide)
  obtain ⟨y3, z3⟩ := at_ 3 (by decide)
  obtain ⟨y4, z4⟩ := at_ 4 (by decide)
  obtain ⟨y5, z5⟩ := at_ 5 (by decide)
  obtain ⟨y6, z6⟩ := at_ 6 (by decide)
  obtain ⟨y7, z7⟩ := at_ 7 (by decide)
  obtain ⟨y8, z8⟩ := at_ 8 (by decide)
  obtain ⟨y9, z9⟩ := at_ 9 (by decide)
  obtain ⟨m0, e0⟩ := int3 0 30 Try.underlying30 cellsT30 ⟨y0, (hf 0 _ rfl).trans z0⟩
  obtain ⟨m1, e1⟩ := int3 1 3 Try.underlying3 cellsT3 ⟨y1, (hf 1 _ rfl).trans z1⟩
  obtain ⟨m2, e2⟩ := int3 2 3 Try.underlying3 cellsT3 ⟨y2, (hf 2 _ rfl).trans z2⟩
  obtain ⟨m5, e5⟩ := int3 5 3 Try.underlying3 cellsT3 ⟨y5, (hf 5 _ rfl).trans z5⟩
  obtain ⟨m6, e6⟩ := int3 6 3 Try.underlying3 cellsT3 ⟨y6, (hf 6 _ rfl).trans z6⟩
  obtain ⟨m7, e7⟩ := int3 7 3 Try.underlying3 cellsT3 ⟨y7, (hf 7 _ rfl).trans z7⟩
  have h3 := (hf 3 _ rfl).trans z3
  have h4 := (hf 4 _ rfl).trans z4
  have h8 := (hf 8 _ rfl).trans z8
  have h9 := (hf 9 _ rfl).trans z9
  obtain ⟨A3, c3, l3, g3, k3, _, C3⟩ := op_row k36 Try.underlying31 cellsT36 op_36 h3
  obtain ⟨A4, c4, l4, g4, k4, _, C4⟩ := op_row (Kd.int .i64) Try.underlying25 cellsT3 (op_int Try.underlying3) h4
  obtain ⟨A8, c8, l8, g8, k8, _, C8⟩ := op_row (Kd.int .u8) Try.underlying32 cellsT5 (op_int Try.underlying5) h8
  obtain ⟨A9, c9, l9, g9, k9, _, C9⟩ := op_row (Kd.int .u8) Try.underlying32 cellsT5 (op_int Try.underlying5) h9
  have e3 : cs[3]? = some (.slice A3 l3.length c3) := row1 g3 (by show (cs.drop 3).take (Try.prog.cellsOf 31) = _; rw [cellsT31])
  have e4 : cs[4]? = some (.slice A4 l4.length c4) := row1 g4 (by show (cs.drop 4).take (Try.prog.cellsOf 25) = _; rw [cellsT25])
  have e8 : cs[8]? = some (.slice A8 l8.length c8) := row1 g8 (by show (cs.drop 8).take (Try.prog.cellsOf 32) = _; rw [cellsT32])
  have e9 : cs[9]? = some (.slice A9 l9.length c9) := row1 g9 (by show (cs.drop 9).take (Try.prog.cellsOf 32) = _; rw [cellsT32])
  rw [list10 hl e0 e1 e2 e3 e4 e5 e6 e7 e8 e9]
  exact ⟨⟨m0, m1, m2, l3, l4, m5, m6, m7, l8, l9⟩, k34_mk w ⟨m0, m1, m2, l3, l4, m5, m6, m7, l8, l9⟩ k3 C3 k4 C4 k8 C8 k9 C9⟩
theorem open_plan {v : Value} {d : DataW H} {ps : List MemPlace} (h : DataW.Trod enc Try.prog w 0 (fun _ => true) true 24 v d ps) (hs : ∃ cs : Array Value, v = .agg cs) :
    ∃ (A : Option Addr) (c : Nat) (L : List S34) (root : Int) (ro : Bool), v = .agg #[.slice A L.length c, .int .i64 root, .bool ro] ∧ L.length ≤ c ∧ Kd.C k34 w A L.length L := by
  obtain ⟨n, hn⟩ := h
  obtain ⟨ag, rfl⟩ := hs
  obtain ⟨xs, n', _, _, hl, hlen, hf⟩ := DataW.trod_struct Try.underlying24 hn
  rw [cellsT24] at hl
  have at_ : ∀ i : Nat, i < 3 → ∃ y, xs[i]? = some y := fun i hi => ⟨_, List.getElem?_eq_getElem (by rw [hlen]; exact hi)⟩
  obtain ⟨y0, z0⟩ := at_ 0 (by decide)
  obtain ⟨y1, z1⟩ := at_ 1 (by decide)
  obtain ⟨y2, z2⟩ := at_ 2 (by decide)
  have h0 := (hf 0 _ rfl).trans z0
  have h1 := (hf 1 _ rfl).trans z1
  have h2 := (hf 2 _ rfl).trans z2
  obtain ⟨A, c, L, g0, k0, _, C0⟩ := op_row k34 Try.underlying22 cellsT34 op_34 h0
  obtain ⟨m1, g1, _⟩ := DataW.trod_int Try.underlying3 h1
  obtain ⟨b2, g2, _⟩ := DataW.trod_bool Try.underlying4 h2
  have e0 := drop_take1 (n := 0) (show (((Value.agg ag).cells.toList).drop 0).take 1 = [.slice A L.length c] from by rw [← cellsT22]; exact g0)
  have e1 := drop_take1 (n := 1) (show (((Value.agg ag).cells.toList).drop 1).take 1 = [.int .i64 m1] from by rw [← cellsT3]; exact g1)
  have e2 := drop_take1 (n := 2) (show (((Value.agg ag).cells.toList).drop 2).take 1 = [.bool b2] from by rw [← cellsT4]; exact g2)
  have e := list3 hl e0 e1 e2
  refine ⟨A, c, L, m1, b2, ?_, k0, C0⟩
  have hc : (Value.agg ag).cells = ag := rfl
  rw [hc] at e
  rw [show ag = #[.slice A L.length c, .int .i64 m1, .bool b2] from by rw [← Array.toArray_toList (xs := ag), e]]
theorem open_ints {v : Value} {d : DataW H} {ps : List MemPlace} (h : DataW.Trod enc Try.prog w 0 (fun _ => true) true 25 v d ps) (hs : ∃ A n c, v = .slice A n c) :
    ∃ (A : Option Addr) (c : Nat) (l : List Int), v = .slice A l.length c ∧ l.length ≤ c ∧ c ≤ 9223372036854775807 ∧ Kd.C (Kd.int .i64) w A l.length l := by
  obtain ⟨n, hn⟩ := h
  obtain ⟨A0, n0, c0, rfl⟩ := hs
  obtain ⟨A, c, l, g, k, kc, C⟩ := op_row (Kd.int .i64) Try.underlying25 cellsT3 (op_int Try.underlying3) hn
  have : Value.slice A0 n0 c0 = .slice A l.length c := by simpa [Value.cells] using g
  exact ⟨A, c, l, this, k, kc, C⟩
theorem open_num {v : Value} {d : DataW H} {ps : List MemPlace} (h : DataW.Trod enc Try.prog w 0 (fun _ => true) true 3 v d ps) (hs : ∃ n, v = .int .i64 n) : ∃ n, v = .int .i64 n ∧ (Lit.int .i64 n).wf = true := by
  obtain ⟨m, hn⟩ := h
  obtain ⟨n0, rfl⟩ := hs
  obtain ⟨n, g, _, hw⟩ := DataW.trod_int Try.underlying3 hn
  have : Value.int .i64 n0 = .int .i64 n := by simpa [Value.cells] using g
  exact ⟨n, this, hw⟩
end
end Go.Proofs.Ytneglmnffdmbiaa.P
