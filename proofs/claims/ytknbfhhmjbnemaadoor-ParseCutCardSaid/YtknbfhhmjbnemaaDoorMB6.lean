/- Proved here, for this seat's claims: what the functions that the laws reach compute: the texts of this work, one behind the other, laid by a program of this session. Conditions: none beside the statement's own. -/
import Derived.Test.YtknbfhhmjbnemaaDoorMB5
import Derived.Test.YtknbfhhmjbnemaaDoorRows
import Derived.WalkKit
import Derived.ProofKit
import Derived.OpenShut
import Derived.ShutString
import Derived.ChangeOld
import Derived.Below
import Derived.SizedLaws
import Derived.HandedShaped
import Derived.LaidMore
import Derived.Lib.LaidTab
import Derived.Stop.Joined
section
namespace Go.Proofs.YtknbfhhmjbnemaaDoor.P
open Go.RowKit Go.Proofs.YtknbfhhmjbnemaaDoorW.PrintWords Go.Proofs.YtknbfhhmjbnemaaDoorW.PrintLast Go.Proofs.YtknbfhhmjbnemaaDoorW.PrintMore Go.Proofs.YtknbfhhmjbnemaaDoor.Pure
set_option linter.unusedVariables false
set_option linter.unusedSimpArgs false

/-! words of the laws' walks -/
/-- A node that is read: what it leads to lies in ok. -/
structure NodeF (W : World) (ok : Nat → Prop) (n : S25) (A : Option Addr) (c : Nat) : Prop where
  hc : n.f4.length ≤ c
  hF : Kd.F k25 W ok A n.f4.length n.f4
theorem NodeF.C {W : World} {ok : Nat → Prop} {n : S25} {A : Option Addr} {c : Nat} (h : NodeF W ok n A c) : Kd.C k25 W A n.f4.length n.f4 := Kd.F_now h.hF
theorem NodeF.below {W W1 : World} {ok : Nat → Prop} {n : S25} {A : Option Addr} {c : Nat} (h : NodeF W ok n A c) (hb : Below W.heap.size W W1) : NodeF W1 ok n A c := ⟨h.hc, Kd.F_below h.hF hb⟩
theorem NodeF.far {W : World} {ok : Nat → Prop} {n : S25} {A : Option Addr} {c : Nat} (h : NodeF W ok n A c) {p : Addr} (hp : ∀ k, ok k → k ≠ p.block) (u : Value) : NodeF (W.setCell p u) ok n A c := ⟨h.hc, Kd.F_far h.hF hp u⟩
/-- .. in a box. -/
structure NodeX (W : World) (b : Nat) (ok : Nat → Prop) (n : S25) (A : Option Addr) (c : Nat) : Prop where
  blk : W.heap[b]? = some (.cells #[.string n.f0, .string n.f1, .int .i64 n.f2, .int .i64 n.f3, .slice A n.f4.length c] 25 (0, 0))
  nd : NodeF W ok n A c
theorem NodeX.below {W W1 : World} {b : Nat} {ok : Nat → Prop} {n : S25} {A : Option Addr} {c : Nat} (h : NodeX W b ok n A c) (hb : Below W.heap.size W W1) : NodeX W1 b ok n A c := ⟨blk_below h.blk hb, h.nd.below hb⟩
theorem NodeX.new {W : World} {ok : Nat → Prop} {n : S25} {A : Option Addr} {c : Nat} (h : NodeF W ok n A c) : NodeX (W.alloc (.cells #[.string n.f0, .string n.f1, .int .i64 n.f2, .int .i64 n.f3, .slice A n.f4.length c] 25 (0, 0))) W.heap.size ok n A c :=
  ⟨blk_new _ _, h.below (below_alloc (Below.refl _ _) _)⟩
theorem NodeX.far {W : World} {b : Nat} {ok : Nat → Prop} {n : S25} {A : Option Addr} {c : Nat} (h : NodeX W b ok n A c) {p : Addr} (hb : b ≠ p.block) (hp : ∀ k, ok k → k ≠ p.block) (u : Value) : NodeX (W.setCell p u) b ok n A c := ⟨blk_far h.blk hb u, h.nd.far hp u⟩
/-- What a law's walk carries: memory as it was, the library's variables. -/
structure LawW (m : Int) (w W : World) : Prop where
  hm : W.cell? ⟨0, 0, none⟩ = some (.int .i64 m)
  ht : TabW W
  bel : Below w.heap.size w W
theorem LawW.below {m : Int} {w W W1 : World} (h : LawW m w W) (hb : Below W.heap.size W W1) : LawW m w W1 := ⟨pw_cell_below hb h.hm, h.ht.below hb, below_then h.bel h.bel.size hb⟩
theorem LawW.alloc {m : Int} {w W : World} (h : LawW m w W) (o : Obj) : LawW m w (W.alloc o) := h.below (below_alloc (Below.refl _ _) _)
theorem LawW.set_ {m : Int} {w W : World} (h : LawW m w W) {b j : Nat} (hb : w.heap.size ≤ b) (u : Value) (h0 : TabW w) (hm : w.cell? ⟨0, 0, none⟩ = some (.int .i64 m)) : LawW m w (W.setCell ⟨b, j, none⟩ u) :=
  have hbel := h.bel.setCell (p := ⟨b, j, none⟩) hb u
  ⟨pw_cell_below hbel hm, h0.below hbel, hbel⟩
def ParX (s : ByteArray) (r : S25 × Int × Int) : Prop := parseX s = r
theorem law_parse {m : Int} {w W : World} (h : LawW m w W) (s : ByteArray) {n : S25} {er at_ : Int} (hx : ParX s (n, er, at_)) :
    Calls Tryd.prog 9 #[.string s] W fun e w' => ∃ A c, e = .returned (.tuple #[.agg #[.string n.f0, .string n.f1, .int .i64 n.f2, .int .i64 n.f3, .slice A n.f4.length c], .int .i64 er, .int .i64 at_]) ∧ NodeF w' (fun k => W.heap.size ≤ k ∧ k < w'.heap.size) n A c ∧ LawW m w w' ∧ Below W.heap.size W w' := by
  have h1 := parseX_run s 5000 (Nat.le_refl _)
  rw [show parseX s = _ from hx] at h1
  refine (parse_calls 5000 s n er at_ m W h.hm h1).mono ?_
  rintro e w' ⟨v, he, hN, hb⟩
  obtain ⟨A, c, rfl⟩ := Kd.N_slice hN
  exact ⟨A, c, he, ⟨(Kd.N_reads' hN).2.1, Kd.F_bound (Kd.N_F hN)⟩, h.below hb, hb⟩
theorem law_alive {m : Int} {w W : World} (h : LawW m w W) : Calls Tryd.prog 8 #[] W fun e w' => e = .returned (.bool true) ∧ LawW m w w' ∧ Below W.heap.size W w' :=
  (alive_calls m W h.hm h.ht).mono fun e w' ⟨he, hb⟩ => ⟨he, h.below hb, hb⟩
theorem law_same {m : Int} {w W : World} (h : LawW m w W) {n p : S25} {A A' : Option Addr} {c c' : Nat} {b r : Bool} {ok ok' : Nat → Prop} (hn : NodeF W ok n A c) (hp : NodeF W ok' p A' c') (k : Nat) (hs : sameF k n p b = some r) :
    Calls Tryd.prog 10 #[.agg #[.string n.f0, .string n.f1, .int .i64 n.f2, .int .i64 n.f3, .slice A n.f4.length c], .agg #[.string p.f0, .string p.f1, .int .i64 p.f2, .int .i64 p.f3, .slice A' p.f4.length c'], .bool b] W fun e w' => e = .returned (.bool r) ∧ LawW m w w' ∧ Below W.heap.size W w' :=
  (cofferdamref11_Same.calls k _ _ _ _ A c _ _ _ _ _ A' c' _ b r W hn.C hn.hc hp.C hp.hc hs).mono fun e w' ⟨he, hb⟩ => ⟨he, h.below hb, hb⟩
/-- How a law ends. -/
def LawEnd (w : World) (e : Ending) (w' : World) : Prop := e = .returned (.bool true) ∧ Below w.heap.size w w'
end Go.Proofs.YtknbfhhmjbnemaaDoor.P
end
section
namespace Go.Proofs.YtknbfhhmjbnemaaDoor
open Go.ChangeShapes Go.WideShapes Go.ChangeAt Go.RowKit
open Go.ChangeMaps (open_string shut_string)
set_option linter.unusedVariables false

/-! what all rows of this seat share: the listed variables, the world's shape -/
def laid3 : List (String × DataW Unit) := Rows.parseJoinedRow.laid
theorem own : ownKnob Tryd.prog.godebug = none := by kernel_rfl
theorem gPow : Tryd.prog.globalNamed "internal/strconv.uint64pow10" = some 1 := by kernel_rfl
theorem tPow : (Tryd.prog.globals[1]?).map (·.type) = some 98 := by kernel_rfl
theorem datPow : (Rows.laid_internal_strconv_uint64pow10 : DataW Unit) = Lib.tabData .u64 Lib.pow10Tab := by kernel_rfl
theorem door_met (os : Os) (args : Array Value) : laidMetH Tryd.prog laid3 ((World.doorLaid Tryd.prog 400 os).forCall (fun _ _ => 0) ⟨#[], args, []⟩).memory :=
  laidMetH_of_parts3 (fuel := 8) (laidMet_of_run' 8 (by kernel_rfl) (by kernel_rfl)) (by kernel_rfl) (by kernel_rfl)
set_option maxRecDepth 100000 in
theorem tab_of_laid {W : World} (h : laidMetH Tryd.prog laid3 W) : P.TabW W := by
  rw [MakeChecks.laidMetH_plain _ _ _ (by kernel_rfl)] at h
  obtain ⟨ps, ⟨g0, t0, cs0, f0, p0, q0, hg0, ht0, hv0, hd0, ⟨g1, t1, cs1, f1, p1, q1, hg1, ht1, hv1, hd1, ⟨g2, t2, cs2, f2, p2, q2, hg2, ht2, hv2, hd2, _, _⟩, _⟩, _⟩, _, _⟩ := h
  obtain rfl := Option.some.inj (gPow.symm.trans hg2)
  obtain rfl := Option.some.inj (tPow.symm.trans ht2)
  rw [datPow] at hd2
  show Lib.TabIs _ _ _ _ _
  unfold Lib.TabIs
  rw [hv2, ← Lib.cells_of_tab Tryd.underlying98 Tryd.underlying91 (by kernel_rfl) (by kernel_rfl) hd2]
variable {H : Type} {enc : TypeId × Value → H}
theorem change_and_shaped {a : Assume} {C : Checked} {os : Os} {f : FuncId} {fn : Func} {s : ChangeSpec} {conds : List PathCond} {apart fresh handsOn again : Bool} {X : World → Array Value → Prop}
    (hX : ∀ (w w' : World) (args : Array Value), w.heap = w'.heap → X w args → X w' args)
    (own : ownKnob C.prog.godebug = none) (started : os.Started) (noInit : C.prog.inits.idxOf? f = none) (hfn : C.prog.funcs[f]? = some fn)
    (witness : ∃ (w : World) (tape : Tape) (i : Input), w.os = os ∧ (w.forCall tape i).Shaped C.prog ∧ i.vars = [] ∧ Input.okWide C.prog (w.forCall tape i) .any w.heap.size f i ∧
      ((s.pre enc C.prog fn conds apart (w.forCall tape i).memory i.args ∧ X (w.forCall tape i).memory i.args) ∧ sizedMet enc C.prog fn (OpenSpec.ofChange s) apart (w.forCall tape i).memory i.args) ∧ a.holds C.prog (lone (Frame.enter C.prog f i.args .normal) [] (w.forCall tape i)))
    (contract : ∀ (W : World) (base : Nat) (args : Array Value) (ds gs : List (DataW H)) (before : List MemPlace),
      (∀ (j : Nat) t v, fn.params[j]? = some t → args[j]? = some v → Value.okWide C.prog W .any base t v) →
      DataW.Whole enc C.prog fn.params.toList s.vars apart W args.toList ds gs before →
      conds.all (PathCond.test C.prog ⟨fn.params.toList, ds, s.plain.varTypes C.prog, gs⟩) = true →
      (DataW.weightsEach C.prog (fn.params.toList ++ s.plain.varTypes C.prog) (ds ++ gs)).all (· ≤ reachBytes) = true → X W args → W.ShapedOpen C.prog →
      a.holds C.prog (lone (Frame.enter C.prog f args .normal) [] W) →
      Calls C.prog f args W fun e W' => ∃ v, e = .returned v ∧ s.post enc C.prog fn apart fresh handsOn again W args v W') :
    ReturnsInHanded a C os f .any (fun w args => (s.pre enc C.prog fn conds apart w args ∧ X w args) ∧ sizedMet enc C.prog fn (OpenSpec.ofChange s) apart w args) (s.post enc C.prog fn apart fresh handsOn again) := by
  refine returnsInHanded_of_calls own started noInit witness ?_
  intro w tape i _ hsh _ hok hpre hholds
  obtain ⟨_, _, _, fn', hfn', _, _, _, _, hval⟩ := hok
  have e : fn' = fn := Option.some.inj (hfn'.symm.trans hfn)
  subst e
  obtain ⟨⟨⟨ds, gs, before, hw, hc⟩, hx⟩, hz⟩ := hpre
  have hw' := DataW.Whole.of_heap (w' := w.forCall tape i) (by rfl) hw
  refine (contract (w.forCall tape i) w.heap.size i.args ds gs before hval hw' hc (hz.weights hw) (hX _ _ _ (by rfl) hx) hsh hholds).mono fun e W' ⟨v, he, hp⟩ => ?_
  subst he
  exact ChangeSpec.post_blind hp
end Go.Proofs.YtknbfhhmjbnemaaDoor
end
