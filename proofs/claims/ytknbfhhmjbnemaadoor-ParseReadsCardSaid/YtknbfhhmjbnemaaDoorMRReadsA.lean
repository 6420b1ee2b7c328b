/- Proved here, for the claim of parseReads_holds: what it is made of: the texts of this work, one behind the other, laid by a program of this session. Conditions: none beside the statement's own. -/
import Derived.Test.YtknbfhhmjbnemaaDoorMR1
import Derived.Test.YtknbfhhmjbnemaaDoorMR4
set_option linter.unusedVariables false
set_option linter.unusedSimpArgs false
section
namespace Go.Proofs.YtknbfhhmjbnemaaDoor.P
open Go.RowKit Go.Proofs.YtknbfhhmjbnemaaDoorW.PrintWords Go.Proofs.YtknbfhhmjbnemaaDoorW.PrintLast Go.Proofs.YtknbfhhmjbnemaaDoorW.PrintMore
attribute [local go_sem] xBh xBp

/-- A state of type 48 at block g of W; what its slices lead to came in by w0. -/
def xAe (w0 W : World) (g : Nat) (f0 : List (S60)) (f1 : Int) (f2 : Int) (f3 : Int) (f4 : Int) : Prop := ∃ A0 c0, W.heap[g]? = some (.cells #[.slice A0 f0.length c0, .int .i64 f1, .int .i64 f2, .int .i64 f3, .int .i64 f4] 48 (0, 0)) ∧ w0.heap.size ≤ g ∧ Kd.C k60 w0 A0 f0.length f0
theorem xAe.grown {w0 W : World} {g : Nat} {f0 : List (S60)} {f1 : Int} {f2 : Int} {f3 : Int} {f4 : Int} {W1 : World} {row : Option Nat} (h : xAe w0 W g f0 f1 f2 f3 f4) (hw : W.grownBy W1 row) (hne : some g ≠ row) : xAe w0 W1 g f0 f1 f2 f3 f4 := by
 obtain ⟨A0, c0, hb, hg, hr0⟩ := h
 exact ⟨A0, c0, xBk hb hw hne, hg, hr0⟩
theorem xAe.below {w0 W : World} {g : Nat} {f0 : List (S60)} {f1 : Int} {f2 : Int} {f3 : Int} {f4 : Int} {W1 : World} (h : xAe w0 W g f0 f1 f2 f3 f4) (hw : Below W.heap.size W W1) : xAe w0 W1 g f0 f1 f2 f3 f4 := h.grown (xHf hw none) (by simp)
theorem xAe.alloc {w0 W : World} {g : Nat} {f0 : List (S60)} {f1 : Int} {f2 : Int} {f3 : Int} {f4 : Int} (h : xAe w0 W g f0 f1 f2 f3 f4) (o : Obj) : xAe w0 (W.alloc o) g f0 f1 f2 f3 f4 := h.below (xA2 (Below.refl _ _) o)
theorem xAe.drewN {w0 W : World} {g : Nat} {f0 : List (S60)} {f1 : Int} {f2 : Int} {f3 : Int} {f4 : Int} (h : xAe w0 W g f0 f1 f2 f3 f4) (m : Nat) : xAe w0 (W.drewN m) g f0 f1 f2 f3 f4 := h
theorem xAe.drew {w0 W : World} {g : Nat} {f0 : List (S60)} {f1 : Int} {f2 : Int} {f3 : Int} {f4 : Int} (h : xAe w0 W g f0 f1 f2 f3 f4) : xAe w0 W.drew g f0 f1 f2 f3 f4 := h
theorem xAe.apart {w0 W : World} {g : Nat} {f0 : List (S60)} {f1 : Int} {f2 : Int} {f3 : Int} {f4 : Int} {α : Type} {d : Kd α} {e : Nat} {base : Nat} {ok : Nat → Prop} {v : Value} {xs : List α} (h : xAe w0 W g f0 f1 f2 f3 f4) (ho : d.R e W base ok v xs) (ht : ∀ q, q ∈ e :: d.E → q ≠ 48) : d.R e W base (fun k => ok k ∧ k ≠ g) v xs := by
 obtain ⟨A0, c0, hb, hg, hr0⟩ := h
 exact Kd.R_types ho hb ht
theorem xAe.lt {w0 W : World} {g : Nat} {f0 : List (S60)} {f1 : Int} {f2 : Int} {f3 : Int} {f4 : Int} (h : xAe w0 W g f0 f1 f2 f3 f4) : g < W.heap.size := by
 obtain ⟨A0, c0, hb, hg, hr0⟩ := h
 exact xBs hb
theorem xAe.ge {w0 W : World} {g : Nat} {f0 : List (S60)} {f1 : Int} {f2 : Int} {f3 : Int} {f4 : Int} (h : xAe w0 W g f0 f1 f2 f3 f4) : w0.heap.size ≤ g := by
 obtain ⟨A0, c0, hb, hg, hr0⟩ := h
 exact hg
theorem xAe.far {w0 W : World} {g : Nat} {f0 : List (S60)} {f1 : Int} {f2 : Int} {f3 : Int} {f4 : Int} {p : Addr} (h : xAe w0 W g f0 f1 f2 f3 f4) (hne : g ≠ p.block) (u : Value) : xAe w0 (W.setCell p u) g f0 f1 f2 f3 f4 := by
 obtain ⟨A0, c0, hb, hg, hr0⟩ := h
 exact ⟨A0, c0, xAh hb hne u, hg, hr0⟩
theorem xC9 {W : World} {g : Nat} {A0 : Option Addr} {c0 : Nat} {f0 : List (S60)} {f1 : Int} {f2 : Int} {f3 : Int} {f4 : Int} (h : W.heap[g]? = some (.cells #[.slice A0 f0.length c0, .int .i64 f1, .int .i64 f2, .int .i64 f3, .int .i64 f4] 48 (0, 0))) : W.cell? ⟨g, 0, none⟩ = some (.slice A0 f0.length c0) := (xA4 h 0).trans rfl
theorem xBz {W : World} {g : Nat} {A0 : Option Addr} {c0 : Nat} {f0 : List (S60)} {f1 : Int} {f2 : Int} {f3 : Int} {f4 : Int} (h : W.heap[g]? = some (.cells #[.slice A0 f0.length c0, .int .i64 f1, .int .i64 f2, .int .i64 f3, .int .i64 f4] 48 (0, 0))) : W.cell? ⟨g, 1, none⟩ = some (.int .i64 f1) := (xA4 h 1).trans rfl
theorem xAe.set_1 {w0 W : World} {g : Nat} {f0 : List (S60)} {f1 : Int} {f2 : Int} {f3 : Int} {f4 : Int} (h : xAe w0 W g f0 f1 f2 f3 f4) (x : Int) : xAe w0 (W.setCell ⟨g, 1, none⟩ (.int .i64 x)) g f0 x f2 f3 f4 := by
 obtain ⟨A0, c0, hb, hg, hr0⟩ := h
 exact ⟨A0, c0, by simpa using xBm hb 1 (.int .i64 x), hg, hr0⟩
theorem xD0 {W : World} {g : Nat} {A0 : Option Addr} {c0 : Nat} {f0 : List (S60)} {f1 : Int} {f2 : Int} {f3 : Int} {f4 : Int} (h : W.heap[g]? = some (.cells #[.slice A0 f0.length c0, .int .i64 f1, .int .i64 f2, .int .i64 f3, .int .i64 f4] 48 (0, 0))) : W.cell? ⟨g, 2, none⟩ = some (.int .i64 f2) := (xA4 h 2).trans rfl
theorem xCf {W : World} {g : Nat} {A0 : Option Addr} {c0 : Nat} {f0 : List (S60)} {f1 : Int} {f2 : Int} {f3 : Int} {f4 : Int} (h : W.heap[g]? = some (.cells #[.slice A0 f0.length c0, .int .i64 f1, .int .i64 f2, .int .i64 f3, .int .i64 f4] 48 (0, 0))) : W.cell? ⟨g, 3, none⟩ = some (.int .i64 f3) := (xA4 h 3).trans rfl
theorem xAe.set_3 {w0 W : World} {g : Nat} {f0 : List (S60)} {f1 : Int} {f2 : Int} {f3 : Int} {f4 : Int} (h : xAe w0 W g f0 f1 f2 f3 f4) (x : Int) : xAe w0 (W.setCell ⟨g, 3, none⟩ (.int .i64 x)) g f0 f1 f2 x f4 := by
 obtain ⟨A0, c0, hb, hg, hr0⟩ := h
 exact ⟨A0, c0, by simpa using xBm hb 3 (.int .i64 x), hg, hr0⟩
theorem xCu {W : World} {g : Nat} {A0 : Option Addr} {c0 : Nat} {f0 : List (S60)} {f1 : Int} {f2 : Int} {f3 : Int} {f4 : Int} (h : W.heap[g]? = some (.cells #[.slice A0 f0.length c0, .int .i64 f1, .int .i64 f2, .int .i64 f3, .int .i64 f4] 48 (0, 0))) : W.cell? ⟨g, 4, none⟩ = some (.int .i64 f4) := (xA4 h 4).trans rfl
theorem xAe.set_4 {w0 W : World} {g : Nat} {f0 : List (S60)} {f1 : Int} {f2 : Int} {f3 : Int} {f4 : Int} (h : xAe w0 W g f0 f1 f2 f3 f4) (x : Int) : xAe w0 (W.setCell ⟨g, 4, none⟩ (.int .i64 x)) g f0 f1 f2 f3 x := by
 obtain ⟨A0, c0, hb, hg, hr0⟩ := h
 exact ⟨A0, c0, by simpa using xBm hb 4 (.int .i64 x), hg, hr0⟩
theorem xAe.new (w0 W : World) (A0 : Option Addr) (c0 : Nat) (f0 : List (S60)) (f1 : Int) (f2 : Int) (f3 : Int) (f4 : Int) (hB : Below w0.heap.size w0 W) (hr0 : Kd.C k60 w0 A0 f0.length f0) : xAe w0 (W.alloc (.cells #[.slice A0 f0.length c0, .int .i64 f1, .int .i64 f2, .int .i64 f3, .int .i64 f4] 48)) W.heap.size f0 f1 f2 f3 f4 := ⟨A0, c0, by simpa using heap_alloc_new W _, hB.size, hr0⟩

/-! ### xAq: function 41 -/
def xAq.f (s0_0 : List (S60)) (s0_1 : Int) (s0_2 : Int) (s0_3 : Int) (s0_4 : Int) : Option (Int × Int × Int × Int × Int) := if s0_1 < (s0_0.length : Int) then (if 0 ≤ s0_1 then (some ((xAu s0_0 s0_1).f3, s0_1, s0_2, s0_3, s0_4)) else (none)) else (some (s0_2, s0_1, s0_2, s0_3, s0_4))
set_option maxHeartbeats 8000000 in
set_option maxRecDepth 100000 in
theorem xAq.calls (g : Nat) (s0_0 : List (S60)) (s0_1 : Int) (s0_2 : Int) (s0_3 : Int) (s0_4 : Int) (r1 : Int) (r2 : Int) (r3 : Int) (r4 : Int) (r5 : Int) (w0 w : World) (hI : xAe w0 w g s0_0 s0_1 s0_2 s0_3 s0_4) (hB : Below w0.heap.size w0 w) (h : xAq.f s0_0 s0_1 s0_2 s0_3 s0_4 = some (r1, r2, r3, r4, r5)) :
  Calls Tryd.prog 41 #[.pointer (some ⟨g, 0, none⟩)] w fun e w' => e = .returned (.int .i64 r1) ∧ xAe w0 w' g s0_0 r2 r3 r4 r5 ∧ Below w0.heap.size w0 w' ∧ xAk w w' g none := by
 have HI0 := Aside0.mk hI
 have HK := Aside0.mk (xAk.refl w g none)
 have HL := Aside0.mk hB.size
 clear hI
 have HW0 := Aside0.mk hB.size
 have HB := Aside0.mk hB
 clear hB
 have H : (if s0_1 < (s0_0.length : Int) then (if 0 ≤ s0_1 then (some ((xAu s0_0 s0_1).f3, s0_1, s0_2, s0_3, s0_4)) else (none)) else (some (s0_2, s0_1, s0_2, s0_3, s0_4))) = some (r1, r2, r3, r4, r5) := h
 clear h
 by_cases c2 : s0_1 < (s0_0.length : Int)
 ·rw [if_pos c2] at H
  have c2b0 : decide (s0_1 < (s0_0.length : Int)) = true := decide_eq_true c2
  clear c2
  by_cases c3 : 0 ≤ s0_1
  ·rw [if_pos c3] at H
   have c3b0 : decide (0 ≤ s0_1) = true := decide_eq_true c3
   clear c3
   simp only [Option.some.injEq, Prod.mk.injEq] at H
   obtain ⟨rfl, rfl, rfl, rfl, rfl⟩ := H
   obtain ⟨ASz4_0, cSz4_0, HGz4, hgz4, HSz4_0⟩ := HI0.out
   have hcz4_0 := xC9 HGz4
   have hcz4_1 := xBz HGz4
   have hcz4_2 := xD0 HGz4
   have hcz4_3 := xCf HGz4
   have hcz4_4 := xCu HGz4
   have hfz4_1 := xA5 HGz4 1
   have hfz4_2 := xA5 HGz4 2
   have hfz4_3 := xA5 HGz4 3
   have hfz4_4 := xA5 HGz4 4
   clear HGz4 hgz4
   have p226 : 0 ≤ (s0_1 : Int) := of_decide_eq_true (by first | (with_reducible assumption) | assumption)
   have q226 : s0_1 < (s0_0.length : Int) := of_decide_eq_true (by first | (with_reducible assumption) | assumption)
   obtain ⟨ad226, e226, hx226_0, hx226_1, hx226_2, hx226_3⟩ := xD6 HSz4_0 s0_1 p226 q226
   cases e226
   replace hx226_0 := xAb HB.out hx226_0
   replace hx226_1 := xAb HB.out hx226_1
   replace hx226_2 := xAb HB.out hx226_2
   replace hx226_3 := xAb HB.out hx226_3
   replace p226 := eq_true p226
   replace q226 := eq_true q226
   go_enter Tryd.func41, Tryd.ntmps41
   go_wp2
   repeat (go_quiet (fail); try go_wp2)
   go_ret
   exact ⟨by first | rfl | (simp <;> rfl) | (simp [*] <;> rfl), by repeat (first | (with_reducible first | exact HI0.out | apply xAe.alloc | apply xAe.drewN | apply xAe.drew | apply xAe.set_1 | apply xAe.set_2 | apply xAe.set_3 | apply xAe.set_4) | exact HI0.out), by repeat (first | (with_reducible first | exact HB.out | apply xA2 | apply xA0 | apply xA3 | refine xAa ?_ (xAe.ge HI0.out)) | exact HB.out), by repeat (first | (with_reducible first | exact HK.out | apply xAk.set_ | apply xB3 | apply xBb | apply xB6) | exact HK.out)⟩
  ·rw [if_neg c3] at H
   exact absurd H (by simp)
 ·rw [if_neg c2] at H
  have c2b0 : decide (s0_1 < (s0_0.length : Int)) = false := decide_eq_false c2
  clear c2
  simp only [Option.some.injEq, Prod.mk.injEq] at H
  obtain ⟨rfl, rfl, rfl, rfl, rfl⟩ := H
  obtain ⟨ASz5_0, cSz5_0, HGz5, hgz5, HSz5_0⟩ := HI0.out
  have hcz5_0 := xC9 HGz5
  have hcz5_1 := xBz HGz5
  have hcz5_2 := xD0 HGz5
  have hcz5_3 := xCf HGz5
  have hcz5_4 := xCu HGz5
  have hfz5_1 := xA5 HGz5 1
  have hfz5_2 := xA5 HGz5 2
  have hfz5_3 := xA5 HGz5 3
  have hfz5_4 := xA5 HGz5 4
  clear HGz5 hgz5
  go_enter Tryd.func41, Tryd.ntmps41
  go_wp2
  repeat (go_quiet (fail); try go_wp2)
  go_ret
  exact ⟨by first | rfl | (simp <;> rfl) | (simp [*] <;> rfl), by repeat (first | (with_reducible first | exact HI0.out | apply xAe.alloc | apply xAe.drewN | apply xAe.drew | apply xAe.set_1 | apply xAe.set_2 | apply xAe.set_3 | apply xAe.set_4) | exact HI0.out), by repeat (first | (with_reducible first | exact HB.out | apply xA2 | apply xA0 | apply xA3 | refine xAa ?_ (xAe.ge HI0.out)) | exact HB.out), by repeat (first | (with_reducible first | exact HK.out | apply xAk.set_ | apply xB3 | apply xBb | apply xB6) | exact HK.out)⟩

end Go.Proofs.YtknbfhhmjbnemaaDoor.P
end
section
namespace Go.Proofs.YtknbfhhmjbnemaaDoor.P
open Go.RowKit Go.Proofs.YtknbfhhmjbnemaaDoorW.PrintWords Go.Proofs.YtknbfhhmjbnemaaDoorW.PrintLast Go.Proofs.YtknbfhhmjbnemaaDoorW.PrintMore
attribute [local go_sem] xBh xBp

/-! ### xAn: function 43 -/
def xAn.f (s0_0 : List (S60)) (s0_1 : Int) (s0_2 : Int) (s0_3 : Int) (s0_4 : Int) (a1 : Int) : Option (Int × Int × Int × Int) := if s0_3 = 0 then ((xAq.f s0_0 s0_1 s0_2 a1 s0_4).bind fun bt231 => (some (bt231.2.1, bt231.2.2.1, bt231.2.2.2.1, bt231.1))) else (some (s0_1, s0_2, s0_3, s0_4))
set_option maxHeartbeats 8000000 in
set_option maxRecDepth 100000 in
theorem xAn.calls (g : Nat) (s0_0 : List (S60)) (s0_1 : Int) (s0_2 : Int) (s0_3 : Int) (s0_4 : Int) (a1 : Int) (r1 : Int) (r2 : Int) (r3 : Int) (r4 : Int) (w0 w : World) (hI : xAe w0 w g s0_0 s0_1 s0_2 s0_3 s0_4) (hB : Below w0.heap.size w0 w) (h : xAn.f s0_0 s0_1 s0_2 s0_3 s0_4 a1 = some (r1, r2, r3, r4)) :
  Calls Tryd.prog 43 #[.pointer (some ⟨g, 0, none⟩), .int .i64 a1] w fun e w' => e = .returned (.tuple #[]) ∧ xAe w0 w' g s0_0 r1 r2 r3 r4 ∧ Below w0.heap.size w0 w' ∧ xAk w w' g none := by
 have HI0 := Aside0.mk hI
 have HK := Aside0.mk (xAk.refl w g none)
 have HL := Aside0.mk hB.size
 clear hI
 have HW0 := Aside0.mk hB.size
 have HB := Aside0.mk hB
 clear hB
 have H : (if s0_3 = 0 then ((xAq.f s0_0 s0_1 s0_2 a1 s0_4).bind fun bt231 => (some (bt231.2.1, bt231.2.2.1, bt231.2.2.2.1, bt231.1))) else (some (s0_1, s0_2, s0_3, s0_4))) = some (r1, r2, r3, r4) := h
 clear h
 by_cases c3 : s0_3 = 0
 ·rw [if_pos c3] at H
  have c3b0 : (s0_3 == 0) = true := beq_iff_eq.mpr c3
  have c3b1 : (s0_3 != 0) = false := bne_eq_false_iff_eq.mpr c3
  clear c3
  replace H := Option.bind_eq_some_iff.mp H
  obtain ⟨⟨t231, t232, t233, t234, t235⟩, A40, H⟩ := H
  replace H : (some (t232, t233, t234, t231)) = some (r1, r2, r3, r4) := H
  have A4 := Aside0.mk A40
  clear A40
  simp only [Option.some.injEq, Prod.mk.injEq] at H
  obtain ⟨rfl, rfl, rfl, rfl⟩ := H
  obtain ⟨ASz5_0, cSz5_0, HGz5, hgz5, HSz5_0⟩ := HI0.out
  have hcz5_0 := xC9 HGz5
  have hcz5_1 := xBz HGz5
  have hcz5_2 := xD0 HGz5
  have hcz5_3 := xCf HGz5
  have hcz5_4 := xCu HGz5
  have hfz5_1 := xA5 HGz5 1
  have hfz5_2 := xA5 HGz5 2
  have hfz5_3 := xA5 HGz5 3
  have hfz5_4 := xA5 HGz5 4
  clear HGz5 hgz5
  go_enter Tryd.func43, Tryd.ntmps43
  go_wp2_with (first | ((with_reducible refine xAo (f := 41) rfl ?_); refine xBo (some 15) rfl rfl Tryd.func41 (by kernel_rfl) rfl #[.pointer (some ⟨g, 0, none⟩)] rfl (by (try simp only [List.map_toArray, List.map_cons, List.map_nil]); first | done | rfl | (simp only [List.length_drop, List.length_take]; rfl)) ?_; (with_reducible refine (xAq.calls g s0_0 s0_1 s0_2 a1 s0_4 t231 t232 t233 t234 t235 w0 _ ?side1 ?side2 A4.out).mono ?_); (case side1 => repeat (first | (with_reducible first | exact HI0.out | apply xAe.alloc | apply xAe.drewN | apply xAe.drew | apply xAe.set_1 | apply xAe.set_2 | apply xAe.set_3 | apply xAe.set_4) | exact HI0.out)); (case side2 => repeat (first | (with_reducible first | exact HB.out | apply xA2 | apply xA0 | apply xA3 | refine xAa ?_ (xAe.ge HI0.out)) | exact HB.out)); rintro e w6 ⟨rfl, hi, hb, hk⟩; refine ⟨_, rfl, ?_⟩; have n0_ := Aside0.mk (xAk.trans (by repeat (first | (with_reducible first | exact HK.out | apply xAk.set_ | apply xB3 | apply xBb | apply xB6) | exact HK.out)) hk (.inl rfl)); have n1_ := Aside0.mk (hb); have n2_ := Aside0.mk (hi); clear HK; clear HB; clear HI0; have HK := n0_; have HB := n1_; have HI0 := n2_; clear n0_ n1_ n2_; (try clear hb); (try clear hb2); (try clear hk); (try clear hi); obtain ⟨ASz7_0, cSz7_0, HGz7, hgz7, HSz7_0⟩ := HI0.out; have hcz7_0 := xC9 HGz7; have hcz7_1 := xBz HGz7; have hcz7_2 := xD0 HGz7; have hcz7_3 := xCf HGz7; have hcz7_4 := xCu HGz7; have hfz7_1 := xA5 HGz7 1; have hfz7_2 := xA5 HGz7 2; have hfz7_3 := xA5 HGz7 3; have hfz7_4 := xA5 HGz7 4; clear HGz7 hgz7))
  first | go_end0 | ((try simp only [Exit.inBlock, Exit.then]); refine bodyPost_ret (results_none rfl _ _ _) rfl ?_)
  exact ⟨by first | rfl | (simp <;> rfl) | (simp [*] <;> rfl), by repeat (first | (with_reducible first | exact HI0.out | apply xAe.alloc | apply xAe.drewN | apply xAe.drew | apply xAe.set_1 | apply xAe.set_2 | apply xAe.set_3 | apply xAe.set_4) | exact HI0.out), by repeat (first | (with_reducible first | exact HB.out | apply xA2 | apply xA0 | apply xA3 | refine xAa ?_ (xAe.ge HI0.out)) | exact HB.out), by repeat (first | (with_reducible first | exact HK.out | apply xAk.set_ | apply xB3 | apply xBb | apply xB6) | exact HK.out)⟩
 ·rw [if_neg c3] at H
  have c3b0 : (s0_3 == 0) = false := beq_eq_false_iff_ne.mpr c3
  have c3b1 : (s0_3 != 0) = true := bne_iff_ne.mpr c3
  simp only [Option.some.injEq, Prod.mk.injEq] at H
  obtain ⟨rfl, rfl, rfl, rfl⟩ := H
  obtain ⟨ASz8_0, cSz8_0, HGz8, hgz8, HSz8_0⟩ := HI0.out
  have hcz8_0 := xC9 HGz8
  have hcz8_1 := xBz HGz8
  have hcz8_2 := xD0 HGz8
  have hcz8_3 := xCf HGz8
  have hcz8_4 := xCu HGz8
  have hfz8_1 := xA5 HGz8 1
  have hfz8_2 := xA5 HGz8 2
  have hfz8_3 := xA5 HGz8 3
  have hfz8_4 := xA5 HGz8 4
  clear HGz8 hgz8
  go_enter Tryd.func43, Tryd.ntmps43
  go_wp2
  first | go_end0 | ((try simp only [Exit.inBlock, Exit.then]); refine bodyPost_ret (results_none rfl _ _ _) rfl ?_)
  exact ⟨by first | rfl | (simp <;> rfl) | (simp [*] <;> rfl), by repeat (first | (with_reducible first | exact HI0.out | apply xAe.alloc | apply xAe.drewN | apply xAe.drew | apply xAe.set_1 | apply xAe.set_2 | apply xAe.set_3 | apply xAe.set_4) | exact HI0.out), by repeat (first | (with_reducible first | exact HB.out | apply xA2 | apply xA0 | apply xA3 | refine xAa ?_ (xAe.ge HI0.out)) | exact HB.out), by repeat (first | (with_reducible first | exact HK.out | apply xAk.set_ | apply xB3 | apply xBb | apply xB6) | exact HK.out)⟩

end Go.Proofs.YtknbfhhmjbnemaaDoor.P
end
section
namespace Go.Proofs.YtknbfhhmjbnemaaDoor.P
open Go.RowKit Go.Proofs.YtknbfhhmjbnemaaDoorW.PrintWords Go.Proofs.YtknbfhhmjbnemaaDoorW.PrintLast Go.Proofs.YtknbfhhmjbnemaaDoorW.PrintMore
attribute [local go_sem] xBh xBp

/-! ### xAi: function 42 -/
def xAi.f (s0_0 : List (S60)) (s0_1 : Int) (s0_2 : Int) (s0_3 : Int) (s0_4 : Int) (a1 : ByteArray) : Option (Bool × Int × Int × Int × Int) := if s0_3 = 0 then (if s0_1 < (s0_0.length : Int) then (if 0 ≤ s0_1 then (if ((xAu s0_0 s0_1).f0) = 0 then (some ((((xAu s0_0 s0_1).f1).toList == a1.toList), s0_1, s0_2, s0_3, s0_4)) else (if ((xAu s0_0 s0_1).f0) = 3 then (some ((((xAu s0_0 s0_1).f1).toList == a1.toList), s0_1, s0_2, s0_3, s0_4)) else (some (false, s0_1, s0_2, s0_3, s0_4)))) else (none)) else (some (false, s0_1, s0_2, s0_3, s0_4))) else (some (false, s0_1, s0_2, s0_3, s0_4))
set_option maxHeartbeats 8000000 in
set_option maxRecDepth 100000 in
theorem xAi.calls (g : Nat) (s0_0 : List (S60)) (s0_1 : Int) (s0_2 : Int) (s0_3 : Int) (s0_4 : Int) (a1 : ByteArray) (r1 : Bool) (r2 : Int) (r3 : Int) (r4 : Int) (r5 : Int) (w0 w : World) (hI : xAe w0 w g s0_0 s0_1 s0_2 s0_3 s0_4) (hB : Below w0.heap.size w0 w) (h : xAi.f s0_0 s0_1 s0_2 s0_3 s0_4 a1 = some (r1, r2, r3, r4, r5)) :
  Calls Tryd.prog 42 #[.pointer (some ⟨g, 0, none⟩), .string a1] w fun e w' => e = .returned (.bool r1) ∧ xAe w0 w' g s0_0 r2 r3 r4 r5 ∧ Below w0.heap.size w0 w' ∧ xAk w w' g none := by
 have HI0 := Aside0.mk hI
 have HK := Aside0.mk (xAk.refl w g none)
 have HL := Aside0.mk hB.size
 clear hI
 have HW0 := Aside0.mk hB.size
 have HB := Aside0.mk hB
 clear hB
 have H : (if s0_3 = 0 then (if s0_1 < (s0_0.length : Int) then (if 0 ≤ s0_1 then (if ((xAu s0_0 s0_1).f0) = 0 then (some ((((xAu s0_0 s0_1).f1).toList == a1.toList), s0_1, s0_2, s0_3, s0_4)) else (if ((xAu s0_0 s0_1).f0) = 3 then (some ((((xAu s0_0 s0_1).f1).toList == a1.toList), s0_1, s0_2, s0_3, s0_4)) else (some (false, s0_1, s0_2, s0_3, s0_4)))) else (none)) else (some (false, s0_1, s0_2, s0_3, s0_4))) else (some (false, s0_1, s0_2, s0_3, s0_4))) = some (r1, r2, r3, r4, r5) := h
 clear h
 by_cases c3 : s0_3 = 0
 ·rw [if_pos c3] at H
  have c3b0 : (s0_3 == 0) = true := beq_iff_eq.mpr c3
  have c3b1 : (s0_3 != 0) = false := bne_eq_false_iff_eq.mpr c3
  clear c3
  by_cases c4 : s0_1 < (s0_0.length : Int)
  ·rw [if_pos c4] at H
   have c4b0 : decide (s0_1 < (s0_0.length : Int)) = true := decide_eq_true c4
   clear c4
   by_cases c5 : 0 ≤ s0_1
   ·rw [if_pos c5] at H
    have c5b0 : decide (0 ≤ s0_1) = true := decide_eq_true c5
    clear c5
    by_cases c6 : ((xAu s0_0 s0_1).f0) = 0
    ·rw [if_pos c6] at H
     have c6b0 : (((xAu s0_0 s0_1).f0) == 0) = true := beq_iff_eq.mpr c6
     have c6b1 : (((xAu s0_0 s0_1).f0) != 0) = false := bne_eq_false_iff_eq.mpr c6
     clear c6
     simp only [Option.some.injEq, Prod.mk.injEq] at H
     obtain ⟨rfl, rfl, rfl, rfl, rfl⟩ := H
     obtain ⟨ASz7_0, cSz7_0, HGz7, hgz7, HSz7_0⟩ := HI0.out
     have hcz7_0 := xC9 HGz7
     have hcz7_1 := xBz HGz7
     have hcz7_2 := xD0 HGz7
     have hcz7_3 := xCf HGz7
     have hcz7_4 := xCu HGz7
     have hfz7_1 := xA5 HGz7 1
     have hfz7_2 := xA5 HGz7 2
     have hfz7_3 := xA5 HGz7 3
     have hfz7_4 := xA5 HGz7 4
     clear HGz7 hgz7
     have p227 : 0 ≤ (s0_1 : Int) := of_decide_eq_true (by first | (with_reducible assumption) | assumption)
     have q227 : s0_1 < (s0_0.length : Int) := of_decide_eq_true (by first | (with_reducible assumption) | assumption)
     obtain ⟨ad227, e227, hx227_0, hx227_1, hx227_2, hx227_3⟩ := xD6 HSz7_0 s0_1 p227 q227
     cases e227
     replace hx227_0 := xAb HB.out hx227_0
     replace hx227_1 := xAb HB.out hx227_1
     replace hx227_2 := xAb HB.out hx227_2
     replace hx227_3 := xAb HB.out hx227_3
     replace p227 := eq_true p227
     replace q227 := eq_true q227
     have p228 : 0 ≤ (s0_1 : Int) := of_decide_eq_true (by first | (with_reducible assumption) | assumption)
     have q228 : s0_1 < (s0_0.length : Int) := of_decide_eq_true (by first | (with_reducible assumption) | assumption)
     obtain ⟨ad228, e228, hx228_0, hx228_1, hx228_2, hx228_3⟩ := xD6 HSz7_0 s0_1 p228 q228
     obtain rfl : ad227 = ad228 := (by injection e228)
     replace hx228_0 := xAb HB.out hx228_0
     replace hx228_1 := xAb HB.out hx228_1
     replace hx228_2 := xAb HB.out hx228_2
     replace hx228_3 := xAb HB.out hx228_3
     replace p228 := eq_true p228
     replace q228 := eq_true q228
     go_enter Tryd.func42, Tryd.ntmps42
     go_wp2
     repeat (go_quiet (fail); try go_wp2)
     go_ret
     exact ⟨by first | rfl | (simp <;> rfl) | (simp [*] <;> rfl), by repeat (first | (with_reducible first | exact HI0.out | apply xAe.alloc | apply xAe.drewN | apply xAe.drew | apply xAe.set_1 | apply xAe.set_2 | apply xAe.set_3 | apply xAe.set_4) | exact HI0.out), by repeat (first | (with_reducible first | exact HB.out | apply xA2 | apply xA0 | apply xA3 | refine xAa ?_ (xAe.ge HI0.out)) | exact HB.out), by repeat (first | (with_reducible first | exact HK.out | apply xAk.set_ | apply xB3 | apply xBb | apply xB6) | exact HK.out)⟩
    ·rw [if_neg c6] at H
     have c6b0 : (((xAu s0_0 s0_1).f0) == 0) = false := beq_eq_false_iff_ne.mpr c6
     have c6b1 : (((xAu s0_0 s0_1).f0) != 0) = true := bne_iff_ne.mpr c6
     by_cases c8 : ((xAu s0_0 s0_1).f0) = 3
     ·rw [if_pos c8] at H
      have c8b0 : (((xAu s0_0 s0_1).f0) == 3) = true := beq_iff_eq.mpr c8
      have c8b1 : (((xAu s0_0 s0_1).f0) != 3) = false := bne_eq_false_iff_eq.mpr c8
      clear c8
      simp only [Option.some.injEq, Prod.mk.injEq] at H
      obtain ⟨rfl, rfl, rfl, rfl, rfl⟩ := H
      obtain ⟨ASz9_0, cSz9_0, HGz9, hgz9, HSz9_0⟩ := HI0.out
      have hcz9_0 := xC9 HGz9
      have hcz9_1 := xBz HGz9
      have hcz9_2 := xD0 HGz9
      have hcz9_3 := xCf HGz9
      have hcz9_4 := xCu HGz9
      have hfz9_1 := xA5 HGz9 1
      have hfz9_2 := xA5 HGz9 2
      have hfz9_3 := xA5 HGz9 3
      have hfz9_4 := xA5 HGz9 4
      clear HGz9 hgz9
      have p227 : 0 ≤ (s0_1 : Int) := of_decide_eq_true (by first | (with_reducible assumption) | assumption)
      have q227 : s0_1 < (s0_0.length : Int) := of_decide_eq_true (by first | (with_reducible assumption) | assumption)
      obtain ⟨ad227, e227, hx227_0, hx227_1, hx227_2, hx227_3⟩ := xD6 HSz9_0 s0_1 p227 q227
      cases e227
      replace hx227_0 := xAb HB.out hx227_0
      replace hx227_1 := xAb HB.out hx227_1
      replace hx227_2 := xAb HB.out hx227_2
      replace hx227_3 := xAb HB.out hx227_3
      replace p227 := eq_true p227
      replace q227 := eq_true q227
      have p229 : 0 ≤ (s0_1 : Int) := of_decide_eq_true (by first | (with_reducible assumption) | assumption)
      have q229 : s0_1 < (s0_0.length : Int) := of_decide_eq_true (by first | (with_reducible assumption) | assumption)
      obtain ⟨ad229, e229, hx229_0, hx229_1, hx229_2, hx229_3⟩ := xD6 HSz9_0 s0_1 p229 q229
      obtain rfl : ad227 = ad229 := (by injection e229)
      replace hx229_0 := xAb HB.out hx229_0
      replace hx229_1 := xAb HB.out hx229_1
      replace hx229_2 := xAb HB.out hx229_2
      replace hx229_3 := xAb HB.out hx229_3
      replace p229 := eq_true p229
      replace q229 := eq_true q229
      have p230 : 0 ≤ (s0_1 : Int) := of_decide_eq_true (by first | (with_reducible assumption) | assumption)
      have q230 : s0_1 < (s0_0.length : Int) := of_decide_eq_true (by first | (with_reducible assumption) | assumption)
      obtain ⟨ad230, e230, hx230_0, hx230_1, hx230_2, hx230_3⟩ := xD6 HSz9_0 s0_1 p230 q230
      obtain rfl : ad227 = ad230 := (by injection e230)
      replace hx230_0 := xAb HB.out hx230_0
      replace hx230_1 := xAb HB.out hx230_1
      replace hx230_2 := xAb HB.out hx230_2
      replace hx230_3 := xAb HB.out hx230_3
      replace p230 := eq_true p230
      replace q230 := eq_true q230
      go_enter Tryd.func42, Tryd.ntmps42
      go_wp2
      repeat (go_quiet (fail); try go_wp2)
      go_ret
      exact ⟨by first | rfl | (simp <;> rfl) | (simp [*] <;> rfl), by repeat (first | (with_reducible first | exact HI0.out | apply xAe.alloc | apply xAe.drewN | apply xAe.drew | apply xAe.set_1 | apply xAe.set_2 | apply xAe.set_3 | apply xAe.set_4) | exact HI0.out), by repeat (first | (with_reducible first | exact HB.out | apply xA2 | apply xA0 | apply xA3 | refine xAa ?_ (xAe.ge HI0.out)) | exact HB.out), by repeat (first | (with_reducible first | exact HK.out | apply xAk.set_ | apply xB3 | apply xBb | apply xB6) | exact HK.out)⟩
     ·rw [if_neg c8] at H
      have c8b0 : (((xAu s0_0 s0_1).f0) == 3) = false := beq_eq_false_iff_ne.mpr c8
      have c8b1 : (((xAu s0_0 s0_1).f0) != 3) = true := bne_iff_ne.mpr c8
      simp only [Option.some.injEq, Prod.mk.injEq] at H
      obtain ⟨rfl, rfl, rfl, rfl, rfl⟩ := H
      obtain ⟨ASz10_0, cSz10_0, HGz10, hgz10, HSz10_0⟩ := HI0.out
      have hcz10_0 := xC9 HGz10
      have hcz10_1 := xBz HGz10
      have hcz10_2 := xD0 HGz10
      have hcz10_3 := xCf HGz10
      have hcz10_4 := xCu HGz10
      have hfz10_1 := xA5 HGz10 1
      have hfz10_2 := xA5 HGz10 2
      have hfz10_3 := xA5 HGz10 3
      have hfz10_4 := xA5 HGz10 4
      clear HGz10 hgz10
      have p227 : 0 ≤ (s0_1 : Int) := of_decide_eq_true (by first | (with_reducible assumption) | assumption)
      have q227 : s0_1 < (s0_0.length : Int) := of_decide_eq_true (by first | (with_reducible assumption) | assumption)
      obtain ⟨ad227, e227, hx227_0, hx227_1, hx227_2, hx227_3⟩ := xD6 HSz10_0 s0_1 p227 q227
      cases e227
      replace hx227_0 := xAb HB.out hx227_0
      replace hx227_1 := xAb HB.out hx227_1
      replace hx227_2 := xAb HB.out hx227_2
      replace hx227_3 := xAb HB.out hx227_3
      replace p227 := eq_true p227
      replace q227 := eq_true q227
      have p229 : 0 ≤ (s0_1 : Int) := of_decide_eq_true (by first | (with_reducible assumption) | assumption)
      have q229 : s0_1 < (s0_0.length : Int) := of_decide_eq_true (by first | (with_reducible assumption) | assumption)
      obtain ⟨ad229, e229, hx229_0, hx229_1, hx229_2, hx229_3⟩ := xD6 HSz10_0 s0_1 p229 q229
      obtain rfl : ad227 = ad229 := (by injection e229)
      replace hx229_0 := xAb HB.out hx229_0
      replace hx229_1 := xAb HB.out hx229_1
      replace hx229_2 := xAb HB.out hx229_2
      replace hx229_3 := xAb HB.out hx229_3
      replace p229 := eq_true p229
      replace q229 := eq_true q229
      go_enter Tryd.func42, Tryd.ntmps42
      go_wp2
      repeat (go_quiet (fail); try go_wp2)
      go_ret
      exact ⟨by first | rfl | (simp <;> rfl) | (simp [*] <;> rfl), by repeat (first | (with_reducible first | exact HI0.out | apply xAe.alloc | apply xAe.drewN | apply xAe.drew | apply xAe.set_1 | apply xAe.set_2 | apply xAe.set_3 | apply xAe.set_4) | exact HI0.out), by repeat (first | (with_reducible first | exact HB.out | apply xA2 | apply xA0 | apply xA3 | refine xAa ?_ (xAe.ge HI0.out)) | exact HB.out), by repeat (first | (with_reducible first | exact HK.out | apply xAk.set_ | apply xB3 | apply xBb | apply xB6) | exact HK.out)⟩
   ·rw [if_neg c5] at H
    exact absurd H (by simp)
  ·rw [if_neg c4] at H
   have c4b0 : decide (s0_1 < (s0_0.length : Int)) = false := decide_eq_false c4
   clear c4
   simp only [Option.some.injEq, Prod.mk.injEq] at H
   obtain ⟨rfl, rfl, rfl, rfl, rfl⟩ := H
   obtain ⟨ASz11_0, cSz11_0, HGz11, hgz11, HSz11_0⟩ := HI0.out
   have hcz11_0 := xC9 HGz11
   have hcz11_1 := xBz HGz11
   have hcz11_2 := xD0 HGz11
   have hcz11_3 := xCf HGz11
   have hcz11_4 := xCu HGz11
   have hfz11_1 := xA5 HGz11 1
   have hfz11_2 := xA5 HGz11 2
   have hfz11_3 := xA5 HGz11 3
   have hfz11_4 := xA5 HGz11 4
   clear HGz11 hgz11
   go_enter Tryd.func42, Tryd.ntmps42
   go_wp2
   repeat (go_quiet (fail); try go_wp2)
   go_ret
   exact ⟨by first | rfl | (simp <;> rfl) | (simp [*] <;> rfl), by repeat (first | (with_reducible first | exact HI0.out | apply xAe.alloc | apply xAe.drewN | apply xAe.drew | apply xAe.set_1 | apply xAe.set_2 | apply xAe.set_3 | apply xAe.set_4) | exact HI0.out), by repeat (first | (with_reducible first | exact HB.out | apply xA2 | apply xA0 | apply xA3 | refine xAa ?_ (xAe.ge HI0.out)) | exact HB.out), by repeat (first | (with_reducible first | exact HK.out | apply xAk.set_ | apply xB3 | apply xBb | apply xB6) | exact HK.out)⟩
 ·rw [if_neg c3] at H
  have c3b0 : (s0_3 == 0) = false := beq_eq_false_iff_ne.mpr c3
  have c3b1 : (s0_3 != 0) = true := bne_iff_ne.mpr c3
  simp only [Option.some.injEq, Prod.mk.injEq] at H
  obtain ⟨rfl, rfl, rfl, rfl, rfl⟩ := H
  obtain ⟨ASz12_0, cSz12_0, HGz12, hgz12, HSz12_0⟩ := HI0.out
  have hcz12_0 := xC9 HGz12
  have hcz12_1 := xBz HGz12
  have hcz12_2 := xD0 HGz12
  have hcz12_3 := xCf HGz12
  have hcz12_4 := xCu HGz12
  have hfz12_1 := xA5 HGz12 1
  have hfz12_2 := xA5 HGz12 2
  have hfz12_3 := xA5 HGz12 3
  have hfz12_4 := xA5 HGz12 4
  clear HGz12 hgz12
  go_enter Tryd.func42, Tryd.ntmps42
  go_wp2
  repeat (go_quiet (fail); try go_wp2)
  go_ret
  exact ⟨by first | rfl | (simp <;> rfl) | (simp [*] <;> rfl), by repeat (first | (with_reducible first | exact HI0.out | apply xAe.alloc | apply xAe.drewN | apply xAe.drew | apply xAe.set_1 | apply xAe.set_2 | apply xAe.set_3 | apply xAe.set_4) | exact HI0.out), by repeat (first | (with_reducible first | exact HB.out | apply xA2 | apply xA0 | apply xA3 | refine xAa ?_ (xAe.ge HI0.out)) | exact HB.out), by repeat (first | (with_reducible first | exact HK.out | apply xAk.set_ | apply xB3 | apply xBb | apply xB6) | exact HK.out)⟩

end Go.Proofs.YtknbfhhmjbnemaaDoor.P
end
section
namespace Go.Proofs.YtknbfhhmjbnemaaDoor.P
open Go.RowKit Go.Proofs.YtknbfhhmjbnemaaDoorW.PrintWords Go.Proofs.YtknbfhhmjbnemaaDoorW.PrintLast Go.Proofs.YtknbfhhmjbnemaaDoorW.PrintMore
attribute [local go_sem] xBh xBp

/-! ### xA8: function 46 -/
def xA8.f (s0_0 : List (S60)) (s0_1 : Int) (s0_2 : Int) (s0_3 : Int) (s0_4 : Int) (a1 : ByteArray) : Option (Int × Int × Int × Int) := (xAi.f s0_0 s0_1 s0_2 s0_3 s0_4 a1).bind fun bt240 => (if bt240.1 = true then (some (wrap64 (bt240.2.1 + 1), bt240.2.2.1, bt240.2.2.2.1, bt240.2.2.2.2)) else ((xAn.f s0_0 bt240.2.1 bt240.2.2.1 bt240.2.2.2.1 bt240.2.2.2.2 111).bind fun bt245 => (some (bt245.1, bt245.2.1, bt245.2.2.1, bt245.2.2.2))))
set_option maxHeartbeats 8000000 in
set_option maxRecDepth 100000 in
theorem xA8.calls (g : Nat) (s0_0 : List (S60)) (s0_1 : Int) (s0_2 : Int) (s0_3 : Int) (s0_4 : Int) (a1 : ByteArray) (r1 : Int) (r2 : Int) (r3 : Int) (r4 : Int) (w0 w : World) (hI : xAe w0 w g s0_0 s0_1 s0_2 s0_3 s0_4) (hB : Below w0.heap.size w0 w) (h : xA8.f s0_0 s0_1 s0_2 s0_3 s0_4 a1 = some (r1, r2, r3, r4)) :
  Calls Tryd.prog 46 #[.pointer (some ⟨g, 0, none⟩), .string a1] w fun e w' => e = .returned (.tuple #[]) ∧ xAe w0 w' g s0_0 r1 r2 r3 r4 ∧ Below w0.heap.size w0 w' ∧ xAk w w' g none := by
 have HI0 := Aside0.mk hI
 have HK := Aside0.mk (xAk.refl w g none)
 have HL := Aside0.mk hB.size
 clear hI
 have HW0 := Aside0.mk hB.size
 have HB := Aside0.mk hB
 clear hB
 have H : ((xAi.f s0_0 s0_1 s0_2 s0_3 s0_4 a1).bind fun bt240 => (if bt240.1 = true then (some (wrap64 (bt240.2.1 + 1), bt240.2.2.1, bt240.2.2.2.1, bt240.2.2.2.2)) else ((xAn.f s0_0 bt240.2.1 bt240.2.2.1 bt240.2.2.2.1 bt240.2.2.2.2 111).bind fun bt245 => (some (bt245.1, bt245.2.1, bt245.2.2.1, bt245.2.2.2))))) = some (r1, r2, r3, r4) := h
 clear h
 replace H := Option.bind_eq_some_iff.mp H
 obtain ⟨⟨t240, t241, t242, t243, t244⟩, A30, H⟩ := H
 replace H : (if t240 = true then (some (wrap64 (t241 + 1), t242, t243, t244)) else ((xAn.f s0_0 t241 t242 t243 t244 111).bind fun bt245 => (some (bt245.1, bt245.2.1, bt245.2.2.1, bt245.2.2.2)))) = some (r1, r2, r3, r4) := H
 have A3 := Aside0.mk A30
 clear A30
 by_cases c4 : t240 = true
 ·subst c4
  have H1 : (some (wrap64 (t241 + 1), t242, t243, t244)) = some (r1, r2, r3, r4) := by rw [if_pos rfl] at H; exact H
  clear H
  have H := H1
  clear H1
  simp only [Option.some.injEq, Prod.mk.injEq] at H
  obtain ⟨rfl, rfl, rfl, rfl⟩ := H
  go_enter Tryd.func46, Tryd.ntmps46
  go_wp2_with (first | ((with_reducible refine xAo (f := 42) rfl ?_); refine xBo (some 7) rfl rfl Tryd.func42 (by kernel_rfl) rfl #[.pointer (some ⟨g, 0, none⟩), .string a1] rfl (by (try simp only [List.map_toArray, List.map_cons, List.map_nil]); first | done | rfl | (simp only [List.length_drop, List.length_take]; rfl)) ?_; (with_reducible refine (xAi.calls g s0_0 s0_1 s0_2 s0_3 s0_4 a1 true t241 t242 t243 t244 w0 _ ?side1 ?side2 A3.out).mono ?_); (case side1 => repeat (first | (with_reducible first | exact HI0.out | apply xAe.alloc | apply xAe.drewN | apply xAe.drew | apply xAe.set_1 | apply xAe.set_2 | apply xAe.set_3 | apply xAe.set_4) | exact HI0.out)); (case side2 => repeat (first | (with_reducible first | exact HB.out | apply xA2 | apply xA0 | apply xA3 | refine xAa ?_ (xAe.ge HI0.out)) | exact HB.out)); rintro e w5 ⟨rfl, hi, hb, hk⟩; refine ⟨_, rfl, ?_⟩; have n0_ := Aside0.mk (xAk.trans (by repeat (first | (with_reducible first | exact HK.out | apply xAk.set_ | apply xB3 | apply xBb | apply xB6) | exact HK.out)) hk (.inl rfl)); have n1_ := Aside0.mk (hb); have n2_ := Aside0.mk (hi); clear HK; clear HB; clear HI0; have HK := n0_; have HB := n1_; have HI0 := n2_; clear n0_ n1_ n2_; (try clear hb); (try clear hb2); (try clear hk); (try clear hi); obtain ⟨ASz6_0, cSz6_0, HGz6, hgz6, HSz6_0⟩ := HI0.out; have hcz6_0 := xC9 HGz6; have hcz6_1 := xBz HGz6; have hcz6_2 := xD0 HGz6; have hcz6_3 := xCf HGz6; have hcz6_4 := xCu HGz6; have hfz6_1 := xA5 HGz6 1; have hfz6_2 := xA5 HGz6 2; have hfz6_3 := xA5 HGz6 3; have hfz6_4 := xA5 HGz6 4; clear HGz6 hgz6))
  first | go_end0 | ((try simp only [Exit.inBlock, Exit.then]); refine bodyPost_ret (results_none rfl _ _ _) rfl ?_)
  exact ⟨by first | rfl | (simp <;> rfl) | (simp [*] <;> rfl), by repeat (first | (with_reducible first | exact HI0.out | apply xAe.alloc | apply xAe.drewN | apply xAe.drew | apply xAe.set_1 | apply xAe.set_2 | apply xAe.set_3 | apply xAe.set_4) | exact HI0.out), by repeat (first | (with_reducible first | exact HB.out | apply xA2 | apply xA0 | apply xA3 | refine xAa ?_ (xAe.ge HI0.out)) | exact HB.out), by repeat (first | (with_reducible first | exact HK.out | apply xAk.set_ | apply xB3 | apply xBb | apply xB6) | exact HK.out)⟩
 ·replace c4 := Bool.eq_false_iff.mpr c4
  subst c4
  have H1 : ((xAn.f s0_0 t241 t242 t243 t244 111).bind fun bt245 => (some (bt245.1, bt245.2.1, bt245.2.2.1, bt245.2.2.2))) = some (r1, r2, r3, r4) := by rw [if_neg (show ¬ (false = true) by decide)] at H; exact H
  clear H
  have H := H1
  clear H1
  replace H := Option.bind_eq_some_iff.mp H
  obtain ⟨⟨t245, t246, t247, t248⟩, A70, H⟩ := H
  replace H : (some (t245, t246, t247, t248)) = some (r1, r2, r3, r4) := H
  have A7 := Aside0.mk A70
  clear A70
  simp only [Option.some.injEq, Prod.mk.injEq] at H
  obtain ⟨rfl, rfl, rfl, rfl⟩ := H
  go_enter Tryd.func46, Tryd.ntmps46
  go_wp2_with (first | ((with_reducible refine xAo (f := 42) rfl ?_); refine xBo (some 7) rfl rfl Tryd.func42 (by kernel_rfl) rfl #[.pointer (some ⟨g, 0, none⟩), .string a1] rfl (by (try simp only [List.map_toArray, List.map_cons, List.map_nil]); first | done | rfl | (simp only [List.length_drop, List.length_take]; rfl)) ?_; (with_reducible refine (xAi.calls g s0_0 s0_1 s0_2 s0_3 s0_4 a1 false t241 t242 t243 t244 w0 _ ?side1 ?side2 A3.out).mono ?_); (case side1 => repeat (first | (with_reducible first | exact HI0.out | apply xAe.alloc | apply xAe.drewN | apply xAe.drew | apply xAe.set_1 | apply xAe.set_2 | apply xAe.set_3 | apply xAe.set_4) | exact HI0.out)); (case side2 => repeat (first | (with_reducible first | exact HB.out | apply xA2 | apply xA0 | apply xA3 | refine xAa ?_ (xAe.ge HI0.out)) | exact HB.out)); rintro e w8 ⟨rfl, hi, hb, hk⟩; refine ⟨_, rfl, ?_⟩; have n0_ := Aside0.mk (xAk.trans (by repeat (first | (with_reducible first | exact HK.out | apply xAk.set_ | apply xB3 | apply xBb | apply xB6) | exact HK.out)) hk (.inl rfl)); have n1_ := Aside0.mk (hb); have n2_ := Aside0.mk (hi); clear HK; clear HB; clear HI0; have HK := n0_; have HB := n1_; have HI0 := n2_; clear n0_ n1_ n2_; (try clear hb); (try clear hb2); (try clear hk); (try clear hi)) | ((with_reducible refine xAo (f := 43) rfl ?_); refine xBo (some 11) rfl rfl Tryd.func43 (by kernel_rfl) rfl #[.pointer (some ⟨g, 0, none⟩), .int .i64 111] rfl (by (try simp only [List.map_toArray, List.map_cons, List.map_nil]); first | done | rfl | (simp only [List.length_drop, List.length_take]; rfl)) ?_; (with_reducible refine (xAn.calls g s0_0 t241 t242 t243 t244 111 t245 t246 t247 t248 w0 _ ?side1 ?side2 A7.out).mono ?_); (case side1 => repeat (first | (with_reducible first | exact HI0.out | apply xAe.alloc | apply xAe.drewN | apply xAe.drew | apply xAe.set_1 | apply xAe.set_2 | apply xAe.set_3 | apply xAe.set_4) | exact HI0.out)); (case side2 => repeat (first | (with_reducible first | exact HB.out | apply xA2 | apply xA0 | apply xA3 | refine xAa ?_ (xAe.ge HI0.out)) | exact HB.out)); rintro e w9 ⟨rfl, hi, hb, hk⟩; refine ⟨_, rfl, ?_⟩; have n0_ := Aside0.mk (xAk.trans (by repeat (first | (with_reducible first | exact HK.out | apply xAk.set_ | apply xB3 | apply xBb | apply xB6) | exact HK.out)) hk (.inl rfl)); have n1_ := Aside0.mk (hb); have n2_ := Aside0.mk (hi); clear HK; clear HB; clear HI0; have HK := n0_; have HB := n1_; have HI0 := n2_; clear n0_ n1_ n2_; (try clear hb); (try clear hb2); (try clear hk); (try clear hi)))
  first | go_end0 | ((try simp only [Exit.inBlock, Exit.then]); refine bodyPost_ret (results_none rfl _ _ _) rfl ?_)
  exact ⟨by first | rfl | (simp <;> rfl) | (simp [*] <;> rfl), by repeat (first | (with_reducible first | exact HI0.out | apply xAe.alloc | apply xAe.drewN | apply xAe.drew | apply xAe.set_1 | apply xAe.set_2 | apply xAe.set_3 | apply xAe.set_4) | exact HI0.out), by repeat (first | (with_reducible first | exact HB.out | apply xA2 | apply xA0 | apply xA3 | refine xAa ?_ (xAe.ge HI0.out)) | exact HB.out), by repeat (first | (with_reducible first | exact HK.out | apply xAk.set_ | apply xB3 | apply xBb | apply xB6) | exact HK.out)⟩

end Go.Proofs.YtknbfhhmjbnemaaDoor.P
end
section
namespace Go.Proofs.YtknbfhhmjbnemaaDoor.P
open Go.RowKit Go.Proofs.YtknbfhhmjbnemaaDoorW.PrintWords Go.Proofs.YtknbfhhmjbnemaaDoorW.PrintLast Go.Proofs.YtknbfhhmjbnemaaDoorW.PrintMore
attribute [local go_sem] xBh xBp

/-! ### xAm: function 76 -/
def xAm.l0 : Nat → List ByteArray → Int → List (S60) → Int → Int → Int → Int → Option (ByteArray × Int × Int × Int × Int)
 | 0, _, _, _, _, _, _, _ => none
 | k + 1, x3, x4, x1000, x1001, x1002, x1003, x1004 => if x4 < (x3.length : Int) then (if 0 ≤ x4 then ((xAi.f x1000 x1001 x1002 x1003 x1004 (rdOf ByteArray.empty x3 x4)).bind fun bt253 => (if bt253.1 = true then (some (rdOf ByteArray.empty x3 x4, bt253.2.1, bt253.2.2.1, bt253.2.2.2.1, bt253.2.2.2.2)) else (xAm.l0 k x3 (wrap64 (x4 + 1)) x1000 bt253.2.1 bt253.2.2.1 bt253.2.2.2.1 bt253.2.2.2.2))) else (none)) else (some ((⟨#[]⟩ : ByteArray), x1001, x1002, x1003, x1004))
def xAm.f (k : Nat) (s0_0 : List (S60)) (s0_1 : Int) (s0_2 : Int) (s0_3 : Int) (s0_4 : Int) : Option (ByteArray × Int × Int × Int × Int) := xAm.l0 k (([(⟨#[108, 105, 110, 101, 97, 114]⟩ : ByteArray), (⟨#[99, 111, 110, 99, 97, 116]⟩ : ByteArray), (⟨#[109, 105, 114, 114, 111, 114]⟩ : ByteArray), (⟨#[115, 110, 97, 112, 115, 104, 111, 116]⟩ : ByteArray), (⟨#[99, 114, 121, 112, 116]⟩ : ByteArray), (⟨#[105, 110, 116, 101, 103, 114, 105, 116, 121]⟩ : ByteArray), (⟨#[118, 101, 114, 105, 116, 121]⟩ : ByteArray)] : List ByteArray)) 0 s0_0 s0_1 s0_2 s0_3 s0_4
set_option maxHeartbeats 8000000 in
set_option maxRecDepth 100000 in
theorem xAm.calls (k : Nat) (g : Nat) (s0_0 : List (S60)) (s0_1 : Int) (s0_2 : Int) (s0_3 : Int) (s0_4 : Int) (r1 : ByteArray) (r2 : Int) (r3 : Int) (r4 : Int) (r5 : Int) (w0 w : World) (hI : xAe w0 w g s0_0 s0_1 s0_2 s0_3 s0_4) (hB : Below w0.heap.size w0 w) (h : xAm.f k s0_0 s0_1 s0_2 s0_3 s0_4 = some (r1, r2, r3, r4, r5)) :
  Calls Tryd.prog 76 #[.pointer (some ⟨g, 0, none⟩)] w fun e w' => e = .returned (.string r1) ∧ xAe w0 w' g s0_0 r2 r3 r4 r5 ∧ Below w0.heap.size w0 w' ∧ xAk w w' g none := by
 have HI0 := Aside0.mk hI
 have HK := Aside0.mk (xAk.refl w g none)
 have HL := Aside0.mk hB.size
 clear hI
 have HW0 := Aside0.mk hB.size
 have HB := Aside0.mk hB
 clear hB
 have H : (xAm.l0 k (([(⟨#[108, 105, 110, 101, 97, 114]⟩ : ByteArray), (⟨#[99, 111, 110, 99, 97, 116]⟩ : ByteArray), (⟨#[109, 105, 114, 114, 111, 114]⟩ : ByteArray), (⟨#[115, 110, 97, 112, 115, 104, 111, 116]⟩ : ByteArray), (⟨#[99, 114, 121, 112, 116]⟩ : ByteArray), (⟨#[105, 110, 116, 101, 103, 114, 105, 116, 121]⟩ : ByteArray), (⟨#[118, 101, 114, 105, 116, 121]⟩ : ByteArray)] : List ByteArray)) 0 s0_0 s0_1 s0_2 s0_3 s0_4) = some (r1, r2, r3, r4, r5) := h
 clear h
 obtain ⟨y249, hy249⟩ : ∃ y_ : List ByteArray, y_ = (([(⟨#[108, 105, 110, 101, 97, 114]⟩ : ByteArray), (⟨#[99, 111, 110, 99, 97, 116]⟩ : ByteArray), (⟨#[109, 105, 114, 114, 111, 114]⟩ : ByteArray), (⟨#[115, 110, 97, 112, 115, 104, 111, 116]⟩ : ByteArray), (⟨#[99, 114, 121, 112, 116]⟩ : ByteArray), (⟨#[105, 110, 116, 101, 103, 114, 105, 116, 121]⟩ : ByteArray), (⟨#[118, 101, 114, 105, 116, 121]⟩ : ByteArray)] : List ByteArray)) := ⟨_, rfl⟩
 replace H : (xAm.l0 k y249 0 s0_0 s0_1 s0_2 s0_3 s0_4) = some (r1, r2, r3, r4, r5) := by first | (rw [hy249]; with_reducible exact H) | (have H2_ := (Option.bind_some _ _).symm.trans H; rw [hy249]; with_reducible exact H2_) | (have H2_ := (Option.bind_some _ _).symm.trans H; with_reducible exact H2_) | with_reducible exact H | (rw [hy249]; exact H) | exact H
 have Ny249 := Aside0.mk hy249
 clear hy249
 have H' := Aside0.mk H
 clear H
 go_enter Tryd.func76, Tryd.ntmps76
 go_wp2_with (first | ((with_reducible refine xB0 (N := 6) rfl ?_); refine Kd.R_lit Kd.string _ 9 ?hg (N := 6) ?hd (xs := ([(⟨#[108, 105, 110, 101, 97, 114]⟩ : ByteArray), (⟨#[99, 111, 110, 99, 97, 116]⟩ : ByteArray), (⟨#[109, 105, 114, 114, 111, 114]⟩ : ByteArray), (⟨#[115, 110, 97, 112, 115, 104, 111, 116]⟩ : ByteArray), (⟨#[99, 114, 121, 112, 116]⟩ : ByteArray), (⟨#[105, 110, 116, 101, 103, 114, 105, 116, 121]⟩ : ByteArray), (⟨#[118, 101, 114, 105, 116, 121]⟩ : ByteArray)] : List ByteArray)) (inner := [.string (⟨#[108, 105, 110, 101, 97, 114]⟩ : ByteArray), .string (⟨#[99, 111, 110, 99, 97, 116]⟩ : ByteArray), .string (⟨#[109, 105, 114, 114, 111, 114]⟩ : ByteArray), .string (⟨#[115, 110, 97, 112, 115, 104, 111, 116]⟩ : ByteArray), .string (⟨#[99, 114, 121, 112, 116]⟩ : ByteArray), .string (⟨#[105, 110, 116, 101, 103, 114, 105, 116, 121]⟩ : ByteArray), .string (⟨#[118, 101, 114, 105, 116, 121]⟩ : ByteArray)]) (ok := fun _ => True) (okp := fun _ => True) ?hr ?hp (fun _ hk => hk) trivial (Below.refl _ _) (Nat.le_refl _) (by simp) ?_; (case hd => rfl); (case hg => rfl); (case hr => first | (go_simp; done) | (go_simp; rfl)); (case hp => exact (Reps.one (show Kd.M Kd.string _ _ _ (⟨#[108, 105, 110, 101, 97, 114]⟩ : ByteArray) [.string (⟨#[108, 105, 110, 101, 97, 114]⟩ : ByteArray)] from rfl) (Reps.one (show Kd.M Kd.string _ _ _ (⟨#[99, 111, 110, 99, 97, 116]⟩ : ByteArray) [.string (⟨#[99, 111, 110, 99, 97, 116]⟩ : ByteArray)] from rfl) (Reps.one (show Kd.M Kd.string _ _ _ (⟨#[109, 105, 114, 114, 111, 114]⟩ : ByteArray) [.string (⟨#[109, 105, 114, 114, 111, 114]⟩ : ByteArray)] from rfl) (Reps.one (show Kd.M Kd.string _ _ _ (⟨#[115, 110, 97, 112, 115, 104, 111, 116]⟩ : ByteArray) [.string (⟨#[115, 110, 97, 112, 115, 104, 111, 116]⟩ : ByteArray)] from rfl) (Reps.one (show Kd.M Kd.string _ _ _ (⟨#[99, 114, 121, 112, 116]⟩ : ByteArray) [.string (⟨#[99, 114, 121, 112, 116]⟩ : ByteArray)] from rfl) (Reps.one (show Kd.M Kd.string _ _ _ (⟨#[105, 110, 116, 101, 103, 114, 105, 116, 121]⟩ : ByteArray) [.string (⟨#[105, 110, 116, 101, 103, 114, 105, 116, 121]⟩ : ByteArray)] from rfl) (Reps.one (show Kd.M Kd.string _ _ _ (⟨#[118, 101, 114, 105, 116, 121]⟩ : ByteArray) [.string (⟨#[118, 101, 114, 105, 116, 121]⟩ : ByteArray)] from rfl) (Reps.none _ _))))))))); intro v250 w2 ho3 hb hg_ hnew_; clear hg_ hnew_; (first | rw [← Ny249.out] at ho3 | (simp only [Int.reduceToNat] at ho3; rw [← Ny249.out] at ho3)); have n0_ := Aside0.mk (Kd.R_lower ho3 (xDg (w := w) (g := g) (row := none) (by repeat (first | (with_reducible first | exact HK.out | apply xAk.set_ | apply xB3 | apply xBb | apply xB6) | exact HK.out)))); have n1_ := Aside0.mk (xAe.below (by repeat (first | (with_reducible first | exact HI0.out | apply xAe.alloc | apply xAe.drewN | apply xAe.drew | apply xAe.set_1 | apply xAe.set_2 | apply xAe.set_3 | apply xAe.set_4) | exact HI0.out)) hb); have n2_ := Aside0.mk (xAk.trans (by repeat (first | (with_reducible first | exact HK.out | apply xAk.set_ | apply xB3 | apply xBb | apply xB6) | exact HK.out)) (xAk.of_below hb g none) (.inl rfl)); have n3_ := Aside0.mk (xAz (by repeat (first | (with_reducible first | exact HB.out | apply xA2 | apply xA0 | apply xA3 | refine xAa ?_ (xAe.ge HI0.out)) | exact HB.out)) hb); clear HI0; clear HK; clear HB; have HO251 := n0_; have HI0 := n1_; have HK := n2_; have HB := n3_; clear n0_ n1_ n2_ n3_; clear hb ho3))
 go_loopg [4] k (fun kq v4 w' => ∃ (x4_1 : Int) (x1001_1 : Int) (x1002_1 : Int) (x1003_1 : Int) (x1004_1 : Int), v4 = .int .i64 x4_1 ∧ Aside0 (xAm.l0 kq y249 x4_1 s0_0 x1001_1 x1002_1 x1003_1 x1004_1 = some (r1, r2, r3, r4, r5)) ∧ Aside0 (kq ≤ k) ∧ Aside0 (Kd.R Kd.string 9 w' w.heap.size (fun _ => True) v250 y249) ∧ Aside0 (xAe w0 w' g s0_0 x1001_1 x1002_1 x1003_1 x1004_1) ∧ Aside0 (xAk w w' g none) ∧ Aside0 (Below w0.heap.size w0 w'))
 case atStart => exact ⟨(0), (s0_1), (s0_2), (s0_3), (s0_4), (by first | rfl | (simp; done) | (simp [*]; done)), H', ⟨Nat.le_refl _⟩, ⟨by (with_reducible repeat (first | apply Kd.R_alloc | apply Kd.R_drewN | apply Kd.R_drew)); exact HO251.out⟩, ⟨by repeat (first | (with_reducible first | exact HI0.out | apply xAe.alloc | apply xAe.drewN | apply xAe.drew | apply xAe.set_1 | apply xAe.set_2 | apply xAe.set_3 | apply xAe.set_4) | exact HI0.out)⟩, ⟨by repeat (first | (with_reducible first | exact HK.out | apply xAk.set_ | apply xB3 | apply xBb | apply xB6) | exact HK.out)⟩, ⟨by repeat (first | (with_reducible first | exact HB.out | apply xA2 | apply xA0 | apply xA3 | refine xAa ?_ (xAe.ge HI0.out)) | exact HB.out)⟩⟩
 case round =>
  clear H'
  try clear p2
  obtain ⟨x4_1, x1001_1, x1002_1, x1003_1, x1004_1, rfl, HA, HK1, HO_3, HI0, HK, HB⟩ := hrel
  cases gk with
  | zero => exact absurd HA.out (by simp [xAm.l0])
  | succ k1 =>
   have H := HA.out
   clear HA
   simp only [xAm.l0] at H
   by_cases c4 : x4_1 < (y249.length : Int)
   ·rw [if_pos c4] at H
    have c4b0 : decide (x4_1 < (y249.length : Int)) = true := decide_eq_true c4
    clear c4
    by_cases c5 : 0 ≤ x4_1
    ·rw [if_pos c5] at H
     have c5b0 : decide (0 ≤ x4_1) = true := decide_eq_true c5
     clear c5
     replace H := Option.bind_eq_some_iff.mp H
     obtain ⟨⟨t253, t254, t255, t256, t257⟩, A60, H⟩ := H
     replace H : (if t253 = true then (some (rdOf ByteArray.empty y249 x4_1, t254, t255, t256, t257)) else (xAm.l0 k1 y249 (wrap64 (x4_1 + 1)) s0_0 t254 t255 t256 t257)) = some (r1, r2, r3, r4, r5) := H
     have A6 := Aside0.mk A60
     clear A60
     by_cases c7 : t253 = true
     ·subst c7
      have H1 : (some (rdOf ByteArray.empty y249 x4_1, t254, t255, t256, t257)) = some (r1, r2, r3, r4, r5) := by rw [if_pos rfl] at H; exact H
      clear H
      have H := H1
      clear H1
      simp only [Option.some.injEq, Prod.mk.injEq] at H
      obtain ⟨rfl, rfl, rfl, rfl, rfl⟩ := H
      obtain ⟨Ao8, co8, eo8⟩ := Kd.R_slice HO_3.out
      subst eo8
      have p252 : 0 ≤ (x4_1 : Int) := of_decide_eq_true (by first | (with_reducible assumption) | assumption)
      have q252 : x4_1 < (y249.length : Int) := of_decide_eq_true (by first | (with_reducible assumption) | assumption)
      obtain ⟨ad252, e252, hx252_0⟩ := Kd.at_string (Kd.R_reads' HO_3.out).2.2 x4_1 p252 q252
      cases e252
      replace p252 := eq_true p252
      replace q252 := eq_true q252
      go_wp2_with (first | ((with_reducible refine xAo (f := 42) rfl ?_); refine xBo (some 18) rfl rfl Tryd.func42 (by kernel_rfl) rfl #[.pointer (some ⟨g, 0, none⟩), .string (rdOf ByteArray.empty y249 x4_1)] rfl (by (try simp only [List.map_toArray, List.map_cons, List.map_nil]); first | done | rfl | (simp only [List.length_drop, List.length_take]; rfl)) ?_; (with_reducible refine (xAi.calls g s0_0 x1001_1 x1002_1 x1003_1 x1004_1 (rdOf ByteArray.empty y249 x4_1) true t254 t255 t256 t257 w0 _ ?side1 ?side2 A6.out).mono ?_); (case side1 => repeat (first | (with_reducible first | exact HI0.out | apply xAe.alloc | apply xAe.drewN | apply xAe.drew | apply xAe.set_1 | apply xAe.set_2 | apply xAe.set_3 | apply xAe.set_4) | exact HI0.out)); (case side2 => repeat (first | (with_reducible first | exact HB.out | apply xA2 | apply xA0 | apply xA3 | refine xAa ?_ (xAe.ge HI0.out)) | exact HB.out)); rintro e w9 ⟨rfl, hi, hb, hk⟩; refine ⟨_, rfl, ?_⟩; have n0_ := Aside0.mk (Kd.R_mono (Kd.R_keep (xAe.apart (show xAe w0 _ g s0_0 x1001_1 x1002_1 x1003_1 x1004_1 from by repeat (first | (with_reducible first | exact HI0.out | apply xAe.alloc | apply xAe.drewN | apply xAe.drew | apply xAe.set_1 | apply xAe.set_2 | apply xAe.set_3 | apply xAe.set_4) | exact HI0.out)) (by (with_reducible repeat (first | apply Kd.R_alloc | apply Kd.R_drewN | apply Kd.R_drew)); exact HO_3.out) (by decide)) hk (fun _ h => h.2)) (fun _ h => h.1)); have n1_ := Aside0.mk (xAk.trans (by repeat (first | (with_reducible first | exact HK.out | apply xAk.set_ | apply xB3 | apply xBb | apply xB6) | exact HK.out)) hk (.inl rfl)); have n2_ := Aside0.mk (hb); have n3_ := Aside0.mk (hi); clear HO_3; clear HK; clear HB; clear HI0; have HO_3 := n0_; have HK := n1_; have HB := n2_; have HI0 := n3_; clear n0_ n1_ n2_ n3_; (try clear hb); (try clear hb2); (try clear hk); (try clear hi); have p258 : 0 ≤ (x4_1 : Int) := of_decide_eq_true (by first | (with_reducible assumption) | assumption); have q258 : x4_1 < (y249.length : Int) := of_decide_eq_true (by first | (with_reducible assumption) | assumption); obtain ⟨ad258, e258, hx258_0⟩ := Kd.at_string (Kd.R_reads' HO_3.out).2.2 x4_1 p258 q258; obtain rfl : ad252 = ad258 := (by injection e258); replace p258 := eq_true p258; replace q258 := eq_true q258))
      go_ret
      exact ⟨by first | rfl | (simp <;> rfl) | (simp [*] <;> rfl), by repeat (first | (with_reducible first | exact HI0.out | apply xAe.alloc | apply xAe.drewN | apply xAe.drew | apply xAe.set_1 | apply xAe.set_2 | apply xAe.set_3 | apply xAe.set_4) | exact HI0.out), by repeat (first | (with_reducible first | exact HB.out | apply xA2 | apply xA0 | apply xA3 | refine xAa ?_ (xAe.ge HI0.out)) | exact HB.out), by repeat (first | (with_reducible first | exact HK.out | apply xAk.set_ | apply xB3 | apply xBb | apply xB6) | exact HK.out)⟩
     ·replace c7 := Bool.eq_false_iff.mpr c7
      subst c7
      have H1 : (xAm.l0 k1 y249 (wrap64 (x4_1 + 1)) s0_0 t254 t255 t256 t257) = some (r1, r2, r3, r4, r5) := by rw [if_neg (show ¬ (false = true) by decide)] at H; exact H
      clear H
      have H := H1
      clear H1
      have H' := Aside0.mk H
      clear H
      obtain ⟨Ao10, co10, eo10⟩ := Kd.R_slice HO_3.out
      subst eo10
      have p252 : 0 ≤ (x4_1 : Int) := of_decide_eq_true (by first | (with_reducible assumption) | assumption)
      have q252 : x4_1 < (y249.length : Int) := of_decide_eq_true (by first | (with_reducible assumption) | assumption)
      obtain ⟨ad252, e252, hx252_0⟩ := Kd.at_string (Kd.R_reads' HO_3.out).2.2 x4_1 p252 q252
      cases e252
      replace p252 := eq_true p252
      replace q252 := eq_true q252
      go_wp2_with (first | ((with_reducible refine xAo (f := 42) rfl ?_); refine xBo (some 18) rfl rfl Tryd.func42 (by kernel_rfl) rfl #[.pointer (some ⟨g, 0, none⟩), .string (rdOf ByteArray.empty y249 x4_1)] rfl (by (try simp only [List.map_toArray, List.map_cons, List.map_nil]); first | done | rfl | (simp only [List.length_drop, List.length_take]; rfl)) ?_; (with_reducible refine (xAi.calls g s0_0 x1001_1 x1002_1 x1003_1 x1004_1 (rdOf ByteArray.empty y249 x4_1) false t254 t255 t256 t257 w0 _ ?side1 ?side2 A6.out).mono ?_); (case side1 => repeat (first | (with_reducible first | exact HI0.out | apply xAe.alloc | apply xAe.drewN | apply xAe.drew | apply xAe.set_1 | apply xAe.set_2 | apply xAe.set_3 | apply xAe.set_4) | exact HI0.out)); (case side2 => repeat (first | (with_reducible first | exact HB.out | apply xA2 | apply xA0 | apply xA3 | refine xAa ?_ (xAe.ge HI0.out)) | exact HB.out)); rintro e w11 ⟨rfl, hi, hb, hk⟩; refine ⟨_, rfl, ?_⟩; have n0_ := Aside0.mk (Kd.R_mono (Kd.R_keep (xAe.apart (show xAe w0 _ g s0_0 x1001_1 x1002_1 x1003_1 x1004_1 from by repeat (first | (with_reducible first | exact HI0.out | apply xAe.alloc | apply xAe.drewN | apply xAe.drew | apply xAe.set_1 | apply xAe.set_2 | apply xAe.set_3 | apply xAe.set_4) | exact HI0.out)) (by (with_reducible repeat (first | apply Kd.R_alloc | apply Kd.R_drewN | apply Kd.R_drew)); exact HO_3.out) (by decide)) hk (fun _ h => h.2)) (fun _ h => h.1)); have n1_ := Aside0.mk (xAk.trans (by repeat (first | (with_reducible first | exact HK.out | apply xAk.set_ | apply xB3 | apply xBb | apply xB6) | exact HK.out)) hk (.inl rfl)); have n2_ := Aside0.mk (hb); have n3_ := Aside0.mk (hi); clear HO_3; clear HK; clear HB; clear HI0; have HO_3 := n0_; have HK := n1_; have HB := n2_; have HI0 := n3_; clear n0_ n1_ n2_ n3_; (try clear hb); (try clear hb2); (try clear hk); (try clear hi)))
      go_roundg k1
      case measure => have := HK1.out; omega
      case rel => exact ⟨(wrap64 (x4_1 + 1)), (t254), (t255), (t256), (t257), (by first | rfl | (simp; done) | (simp [*]; done)), H', ⟨by have := HK1.out; omega⟩, ⟨by (with_reducible repeat (first | apply Kd.R_alloc | apply Kd.R_drewN | apply Kd.R_drew)); exact HO_3.out⟩, ⟨by repeat (first | (with_reducible first | exact HI0.out | apply xAe.alloc | apply xAe.drewN | apply xAe.drew | apply xAe.set_1 | apply xAe.set_2 | apply xAe.set_3 | apply xAe.set_4) | exact HI0.out)⟩, ⟨by repeat (first | (with_reducible first | exact HK.out | apply xAk.set_ | apply xB3 | apply xBb | apply xB6) | exact HK.out)⟩, ⟨by repeat (first | (with_reducible first | exact HB.out | apply xA2 | apply xA0 | apply xA3 | refine xAa ?_ (xAe.ge HI0.out)) | exact HB.out)⟩⟩
    ·rw [if_neg c5] at H
     exact absurd H (by simp)
   ·rw [if_neg c4] at H
    have c4b0 : decide (x4_1 < (y249.length : Int)) = false := decide_eq_false c4
    clear c4
    simp only [Option.some.injEq, Prod.mk.injEq] at H
    obtain ⟨rfl, rfl, rfl, rfl, rfl⟩ := H
    obtain ⟨Ao12, co12, eo12⟩ := Kd.R_slice HO_3.out
    subst eo12
    go_wp2
    go_ret
    exact ⟨by first | rfl | (simp <;> rfl) | (simp [*] <;> rfl), by repeat (first | (with_reducible first | exact HI0.out | apply xAe.alloc | apply xAe.drewN | apply xAe.drew | apply xAe.set_1 | apply xAe.set_2 | apply xAe.set_3 | apply xAe.set_4) | exact HI0.out), by repeat (first | (with_reducible first | exact HB.out | apply xA2 | apply xA0 | apply xA3 | refine xAa ?_ (xAe.ge HI0.out)) | exact HB.out), by repeat (first | (with_reducible first | exact HK.out | apply xAk.set_ | apply xB3 | apply xBb | apply xB6) | exact HK.out)⟩

end Go.Proofs.YtknbfhhmjbnemaaDoor.P
end
section
namespace Go.Proofs.YtknbfhhmjbnemaaDoor.P
open Go.RowKit Go.Proofs.YtknbfhhmjbnemaaDoorW.PrintWords Go.Proofs.YtknbfhhmjbnemaaDoorW.PrintLast Go.Proofs.YtknbfhhmjbnemaaDoorW.PrintMore
attribute [local go_sem] xBh xBp

/-! ### xAg: function 45 -/
-- IMPORTS Derived.Test.YtknbfhhmjbnemaaDoorPcofferdamref11readerfail
def xAg.f (s0_0 : List (S60)) (s0_1 : Int) (s0_2 : Int) (s0_3 : Int) (s0_4 : Int) (a1 : Int) : Option (Int × ByteArray × Int × Int × Int × Int × Int × Int) :=
 if s0_3 = 0 ∧ s0_1 < (s0_0.length : Int) ∧ 0 ≤ s0_1 ∧ (s0_0.length : Int) ≤ 1000000 ∧ (xAu s0_0 s0_1).f0 = a1 then
  some ((xAu s0_0 s0_1).f0, (xAu s0_0 s0_1).f1, (xAu s0_0 s0_1).f2, (xAu s0_0 s0_1).f3, s0_1 + 1, s0_2, s0_3, s0_4)
 else if s0_3 ≠ 0 ∨ (s0_0.length : Int) ≤ s0_1 ∨ (0 ≤ s0_1 ∧ (xAu s0_0 s0_1).f0 ≠ a1) then
  (xAn.f s0_0 s0_1 s0_2 s0_3 s0_4 111).bind fun b => some (0, (⟨#[]⟩ : ByteArray), 0, 0, b.1, b.2.1, b.2.2.1, b.2.2.2)
 else none
/-- The state of a reader, with what was kept. -/
structure RdS (w0 w W : World) (g : Nat) (T : List S60) (i n bad at_ : Int) : Prop where
 is : xAe w0 W g T i n bad at_
 bel : Below w0.heap.size w0 W
 kb : xAk w W g none
section
variable {w0 w W W1 : World} {g : Nat} {T : List S60} {i n bad at_ i' n' bad' at_' : Int}
theorem RdS.alloc (h : RdS w0 w W g T i n bad at_) (o : Obj) : RdS w0 w (W.alloc o) g T i n bad at_ := ⟨h.is.alloc o, xA2 h.bel o, xB6 h.kb o⟩
theorem RdS.drewN (h : RdS w0 w W g T i n bad at_) (m : Nat) : RdS w0 w (W.drewN m) g T i n bad at_ := ⟨h.is.drewN m, xA0 h.bel m, xB3 h.kb m⟩
theorem RdS.drew (h : RdS w0 w W g T i n bad at_) : RdS w0 w W.drew g T i n bad at_ := ⟨h.is.drew, xCb h.bel, xBb h.kb⟩
theorem RdS.setI (h : RdS w0 w W g T i n bad at_) (x : Int) : RdS w0 w (W.setCell ⟨g, 1, none⟩ (.int .i64 x)) g T x n bad at_ := ⟨h.is.set_1 x, xAa h.bel h.is.ge, h.kb.set_ 1 _⟩
theorem RdS.far (h : RdS w0 w W g T i n bad at_) {b j : Nat} (hne : g ≠ b) (hb : w.heap.size ≤ b) (hb0 : w0.heap.size ≤ b) (v : Value) : RdS w0 w (W.setCell ⟨b, j, none⟩ v) g T i n bad at_ := ⟨h.is.far hne v, xAa h.bel hb0, xCw h.kb hb v⟩
theorem RdS.call (h : RdS w0 w W g T i n bad at_) (h1 : xAe w0 W1 g T i' n' bad' at_') (h2 : Below w0.heap.size w0 W1) (h3 : xAk W W1 g none) : RdS w0 w W1 g T i' n' bad' at_' := ⟨h1, h2, h.kb.trans h3 (.inl rfl)⟩
end
theorem RdS.below {w0 w W W1 : World} {g : Nat} {T : List S60} {i n bad at_ : Int} (h : RdS w0 w W g T i n bad at_) (hb : Below W.heap.size W W1) : RdS w0 w W1 g T i n bad at_ := h.call (h.is.below hb) (xBv h.bel h.bel.size hb) (xAk.of_below hb g none)
set_option maxHeartbeats 8000000 in
set_option maxRecDepth 100000 in
theorem xAg.calls (g : Nat) (s0_0 : List (S60)) (s0_1 : Int) (s0_2 : Int) (s0_3 : Int) (s0_4 : Int) (a1 : Int) (r1 : Int) (r2 : ByteArray) (r3 : Int) (r4 : Int) (r5 : Int) (r6 : Int) (r7 : Int) (r8 : Int) (w0 w : World) (hI : xAe w0 w g s0_0 s0_1 s0_2 s0_3 s0_4) (hB : Below w0.heap.size w0 w) (h : xAg.f s0_0 s0_1 s0_2 s0_3 s0_4 a1 = some (r1, r2, r3, r4, r5, r6, r7, r8)) :
  Calls Tryd.prog 45 #[.pointer (some ⟨g, 0, none⟩), .int .i64 a1] w fun e w' => e = .returned (.agg #[.int .i64 r1, .string r2, .int .i64 r3, .int .i64 r4]) ∧ xAe w0 w' g s0_0 r5 r6 r7 r8 ∧ Below w0.heap.size w0 w' ∧ xAk w w' g none := by
 have hu89 := Tryd.underlying60
 have RS := Aside0.mk (RdS.mk hI hB (xAk.refl w g none))
 have hgz : g < w.heap.size := hI.lt
 unfold xAg.f at h
 clear hI hB
 split at h
 ·rename_i hc
  obtain ⟨rfl, hlt, h0, hl, hk⟩ := hc
  simp only [Option.some.injEq, Prod.mk.injEq] at h
  obtain ⟨rfl, rfl, rfl, rfl, rfl, rfl, rfl, rfl⟩ := h
  obtain ⟨A0, c0, hblk, hge, hC⟩ := (RS.out.alloc (.cells #[.int .i64 0, .string ⟨#[]⟩, .int .i64 0, .int .i64 0] 60)).is
  have x0 := xC9 hblk
  have x1 := xBz hblk
  have x3 := xCf hblk
  have z1 := xA5 hblk 1
  obtain ⟨ad, rfl, y0, y1, y2, y3⟩ := xD6 hC s0_1 h0 hlt
  have hbb := (RS.out.alloc (.cells #[.int .i64 0, .string ⟨#[]⟩, .int .i64 0, .int .i64 0] 60)).bel
  replace y0 := xAb hbb y0
  replace y1 := xAb hbb y1
  replace y2 := xAb hbb y2
  replace y3 := xAb hbb y3
  have d1 : decide (s0_1 ≥ (s0_0.length : Int)) = false := decide_eq_false (by omega)
  have d1' : decide ((s0_0.length : Int) ≤ s0_1) = false := decide_eq_false (by omega)
  have d2 : ((xAu s0_0 s0_1).f0 != a1) = false := by rw [hk]; simp
  clear hblk hge hC hbb
  go_enter Tryd.func45, Tryd.ntmps45
  go_wp2
  go_quiet (fail)
  go_wp2
  clear x0 x1 x3 z1 y0 y1 y2 y3 d1 d1' d2
  generalize hW1 : World.setCell (World.drewN (World.alloc w _) _) _ _ = W1
  have RS1 := Aside0.mk (show RdS w0 w W1 g s0_0 (s0_1 + 1) s0_2 0 s0_4 by rw [← hW1]; exact ((RS.out.alloc _).drewN _).setI _)
  have hnb : W1.heap[w.heap.size]? = some (.cells #[.int .i64 0, .string ⟨#[]⟩, .int .i64 0, .int .i64 0] 60 (0, 0)) := by rw [← hW1]; exact xAh (p := ⟨g, 1, none⟩) (xA7 (xBj w _) _) (by show w.heap.size ≠ g; omega) _
  clear hW1
  obtain ⟨A1, c1, hblk, hge, hC⟩ := RS1.out.is
  have x0 := xC9 hblk
  have x1 := xBz hblk
  obtain ⟨ad, rfl, y0, y1, y2, y3⟩ := xD6 hC s0_1 h0 hlt
  replace y0 := xAb RS1.out.bel y0
  replace y1 := xAb RS1.out.bel y1
  replace y2 := xAb RS1.out.bel y2
  replace y3 := xAb RS1.out.bel y3
  have HNB := Aside0.mk hnb
  have b0 : W1.cell? ⟨w.heap.size, 0, none⟩ = some (.int .i64 0) := (xA4 hnb 0).trans rfl
  have b1 : W1.cell? ⟨w.heap.size, 1, none⟩ = some (.string ⟨#[]⟩) := (xA4 hnb 1).trans rfl
  have b2 : W1.cell? ⟨w.heap.size, 2, none⟩ = some (.int .i64 0) := (xA4 hnb 2).trans rfl
  have b3 : W1.cell? ⟨w.heap.size, 3, none⟩ = some (.int .i64 0) := (xA4 hnb 3).trans rfl
  have f0 := xA5 hnb 0
  have f1 := xA5 hnb 1
  have f2 := xA5 hnb 2
  have f3 := xA5 hnb 3
  clear hblk hge hC hnb
  go_region
  go_wp2
  have RS2 := ((((RS1.out.drew).far (b := w.heap.size) (j := 0) (by omega) (Nat.le_refl _) RS.out.bel.size (.int .i64 a1)).far (b := w.heap.size) (j := 1) (by omega) (Nat.le_refl _) RS.out.bel.size (.string (xAu s0_0 s0_1).f1)).far (b := w.heap.size) (j := 2) (by omega) (Nat.le_refl _) RS.out.bel.size (.int .i64 (xAu s0_0 s0_1).f2)).far (b := w.heap.size) (j := 3) (by omega) (Nat.le_refl _) RS.out.bel.size (.int .i64 (xAu s0_0 s0_1).f3)
  refine bodyPost_ret (results_cell_row rfl _ _ w.heap.size 60 #[.int .i64 a1, .string (xAu s0_0 s0_1).f1, .int .i64 (xAu s0_0 s0_1).f2, .int .i64 (xAu s0_0 s0_1).f3] (0, 0) _ rfl (xA1 (xA1 (xA1 (xA1 (xAc HNB.out) 0 _ rfl) 1 _ rfl) 2 _ rfl) 3 _ rfl) Tryd.underlying60 rfl (by kernel_rfl)) rfl ?_
  rw [hk]
  exact ⟨rfl, RS2.is, RS2.bel, RS2.kb⟩
 ·rename_i hc1
  split at h
  ·rename_i hc2
   replace h := Option.bind_eq_some_iff.mp h
   obtain ⟨⟨b1, b2, b3, b4⟩, hf, h⟩ := h
   simp only [Option.some.injEq, Prod.mk.injEq] at h
   obtain ⟨rfl, rfl, rfl, rfl, rfl, rfl, rfl, rfl⟩ := h
   have HF := Aside0.mk hf
   have RS0 := Aside0.mk (RS.out.alloc (.cells #[.int .i64 0, .string ⟨#[]⟩, .int .i64 0, .int .i64 0] 60))
   have HNB := Aside0.mk (xBj w (.cells #[.int .i64 0, .string ⟨#[]⟩, .int .i64 0, .int .i64 0] 60))
   obtain ⟨A0, c0, hblk, hge, hC⟩ := RS0.out.is
   have x0 := xC9 hblk
   have x1 := xBz hblk
   have x3 := xCf hblk
   clear hge hf
   by_cases hb : s0_3 = 0
   ·subst hb
    by_cases hi : s0_1 < (s0_0.length : Int)
    ·have hk : 0 ≤ s0_1 ∧ (xAu s0_0 s0_1).f0 ≠ a1 := by omega
     obtain ⟨h0, hk⟩ := hk
     obtain ⟨ad, rfl, y0, y1, y2, y3⟩ := xD6 hC s0_1 h0 hi
     replace y0 := xAb RS0.out.bel y0
     have d1 : decide (s0_1 ≥ (s0_0.length : Int)) = false := decide_eq_false (by omega)
     have d1' : decide ((s0_0.length : Int) ≤ s0_1) = false := decide_eq_false (by omega)
     have d2 : ((xAu s0_0 s0_1).f0 != a1) = true := by simpa using hk
     clear hblk hC hc1 hc2 y1 y2 y3
     go_enter Tryd.func45, Tryd.ntmps45
     go_wp2
     go_quiet (fail)
     go_wp2_with (go_at_call 43; (with_reducible refine (xAn.calls g _ _ _ _ _ 111 _ _ _ _ w0 _ (RS0.out.drewN _).is (RS0.out.drewN _).bel HF.out).mono ?_); rintro e w3 ⟨rfl, hi3, hb3, hk3⟩; have RS1 := Aside0.mk ((RS0.out.drewN _).call hi3 hb3 hk3); have HN1 := Aside0.mk (hk3.blk (xA7 HNB.out _) (by omega) (by simp)); have c0 : w3.cell? ⟨w.heap.size, 0, none⟩ = some (.int .i64 0) := (xA4 HN1.out 0).trans rfl; have c1 : w3.cell? ⟨w.heap.size, 1, none⟩ = some (.string ⟨#[]⟩) := (xA4 HN1.out 1).trans rfl; have c2 : w3.cell? ⟨w.heap.size, 2, none⟩ = some (.int .i64 0) := (xA4 HN1.out 2).trans rfl; have c3 : w3.cell? ⟨w.heap.size, 3, none⟩ = some (.int .i64 0) := (xA4 HN1.out 3).trans rfl; have f0 := xA5 HN1.out 0; have f1 := xA5 HN1.out 1; have f2 := xA5 HN1.out 2; have f3 := xA5 HN1.out 3; clear hi3 hb3 hk3)
     have RS2 := ((((RS1.out).far (b := w.heap.size) (j := 0) (by omega) (Nat.le_refl _) RS.out.bel.size (.int .i64 0)).far (b := w.heap.size) (j := 1) (by omega) (Nat.le_refl _) RS.out.bel.size (.string ⟨#[]⟩)).far (b := w.heap.size) (j := 2) (by omega) (Nat.le_refl _) RS.out.bel.size (.int .i64 0)).far (b := w.heap.size) (j := 3) (by omega) (Nat.le_refl _) RS.out.bel.size (.int .i64 0)
     refine bodyPost_ret (results_cell_row rfl _ _ w.heap.size 60 #[.int .i64 0, .string ⟨#[]⟩, .int .i64 0, .int .i64 0] (0, 0) _ rfl (xA1 (xA1 (xA1 (xA1 HN1.out 0 _ rfl) 1 _ rfl) 2 _ rfl) 3 _ rfl) Tryd.underlying60 rfl (by kernel_rfl)) rfl ?_
     exact ⟨rfl, RS2.is, RS2.bel, RS2.kb⟩
    ·have d1 : decide (s0_1 ≥ (s0_0.length : Int)) = true := decide_eq_true (by omega)
     have d1' : decide ((s0_0.length : Int) ≤ s0_1) = true := decide_eq_true (by omega)
     clear hblk hC hc1 hc2
     go_enter Tryd.func45, Tryd.ntmps45
     go_wp2
     go_quiet (fail)
     go_wp2_with (go_at_call 43; (with_reducible refine (xAn.calls g _ _ _ _ _ 111 _ _ _ _ w0 _ (RS0.out.drewN _).is (RS0.out.drewN _).bel HF.out).mono ?_); rintro e w3 ⟨rfl, hi3, hb3, hk3⟩; have RS1 := Aside0.mk ((RS0.out.drewN _).call hi3 hb3 hk3); have HN1 := Aside0.mk (hk3.blk (xA7 HNB.out _) (by omega) (by simp)); have c0 : w3.cell? ⟨w.heap.size, 0, none⟩ = some (.int .i64 0) := (xA4 HN1.out 0).trans rfl; have c1 : w3.cell? ⟨w.heap.size, 1, none⟩ = some (.string ⟨#[]⟩) := (xA4 HN1.out 1).trans rfl; have c2 : w3.cell? ⟨w.heap.size, 2, none⟩ = some (.int .i64 0) := (xA4 HN1.out 2).trans rfl; have c3 : w3.cell? ⟨w.heap.size, 3, none⟩ = some (.int .i64 0) := (xA4 HN1.out 3).trans rfl; have f0 := xA5 HN1.out 0; have f1 := xA5 HN1.out 1; have f2 := xA5 HN1.out 2; have f3 := xA5 HN1.out 3; clear hi3 hb3 hk3)
     have RS2 := ((((RS1.out).far (b := w.heap.size) (j := 0) (by omega) (Nat.le_refl _) RS.out.bel.size (.int .i64 0)).far (b := w.heap.size) (j := 1) (by omega) (Nat.le_refl _) RS.out.bel.size (.string ⟨#[]⟩)).far (b := w.heap.size) (j := 2) (by omega) (Nat.le_refl _) RS.out.bel.size (.int .i64 0)).far (b := w.heap.size) (j := 3) (by omega) (Nat.le_refl _) RS.out.bel.size (.int .i64 0)
     refine bodyPost_ret (results_cell_row rfl _ _ w.heap.size 60 #[.int .i64 0, .string ⟨#[]⟩, .int .i64 0, .int .i64 0] (0, 0) _ rfl (xA1 (xA1 (xA1 (xA1 HN1.out 0 _ rfl) 1 _ rfl) 2 _ rfl) 3 _ rfl) Tryd.underlying60 rfl (by kernel_rfl)) rfl ?_
     exact ⟨rfl, RS2.is, RS2.bel, RS2.kb⟩
   ·have d0 : (s0_3 != 0) = true := by simpa using hb
    clear hblk hC hc1 hc2
    go_enter Tryd.func45, Tryd.ntmps45
    go_wp2
    go_quiet (fail)
    go_wp2_with (go_at_call 43; (with_reducible refine (xAn.calls g _ _ _ _ _ 111 _ _ _ _ w0 _ (RS0.out.drewN _).is (RS0.out.drewN _).bel HF.out).mono ?_); rintro e w3 ⟨rfl, hi3, hb3, hk3⟩; have RS1 := Aside0.mk ((RS0.out.drewN _).call hi3 hb3 hk3); have HN1 := Aside0.mk (hk3.blk (xA7 HNB.out _) (by omega) (by simp)); have c0 : w3.cell? ⟨w.heap.size, 0, none⟩ = some (.int .i64 0) := (xA4 HN1.out 0).trans rfl; have c1 : w3.cell? ⟨w.heap.size, 1, none⟩ = some (.string ⟨#[]⟩) := (xA4 HN1.out 1).trans rfl; have c2 : w3.cell? ⟨w.heap.size, 2, none⟩ = some (.int .i64 0) := (xA4 HN1.out 2).trans rfl; have c3 : w3.cell? ⟨w.heap.size, 3, none⟩ = some (.int .i64 0) := (xA4 HN1.out 3).trans rfl; have f0 := xA5 HN1.out 0; have f1 := xA5 HN1.out 1; have f2 := xA5 HN1.out 2; have f3 := xA5 HN1.out 3; clear hi3 hb3 hk3)
    have RS2 := ((((RS1.out).far (b := w.heap.size) (j := 0) (by omega) (Nat.le_refl _) RS.out.bel.size (.int .i64 0)).far (b := w.heap.size) (j := 1) (by omega) (Nat.le_refl _) RS.out.bel.size (.string ⟨#[]⟩)).far (b := w.heap.size) (j := 2) (by omega) (Nat.le_refl _) RS.out.bel.size (.int .i64 0)).far (b := w.heap.size) (j := 3) (by omega) (Nat.le_refl _) RS.out.bel.size (.int .i64 0)
    refine bodyPost_ret (results_cell_row rfl _ _ w.heap.size 60 #[.int .i64 0, .string ⟨#[]⟩, .int .i64 0, .int .i64 0] (0, 0) _ rfl (xA1 (xA1 (xA1 (xA1 HN1.out 0 _ rfl) 1 _ rfl) 2 _ rfl) 3 _ rfl) Tryd.underlying60 rfl (by kernel_rfl)) rfl ?_
    exact ⟨rfl, RS2.is, RS2.bel, RS2.kb⟩
  ·cases h

end Go.Proofs.YtknbfhhmjbnemaaDoor.P
end
section
namespace Go.Proofs.YtknbfhhmjbnemaaDoor.P
open Go.RowKit Go.Proofs.YtknbfhhmjbnemaaDoorW.PrintWords Go.Proofs.YtknbfhhmjbnemaaDoorW.PrintLast Go.Proofs.YtknbfhhmjbnemaaDoorW.PrintMore
attribute [local go_sem] xBh xBp

/-! ### xB7: function 77 -/
def xB7.f (s0_0 : List (S60)) (s0_1 : Int) (s0_2 : Int) (s0_3 : Int) (s0_4 : Int) : Option (ByteArray × ByteArray × Int × Int × (List (S25)) × Int × Int × Int × Int) := (xAg.f s0_0 s0_1 s0_2 s0_3 s0_4 1).bind fun bt260 => (some ((⟨#[110, 117, 109]⟩ : ByteArray), (⟨#[]⟩ : ByteArray), bt260.2.2.1, bt260.2.2.2.1, ([] : List (S25)), bt260.2.2.2.2.1, bt260.2.2.2.2.2.1, bt260.2.2.2.2.2.2.1, bt260.2.2.2.2.2.2.2))
set_option maxHeartbeats 8000000 in
set_option maxRecDepth 100000 in
theorem xB7.calls (g : Nat) (s0_0 : List (S60)) (s0_1 : Int) (s0_2 : Int) (s0_3 : Int) (s0_4 : Int) (r1 : ByteArray) (r2 : ByteArray) (r3 : Int) (r4 : Int) (r5 : List (S25)) (r6 : Int) (r7 : Int) (r8 : Int) (r9 : Int) (w0 w : World) (hI : xAe w0 w g s0_0 s0_1 s0_2 s0_3 s0_4) (hB : Below w0.heap.size w0 w) (h : xB7.f s0_0 s0_1 s0_2 s0_3 s0_4 = some (r1, r2, r3, r4, r5, r6, r7, r8, r9)) :
  Calls Tryd.prog 77 #[.pointer (some ⟨g, 0, none⟩)] w fun e w' => ∃ v4_ : Value, e = .returned (.agg #[.string r1, .string r2, .int .i64 r3, .int .i64 r4, v4_]) ∧ Kd.R k25 25 w' w.heap.size (fun _ => True) v4_ r5 ∧ xAe w0 w' g s0_0 r6 r7 r8 r9 ∧ Below w0.heap.size w0 w' ∧ xAk w w' g none := by
 have hu25 := Tryd.underlying25
 have hu60 := Tryd.underlying60
 have HI0 := Aside0.mk hI
 have HK := Aside0.mk (xAk.refl w g none)
 have HL := Aside0.mk hB.size
 clear hI
 have HW0 := Aside0.mk hB.size
 have HB := Aside0.mk hB
 clear hB
 have H : ((xAg.f s0_0 s0_1 s0_2 s0_3 s0_4 1).bind fun bt260 => (some ((⟨#[110, 117, 109]⟩ : ByteArray), (⟨#[]⟩ : ByteArray), bt260.2.2.1, bt260.2.2.2.1, ([] : List (S25)), bt260.2.2.2.2.1, bt260.2.2.2.2.2.1, bt260.2.2.2.2.2.2.1, bt260.2.2.2.2.2.2.2))) = some (r1, r2, r3, r4, r5, r6, r7, r8, r9) := h
 clear h
 replace H := Option.bind_eq_some_iff.mp H
 obtain ⟨⟨t260, t261, t262, t263, t264, t265, t266, t267⟩, A20, H⟩ := H
 replace H : (some ((⟨#[110, 117, 109]⟩ : ByteArray), (⟨#[]⟩ : ByteArray), t262, t263, ([] : List (S25)), t264, t265, t266, t267)) = some (r1, r2, r3, r4, r5, r6, r7, r8, r9) := H
 have A2 := Aside0.mk A20
 clear A20
 simp only [Option.some.injEq, Prod.mk.injEq] at H
 obtain ⟨rfl, rfl, rfl, rfl, rfl, rfl, rfl, rfl, rfl⟩ := H
 go_enter Tryd.func77, Tryd.ntmps77
 go_wp2_with (first | ((with_reducible refine xB0 (N := 2) rfl ?_); refine xB9 ?hg (N := 2) ?hd (cs := #[.string (⟨#[]⟩ : ByteArray), .string (⟨#[]⟩ : ByteArray), .int .i64 0, .int .i64 0, .slice none 0 0]) (t := 25) ?hr ?_; (case hd => rfl); (case hg => rfl); (case hr => first | (go_simp; done) | (go_simp; rfl)); intro gb259 hg w3 hbox hb; have n0_ := Aside0.mk (xAe.below (by repeat (first | (with_reducible first | exact HI0.out | apply xAe.alloc | apply xAe.drewN | apply xAe.drew | apply xAe.set_1 | apply xAe.set_2 | apply xAe.set_3 | apply xAe.set_4) | exact HI0.out)) hb); have n1_ := Aside0.mk (xAk.trans (by repeat (first | (with_reducible first | exact HK.out | apply xAk.set_ | apply xB3 | apply xBb | apply xB6) | exact HK.out)) (xAk.of_below hb g none) (.inl rfl)); have n2_ := Aside0.mk (xAz (by repeat (first | (with_reducible first | exact HB.out | apply xA2 | apply xA0 | apply xA3 | refine xAa ?_ (xAe.ge HI0.out)) | exact HB.out)) hb); have n3_ := Aside0.mk (hbox); have n4_ := Aside0.mk ((by rw [hg]; exact (xDg (w := w) (g := g) (row := none) (by repeat (first | (with_reducible first | exact HK.out | apply xAk.set_ | apply xB3 | apply xBb | apply xB6) | exact HK.out))) : w.heap.size ≤ gb259)); have n5_ := Aside0.mk ((Nat.le_trans HW0.out (by rw [hg]; exact (xDg (w := w) (g := g) (row := none) (by repeat (first | (with_reducible first | exact HK.out | apply xAk.set_ | apply xB3 | apply xBb | apply xB6) | exact HK.out))) : w.heap.size ≤ gb259) : w0.heap.size ≤ gb259)); have n6_ := Aside0.mk ((by rw [hg]; exact Nat.ne_of_lt (xAe.lt (show xAe w0 _ g s0_0 s0_1 s0_2 s0_3 s0_4 from by repeat (first | (with_reducible first | exact HI0.out | apply xAe.alloc | apply xAe.drewN | apply xAe.drew | apply xAe.set_1 | apply xAe.set_2 | apply xAe.set_3 | apply xAe.set_4) | exact HI0.out))) : g ≠ gb259)); have n7_ := Aside0.mk ((by rw [hg]; exact Nat.ne_of_gt (xAe.lt (show xAe w0 _ g s0_0 s0_1 s0_2 s0_3 s0_4 from by repeat (first | (with_reducible first | exact HI0.out | apply xAe.alloc | apply xAe.drewN | apply xAe.drew | apply xAe.set_1 | apply xAe.set_2 | apply xAe.set_3 | apply xAe.set_4) | exact HI0.out))) : gb259 ≠ g)); clear HI0; clear HK; clear HB; have HI0 := n0_; have HK := n1_; have HB := n2_; have BK259 := n3_; have GW259 := n4_; have GE259 := n5_; have NB0_259 := n6_; have NB259_0 := n7_; clear n0_ n1_ n2_ n3_ n4_ n5_ n6_ n7_; clear hb hbox hg) | ((with_reducible refine xAo (f := 45) rfl ?_); refine xBo (some 5) rfl rfl Tryd.func45 (by kernel_rfl) rfl #[.pointer (some ⟨g, 0, none⟩), .int .i64 1] rfl (by (try simp only [List.map_toArray, List.map_cons, List.map_nil]); first | done | rfl | (simp only [List.length_drop, List.length_take]; rfl)) ?_; (with_reducible refine (xAg.calls g s0_0 s0_1 s0_2 s0_3 s0_4 1 t260 t261 t262 t263 t264 t265 t266 t267 w0 _ ?side1 ?side2 A2.out).mono ?_); (case side1 => repeat (first | (with_reducible first | exact HI0.out | apply xAe.alloc | apply xAe.drewN | apply xAe.drew | apply xAe.set_1 | apply xAe.set_2 | apply xAe.set_3 | apply xAe.set_4 | refine xAe.far ?_ NB0_259.out _) | exact HI0.out)); (case side2 => repeat (first | (with_reducible first | exact HB.out | apply xA2 | apply xA0 | apply xA3 | refine xAa ?_ (xAe.ge HI0.out) | refine xAa ?_ GE259.out) | exact HB.out)); rintro e w4 ⟨rfl, hi, hb, hk⟩; refine ⟨_, rfl, ?_⟩; have n0_ := Aside0.mk (xAk.blk hk (g' := gb259) (o := .cells #[.string (⟨#[]⟩ : ByteArray), .string (⟨#[]⟩ : ByteArray), .int .i64 0, .int .i64 0, .slice none 0 0] 25 (0, 0)) (by (with_reducible repeat (first | refine xA7 ?_ _ | refine xAc ?_ | refine xA6 ?_ _)); exact BK259.out) NB259_0.out (by simp)); have n1_ := Aside0.mk (xAk.trans (by repeat (first | (with_reducible first | exact HK.out | apply xAk.set_ | apply xB3 | apply xBb | apply xB6 | refine xCw ?_ GW259.out _) | exact HK.out)) hk (.inl rfl)); have n2_ := Aside0.mk (hb); have n3_ := Aside0.mk (hi); clear BK259; clear HK; clear HB; clear HI0; have BK259 := n0_; have HK := n1_; have HB := n2_; have HI0 := n3_; clear n0_ n1_ n2_ n3_; (try clear hb); (try clear hb2); (try clear hk); (try clear hi)) | ((with_reducible refine xB0 (N := 3) rfl ?_); refine xB9 ?hg (N := 3) ?hd (cs := #[.int .i64 0, .string (⟨#[]⟩ : ByteArray), .int .i64 0, .int .i64 0]) (t := 60) ?hr ?_; (case hd => rfl); (case hg => rfl); (case hr => first | (go_simp; done) | (go_simp; rfl)); intro gb268 hg w5 hbox hb; have n0_ := Aside0.mk (xAe.below (by repeat (first | (with_reducible first | exact HI0.out | apply xAe.alloc | apply xAe.drewN | apply xAe.drew | apply xAe.set_1 | apply xAe.set_2 | apply xAe.set_3 | apply xAe.set_4 | refine xAe.far ?_ NB0_259.out _) | exact HI0.out)) hb); have n1_ := Aside0.mk (xAx (g := gb259) (o := .cells #[.string (⟨#[]⟩ : ByteArray), .string (⟨#[]⟩ : ByteArray), .int .i64 0, .int .i64 0, .slice none 0 0] 25 (0, 0)) (by (with_reducible repeat (first | refine xA7 ?_ _ | refine xAc ?_ | refine xA6 ?_ _)); exact BK259.out) hb); have n2_ := Aside0.mk (xAk.trans (by repeat (first | (with_reducible first | exact HK.out | apply xAk.set_ | apply xB3 | apply xBb | apply xB6 | refine xCw ?_ GW259.out _) | exact HK.out)) (xAk.of_below hb g none) (.inl rfl)); have n3_ := Aside0.mk (xAz (by repeat (first | (with_reducible first | exact HB.out | apply xA2 | apply xA0 | apply xA3 | refine xAa ?_ (xAe.ge HI0.out) | refine xAa ?_ GE259.out) | exact HB.out)) hb); have n4_ := Aside0.mk (hbox); have n5_ := Aside0.mk ((by rw [hg]; exact (xDg (w := w) (g := g) (row := none) (by repeat (first | (with_reducible first | exact HK.out | apply xAk.set_ | apply xB3 | apply xBb | apply xB6 | refine xCw ?_ GW259.out _) | exact HK.out))) : w.heap.size ≤ gb268)); have n6_ := Aside0.mk ((Nat.le_trans HW0.out (by rw [hg]; exact (xDg (w := w) (g := g) (row := none) (by repeat (first | (with_reducible first | exact HK.out | apply xAk.set_ | apply xB3 | apply xBb | apply xB6 | refine xCw ?_ GW259.out _) | exact HK.out))) : w.heap.size ≤ gb268) : w0.heap.size ≤ gb268)); have n7_ := Aside0.mk ((by rw [hg]; exact Nat.ne_of_lt (xBs (g := gb259) (o := .cells #[.string (⟨#[]⟩ : ByteArray), .string (⟨#[]⟩ : ByteArray), .int .i64 0, .int .i64 0, .slice none 0 0] 25 (0, 0)) (by (with_reducible repeat (first | refine xA7 ?_ _ | refine xAc ?_ | refine xA6 ?_ _)); exact BK259.out)) : gb259 ≠ gb268)); have n8_ := Aside0.mk ((by rw [hg]; exact Nat.ne_of_gt (xBs (g := gb259) (o := .cells #[.string (⟨#[]⟩ : ByteArray), .string (⟨#[]⟩ : ByteArray), .int .i64 0, .int .i64 0, .slice none 0 0] 25 (0, 0)) (by (with_reducible repeat (first | refine xA7 ?_ _ | refine xAc ?_ | refine xA6 ?_ _)); exact BK259.out)) : gb268 ≠ gb259)); have n9_ := Aside0.mk ((by rw [hg]; exact Nat.ne_of_lt (xAe.lt (show xAe w0 _ g s0_0 t264 t265 t266 t267 from by repeat (first | (with_reducible first | exact HI0.out | apply xAe.alloc | apply xAe.drewN | apply xAe.drew | apply xAe.set_1 | apply xAe.set_2 | apply xAe.set_3 | apply xAe.set_4 | refine xAe.far ?_ NB0_259.out _) | exact HI0.out))) : g ≠ gb268)); have n10_ := Aside0.mk ((by rw [hg]; exact Nat.ne_of_gt (xAe.lt (show xAe w0 _ g s0_0 t264 t265 t266 t267 from by repeat (first | (with_reducible first | exact HI0.out | apply xAe.alloc | apply xAe.drewN | apply xAe.drew | apply xAe.set_1 | apply xAe.set_2 | apply xAe.set_3 | apply xAe.set_4 | refine xAe.far ?_ NB0_259.out _) | exact HI0.out))) : gb268 ≠ g)); clear HI0; clear BK259; clear HK; clear HB; have HI0 := n0_; have BK259 := n1_; have HK := n2_; have HB := n3_; have BK268 := n4_; have GW268 := n5_; have GE268 := n6_; have NB259_268 := n7_; have NB268_259 := n8_; have NB0_268 := n9_; have NB268_0 := n10_; clear n0_ n1_ n2_ n3_ n4_ n5_ n6_ n7_ n8_ n9_ n10_; clear hb hbox hg; have hnb6 := NB268_259.out; have hnc6 := NB259_268.out; have hnb7 := NB268_0.out; have hnc7 := NB0_268.out; obtain ⟨hcz8_0, hcz8_1, hcz8_2, hcz8_3, hfz8_0, hfz8_1, hfz8_2, hfz8_3⟩ := ex4 BK268.out; have hnb9 := NB259_0.out; have hnc9 := NB0_259.out; obtain ⟨hcz10_0, hcz10_1, hcz10_2, hcz10_3, hcz10_4, hfz10_0, hfz10_1, hfz10_2, hfz10_3, hfz10_4⟩ := ex5 BK259.out))
 refine bodyPost_ret (results_cell_row rfl _ _ gb259 25 #[.string (⟨#[110, 117, 109]⟩ : ByteArray), .string (⟨#[]⟩ : ByteArray), .int .i64 t262, .int .i64 t263, .slice none 0 0] (0, 0) _ rfl (by (with_reducible repeat (first | refine xA7 ?_ _ | refine xAc ?_ | refine xA6 ?_ _)); refine xA1 (cs := #[.string (⟨#[110, 117, 109]⟩ : ByteArray), .string (⟨#[]⟩ : ByteArray), .int .i64 t262, .int .i64 t263, .slice none 0 0]) ?_ 4 _ rfl; (with_reducible repeat (first | refine xA7 ?_ _ | refine xAc ?_ | refine xA6 ?_ _)); refine xA1 (cs := #[.string (⟨#[110, 117, 109]⟩ : ByteArray), .string (⟨#[]⟩ : ByteArray), .int .i64 t262, .int .i64 0, .slice none 0 0]) ?_ 3 _ rfl; (with_reducible repeat (first | refine xA7 ?_ _ | refine xAc ?_ | refine xA6 ?_ _)); refine xA1 (cs := #[.string (⟨#[110, 117, 109]⟩ : ByteArray), .string (⟨#[]⟩ : ByteArray), .int .i64 0, .int .i64 0, .slice none 0 0]) ?_ 2 _ rfl; (with_reducible repeat (first | refine xA7 ?_ _ | refine xAc ?_ | refine xA6 ?_ _)); refine xA1 (cs := #[.string (⟨#[110, 117, 109]⟩ : ByteArray), .string (⟨#[]⟩ : ByteArray), .int .i64 0, .int .i64 0, .slice none 0 0]) ?_ 1 _ rfl; (with_reducible repeat (first | refine xA7 ?_ _ | refine xAc ?_ | refine xA6 ?_ _)); refine xA1 (cs := #[.string (⟨#[]⟩ : ByteArray), .string (⟨#[]⟩ : ByteArray), .int .i64 0, .int .i64 0, .slice none 0 0]) ?_ 0 _ rfl; (with_reducible repeat (first | refine xA7 ?_ _ | refine xAc ?_ | refine xA6 ?_ _)); refine xAh ?_ NB259_268.out _; (with_reducible repeat (first | refine xA7 ?_ _ | refine xAc ?_ | refine xA6 ?_ _)); refine xAh ?_ NB259_268.out _; (with_reducible repeat (first | refine xA7 ?_ _ | refine xAc ?_ | refine xA6 ?_ _)); refine xAh ?_ NB259_268.out _; (with_reducible repeat (first | refine xA7 ?_ _ | refine xAc ?_ | refine xA6 ?_ _)); refine xAh ?_ NB259_268.out _; (with_reducible repeat (first | refine xA7 ?_ _ | refine xAc ?_ | refine xA6 ?_ _)); exact BK259.out) Tryd.underlying25 rfl (by kernel_rfl)) rfl ?_
 exact ⟨_, by first | rfl | (simp <;> rfl) | (simp [*] <;> rfl), by first | exact Kd.R_nil _ _ _ _ _ | exact Kd.N_nil _ _ _ _ _ | exact Kd.V_nil _ _ _ _ _ | exact Kd.Q_nil _ _ _ _ _ | exact Kd.S_nil _ _ _ _ _, by repeat (first | (with_reducible first | exact HI0.out | apply xAe.alloc | apply xAe.drewN | apply xAe.drew | apply xAe.set_1 | apply xAe.set_2 | apply xAe.set_3 | apply xAe.set_4 | refine xAe.far ?_ NB0_259.out _ | refine xAe.far ?_ NB0_268.out _) | exact HI0.out), by repeat (first | (with_reducible first | exact HB.out | apply xA2 | apply xA0 | apply xA3 | refine xAa ?_ (xAe.ge HI0.out) | refine xAa ?_ GE259.out | refine xAa ?_ GE268.out) | exact HB.out), by repeat (first | (with_reducible first | exact HK.out | apply xAk.set_ | apply xB3 | apply xBb | apply xB6 | refine xCw ?_ GW259.out _ | refine xCw ?_ GW268.out _) | exact HK.out)⟩

end Go.Proofs.YtknbfhhmjbnemaaDoor.P
end
section
namespace Go.Proofs.YtknbfhhmjbnemaaDoor.P
open Go.RowKit Go.Proofs.YtknbfhhmjbnemaaDoorW.PrintWords Go.Proofs.YtknbfhhmjbnemaaDoorW.PrintLast Go.Proofs.YtknbfhhmjbnemaaDoorW.PrintMore
attribute [local go_sem] xBh xBp

/-! ### xAt: function 44 -/
-- IMPORTS Derived.Test.YtknbfhhmjbnemaaDoorPcofferdamref11readerfail Derived.Test.YtknbfhhmjbnemaaDoorPcofferdamref11readertoken Derived.Test.YtknbfhhmjbnemaaDoorPcofferdamref10Reserved
def xAt.f (k : Nat) (s0_0 : List (S60)) (s0_1 : Int) (s0_2 : Int) (s0_3 : Int) (s0_4 : Int) : Option (Int × ByteArray × Int × Int × Int × Int × Int × Int) :=
  if s0_1 < (s0_0.length : Int) then
    (if 0 ≤ s0_1 then
      (if (xAu s0_0 s0_1).f0 = 0 then
        ((xAr.f k (xAu s0_0 s0_1).f1).bind fun no =>
          (if no = true then ((xAn.f s0_0 s0_1 s0_2 s0_3 s0_4 111).bind fun b => some (0, (⟨#[]⟩ : ByteArray), 0, 0, b.1, b.2.1, b.2.2.1, b.2.2.2))
           else (xAg.f s0_0 s0_1 s0_2 s0_3 s0_4 0)))
       else (xAg.f s0_0 s0_1 s0_2 s0_3 s0_4 0))
     else none)
  else (xAg.f s0_0 s0_1 s0_2 s0_3 s0_4 0)
set_option maxHeartbeats 8000000 in
set_option maxRecDepth 100000 in
theorem xAt.calls (k : Nat) (g : Nat) (s0_0 : List (S60)) (s0_1 : Int) (s0_2 : Int) (s0_3 : Int) (s0_4 : Int) (r1 : Int) (r2 : ByteArray) (r3 : Int) (r4 : Int) (r5 : Int) (r6 : Int) (r7 : Int) (r8 : Int) (w0 w : World) (hI : xAe w0 w g s0_0 s0_1 s0_2 s0_3 s0_4) (hB : Below w0.heap.size w0 w) (h : xAt.f k s0_0 s0_1 s0_2 s0_3 s0_4 = some (r1, r2, r3, r4, r5, r6, r7, r8)) :
  Calls Tryd.prog 44 #[.pointer (some ⟨g, 0, none⟩)] w fun e w' => e = .returned (.agg #[.int .i64 r1, .string r2, .int .i64 r3, .int .i64 r4]) ∧ xAe w0 w' g s0_0 r5 r6 r7 r8 ∧ Below w0.heap.size w0 w' ∧ xAk w w' g none := by
 have RS := Aside0.mk (RdS.mk hI hB (xAk.refl w g none))
 have hgz : g < w.heap.size := hI.lt
 unfold xAt.f at h
 clear hI hB
 have RS0 := Aside0.mk (RS.out.alloc (.cells #[.int .i64 0, .string ⟨#[]⟩, .int .i64 0, .int .i64 0] 60))
 have HNB := Aside0.mk (xBj w (.cells #[.int .i64 0, .string ⟨#[]⟩, .int .i64 0, .int .i64 0] 60))
 obtain ⟨A0, c0, hblk, hge, hC⟩ := RS0.out.is
 have x0 := xC9 hblk
 have x1 := xBz hblk
 clear hge
 by_cases hi : s0_1 < (s0_0.length : Int)
 ·rw [if_pos hi] at h
  by_cases h0 : 0 ≤ s0_1
  ·rw [if_pos h0] at h
   obtain ⟨ad, rfl, y0, y1, y2, y3⟩ := xD6 hC s0_1 h0 hi
   replace y0 := xAb RS0.out.bel y0
   replace y1 := xAb RS0.out.bel y1
   have d1 : decide (s0_1 < (s0_0.length : Int)) = true := decide_eq_true hi
   clear y2 y3
   by_cases hk : (xAu s0_0 s0_1).f0 = 0
   ·rw [if_pos hk] at h
    replace h := Option.bind_eq_some_iff.mp h
    obtain ⟨no, hno, h⟩ := h
    have HNO := Aside0.mk hno
    have HH := Aside0.mk h
    have d2 : ((xAu s0_0 s0_1).f0 == 0) = true := by rw [hk]; rfl
    clear hblk hC hk hno h
    go_enter Tryd.func44, Tryd.ntmps44
    go_wp2
    go_quiet (fail)
    go_wp2
    clear x0 x1
    generalize hW1 : World.drewN (World.alloc w _) _ = W1
    have RS1 := Aside0.mk (show RdS w0 w W1 g s0_0 s0_1 s0_2 s0_3 s0_4 by rw [← hW1]; exact RS0.out.drewN _)
    have HN1 : W1.heap[w.heap.size]? = some (.cells #[.int .i64 0, .string ⟨#[]⟩, .int .i64 0, .int .i64 0] 60 (0, 0)) := by rw [← hW1]; exact xA7 HNB.out _
    replace y1 : W1.cell? ⟨(ad.add (s0_1.toNat * 4)).block, (ad.add (s0_1.toNat * 4)).off + 1, none⟩ = some (.string (xAu s0_0 s0_1).f1) := by rw [← hW1]; exact y1
    clear hW1 y0 d1 d2
    obtain ⟨A1, c1, hblk, hge, hC⟩ := RS1.out.is
    obtain ⟨ad1, rfl, z0, z1, z2, z3⟩ := xD6 hC s0_1 h0 hi
    replace z1 := xAb RS1.out.bel z1
    have x0 := xC9 hblk
    have x1 := xBz hblk
    have HN1' := Aside0.mk HN1
    clear hblk hge hC z0 z2 z3 y1 HN1
    go_region_held3 (fun w' => w'.cell? ⟨g, 0, none⟩ = some (.slice (some ad1) s0_0.length c1) ∧ w'.cell? ⟨g, 1, none⟩ = some (.int .i64 s0_1) ∧ w'.cell? ⟨(ad1.add (s0_1.toNat * 4)).block, (ad1.add (s0_1.toNat * 4)).off + 1, none⟩ = some (.string (xAu s0_0 s0_1).f1) ∧ Below W1.heap.size W1 w') (first | (refine ⟨?_, ?_, ?_, ?_⟩ <;> first | assumption | exact Below.drew (Below.refl _ _) | (simp [*]; done)) | go_keep) (first | (go_at_call 75; (with_reducible refine (xAr.calls k _ _ _ HNO.out).mono ?_); rintro e w3 ⟨rfl, hb3⟩; have hS1 : w3.cell? ⟨g, 0, none⟩ = some (.slice (some ad1) s0_0.length c1) := xAb hb3 x0; have hS2 := xAb hb3 x1; have hS3 := xAb hb3 z1; have hS4 : Below W1.heap.size W1 w3 := Below.trans (Below.drew (Below.refl _ _)) hb3))
    have RS2' := Aside0.mk (RS1.out.below hS4)
    have HN2 := Aside0.mk (xAx HN1'.out hS4)
    clear hS1 hS2 hS3 hS4 x0 x1 z1 hb3
    cases no with
    | true =>
     have hf := HH.out
     rw [if_pos rfl] at hf
     replace hf := Option.bind_eq_some_iff.mp hf
     obtain ⟨⟨b1, b2, b3, b4⟩, hf, h⟩ := hf
     simp only [Option.some.injEq, Prod.mk.injEq] at h
     obtain ⟨rfl, rfl, rfl, rfl, rfl, rfl, rfl, rfl⟩ := h
     have HF := Aside0.mk hf
     clear hf HH
     go_wp2_with (go_at_call 43; (with_reducible refine (xAn.calls g _ _ _ _ _ 111 _ _ _ _ w0 _ (RS2'.out).is (RS2'.out).bel HF.out).mono ?_); rintro e w4 ⟨rfl, hi3, hb3, hk3⟩; have RS3 := Aside0.mk ((RS2'.out).call hi3 hb3 hk3); have HN1 := Aside0.mk (hk3.blk (HN2.out) (by omega) (by simp)); have c0 : w4.cell? ⟨w.heap.size, 0, none⟩ = some (.int .i64 0) := (xA4 HN1.out 0).trans rfl; have f0 := xA5 HN1.out 0; have c1 : w4.cell? ⟨w.heap.size, 1, none⟩ = some (.string ⟨#[]⟩) := (xA4 HN1.out 1).trans rfl; have f1 := xA5 HN1.out 1; have c2 : w4.cell? ⟨w.heap.size, 2, none⟩ = some (.int .i64 0) := (xA4 HN1.out 2).trans rfl; have f2 := xA5 HN1.out 2; have c3 : w4.cell? ⟨w.heap.size, 3, none⟩ = some (.int .i64 0) := (xA4 HN1.out 3).trans rfl; have f3 := xA5 HN1.out 3; clear hi3 hb3 hk3)
     have RS2 := ((((RS3.out).far (b := w.heap.size) (j := 0) (by omega) (Nat.le_refl _) RS.out.bel.size (.int .i64 0)).far (b := w.heap.size) (j := 1) (by omega) (Nat.le_refl _) RS.out.bel.size (.string ⟨#[]⟩)).far (b := w.heap.size) (j := 2) (by omega) (Nat.le_refl _) RS.out.bel.size (.int .i64 0)).far (b := w.heap.size) (j := 3) (by omega) (Nat.le_refl _) RS.out.bel.size (.int .i64 0)
     refine bodyPost_ret (results_cell_row rfl _ _ w.heap.size 60 #[.int .i64 0, .string ⟨#[]⟩, .int .i64 0, .int .i64 0] (0, 0) _ rfl (xA1 (xA1 (xA1 (xA1 HN1.out 0 _ rfl) 1 _ rfl) 2 _ rfl) 3 _ rfl) Tryd.underlying60 rfl (by kernel_rfl)) rfl ?_
     exact ⟨rfl, RS2.is, RS2.bel, RS2.kb⟩
    | false =>
     have HF := Aside0.mk HH.out
     rw [if_neg (by decide)] at HF
     clear HH
     go_wp2_with (go_at_call 45; (with_reducible refine (xAg.calls g _ _ _ _ _ 0 _ _ _ _ _ _ _ _ w0 _ (RS2'.out).is (RS2'.out).bel HF.out).mono ?_); rintro e w4 ⟨rfl, hi3, hb3, hk3⟩; have RS3 := Aside0.mk ((RS2'.out).call hi3 hb3 hk3); have HN1 := Aside0.mk (hk3.blk (HN2.out) (by omega) (by simp)); have c0 : w4.cell? ⟨w.heap.size, 0, none⟩ = some (.int .i64 0) := (xA4 HN1.out 0).trans rfl; have f0 := xA5 HN1.out 0; have c1 : w4.cell? ⟨w.heap.size, 1, none⟩ = some (.string ⟨#[]⟩) := (xA4 HN1.out 1).trans rfl; have f1 := xA5 HN1.out 1; have c2 : w4.cell? ⟨w.heap.size, 2, none⟩ = some (.int .i64 0) := (xA4 HN1.out 2).trans rfl; have f2 := xA5 HN1.out 2; have c3 : w4.cell? ⟨w.heap.size, 3, none⟩ = some (.int .i64 0) := (xA4 HN1.out 3).trans rfl; have f3 := xA5 HN1.out 3; clear hi3 hb3 hk3)
     have RS2 := ((((RS3.out).far (b := w.heap.size) (j := 0) (by omega) (Nat.le_refl _) RS.out.bel.size (.int .i64 r1)).far (b := w.heap.size) (j := 1) (by omega) (Nat.le_refl _) RS.out.bel.size (.string r2)).far (b := w.heap.size) (j := 2) (by omega) (Nat.le_refl _) RS.out.bel.size (.int .i64 r3)).far (b := w.heap.size) (j := 3) (by omega) (Nat.le_refl _) RS.out.bel.size (.int .i64 r4)
     refine bodyPost_ret (results_cell_row rfl _ _ w.heap.size 60 #[.int .i64 r1, .string r2, .int .i64 r3, .int .i64 r4] (0, 0) _ rfl (xA1 (xA1 (xA1 (xA1 HN1.out 0 _ rfl) 1 _ rfl) 2 _ rfl) 3 _ rfl) Tryd.underlying60 rfl (by kernel_rfl)) rfl ?_
     exact ⟨rfl, RS2.is, RS2.bel, RS2.kb⟩
   ·rw [if_neg hk] at h
    have HF := Aside0.mk h
    have d2 : ((xAu s0_0 s0_1).f0 == 0) = false := by simpa using hk
    clear hblk hC hk h
    go_enter Tryd.func44, Tryd.ntmps44
    go_wp2
    go_quiet (fail)
    go_wp2_with (go_at_call 45; (with_reducible refine (xAg.calls g _ _ _ _ _ 0 _ _ _ _ _ _ _ _ w0 _ (RS0.out.drewN _).is (RS0.out.drewN _).bel HF.out).mono ?_); rintro e w4 ⟨rfl, hi3, hb3, hk3⟩; have RS3 := Aside0.mk ((RS0.out.drewN _).call hi3 hb3 hk3); have HN1 := Aside0.mk (hk3.blk (xA7 HNB.out _) (by omega) (by simp)); have c0 : w4.cell? ⟨w.heap.size, 0, none⟩ = some (.int .i64 0) := (xA4 HN1.out 0).trans rfl; have f0 := xA5 HN1.out 0; have c1 : w4.cell? ⟨w.heap.size, 1, none⟩ = some (.string ⟨#[]⟩) := (xA4 HN1.out 1).trans rfl; have f1 := xA5 HN1.out 1; have c2 : w4.cell? ⟨w.heap.size, 2, none⟩ = some (.int .i64 0) := (xA4 HN1.out 2).trans rfl; have f2 := xA5 HN1.out 2; have c3 : w4.cell? ⟨w.heap.size, 3, none⟩ = some (.int .i64 0) := (xA4 HN1.out 3).trans rfl; have f3 := xA5 HN1.out 3; clear hi3 hb3 hk3)
    have RS2 := ((((RS3.out).far (b := w.heap.size) (j := 0) (by omega) (Nat.le_refl _) RS.out.bel.size (.int .i64 r1)).far (b := w.heap.size) (j := 1) (by omega) (Nat.le_refl _) RS.out.bel.size (.string r2)).far (b := w.heap.size) (j := 2) (by omega) (Nat.le_refl _) RS.out.bel.size (.int .i64 r3)).far (b := w.heap.size) (j := 3) (by omega) (Nat.le_refl _) RS.out.bel.size (.int .i64 r4)
    refine bodyPost_ret (results_cell_row rfl _ _ w.heap.size 60 #[.int .i64 r1, .string r2, .int .i64 r3, .int .i64 r4] (0, 0) _ rfl (xA1 (xA1 (xA1 (xA1 HN1.out 0 _ rfl) 1 _ rfl) 2 _ rfl) 3 _ rfl) Tryd.underlying60 rfl (by kernel_rfl)) rfl ?_
    exact ⟨rfl, RS2.is, RS2.bel, RS2.kb⟩
  ·rw [if_neg h0] at h
   cases h
 ·rw [if_neg hi] at h
  have HF := Aside0.mk h
  have d1 : decide (s0_1 < (s0_0.length : Int)) = false := decide_eq_false hi
  clear hblk hC h
  go_enter Tryd.func44, Tryd.ntmps44
  go_wp2
  go_quiet (fail)
  go_wp2_with (go_at_call 45; (with_reducible refine (xAg.calls g _ _ _ _ _ 0 _ _ _ _ _ _ _ _ w0 _ (RS0.out.drewN _).is (RS0.out.drewN _).bel HF.out).mono ?_); rintro e w4 ⟨rfl, hi3, hb3, hk3⟩; have RS3 := Aside0.mk ((RS0.out.drewN _).call hi3 hb3 hk3); have HN1 := Aside0.mk (hk3.blk (xA7 HNB.out _) (by omega) (by simp)); have c0 : w4.cell? ⟨w.heap.size, 0, none⟩ = some (.int .i64 0) := (xA4 HN1.out 0).trans rfl; have f0 := xA5 HN1.out 0; have c1 : w4.cell? ⟨w.heap.size, 1, none⟩ = some (.string ⟨#[]⟩) := (xA4 HN1.out 1).trans rfl; have f1 := xA5 HN1.out 1; have c2 : w4.cell? ⟨w.heap.size, 2, none⟩ = some (.int .i64 0) := (xA4 HN1.out 2).trans rfl; have f2 := xA5 HN1.out 2; have c3 : w4.cell? ⟨w.heap.size, 3, none⟩ = some (.int .i64 0) := (xA4 HN1.out 3).trans rfl; have f3 := xA5 HN1.out 3; clear hi3 hb3 hk3)
  have RS2 := ((((RS3.out).far (b := w.heap.size) (j := 0) (by omega) (Nat.le_refl _) RS.out.bel.size (.int .i64 r1)).far (b := w.heap.size) (j := 1) (by omega) (Nat.le_refl _) RS.out.bel.size (.string r2)).far (b := w.heap.size) (j := 2) (by omega) (Nat.le_refl _) RS.out.bel.size (.int .i64 r3)).far (b := w.heap.size) (j := 3) (by omega) (Nat.le_refl _) RS.out.bel.size (.int .i64 r4)
  refine bodyPost_ret (results_cell_row rfl _ _ w.heap.size 60 #[.int .i64 r1, .string r2, .int .i64 r3, .int .i64 r4] (0, 0) _ rfl (xA1 (xA1 (xA1 (xA1 HN1.out 0 _ rfl) 1 _ rfl) 2 _ rfl) 3 _ rfl) Tryd.underlying60 rfl (by kernel_rfl)) rfl ?_
  exact ⟨rfl, RS2.is, RS2.bel, RS2.kb⟩

end Go.Proofs.YtknbfhhmjbnemaaDoor.P
end
section
namespace Go.Proofs.YtknbfhhmjbnemaaDoor.P
open Go.RowKit Go.Proofs.YtknbfhhmjbnemaaDoorW.PrintWords Go.Proofs.YtknbfhhmjbnemaaDoorW.PrintLast Go.Proofs.YtknbfhhmjbnemaaDoorW.PrintMore
attribute [local go_sem] xBh xBp

/-! ### xBe: function 78 -/
def xBe.f (k : Nat) (s0_0 : List (S60)) (s0_1 : Int) (s0_2 : Int) (s0_3 : Int) (s0_4 : Int) : Option (ByteArray × ByteArray × Int × Int × (List (S25)) × Int × Int × Int × Int) := (xAt.f k s0_0 s0_1 s0_2 s0_3 s0_4).bind fun bt270 => (some ((⟨#[110, 97, 109, 101]⟩ : ByteArray), bt270.2.1, 0, bt270.2.2.2.1, ([] : List (S25)), bt270.2.2.2.2.1, bt270.2.2.2.2.2.1, bt270.2.2.2.2.2.2.1, bt270.2.2.2.2.2.2.2))
set_option maxHeartbeats 8000000 in
set_option maxRecDepth 100000 in
theorem xBe.calls (k : Nat) (g : Nat) (s0_0 : List (S60)) (s0_1 : Int) (s0_2 : Int) (s0_3 : Int) (s0_4 : Int) (r1 : ByteArray) (r2 : ByteArray) (r3 : Int) (r4 : Int) (r5 : List (S25)) (r6 : Int) (r7 : Int) (r8 : Int) (r9 : Int) (w0 w : World) (hI : xAe w0 w g s0_0 s0_1 s0_2 s0_3 s0_4) (hB : Below w0.heap.size w0 w) (h : xBe.f k s0_0 s0_1 s0_2 s0_3 s0_4 = some (r1, r2, r3, r4, r5, r6, r7, r8, r9)) :
  Calls Tryd.prog 78 #[.pointer (some ⟨g, 0, none⟩)] w fun e w' => ∃ v4_ : Value, e = .returned (.agg #[.string r1, .string r2, .int .i64 r3, .int .i64 r4, v4_]) ∧ Kd.R k25 25 w' w.heap.size (fun _ => True) v4_ r5 ∧ xAe w0 w' g s0_0 r6 r7 r8 r9 ∧ Below w0.heap.size w0 w' ∧ xAk w w' g none := by
 have hu25 := Tryd.underlying25
 have hu60 := Tryd.underlying60
 have HI0 := Aside0.mk hI
 have HK := Aside0.mk (xAk.refl w g none)
 have HL := Aside0.mk hB.size
 clear hI
 have HW0 := Aside0.mk hB.size
 have HB := Aside0.mk hB
 clear hB
 have H : ((xAt.f k s0_0 s0_1 s0_2 s0_3 s0_4).bind fun bt270 => (some ((⟨#[110, 97, 109, 101]⟩ : ByteArray), bt270.2.1, 0, bt270.2.2.2.1, ([] : List (S25)), bt270.2.2.2.2.1, bt270.2.2.2.2.2.1, bt270.2.2.2.2.2.2.1, bt270.2.2.2.2.2.2.2))) = some (r1, r2, r3, r4, r5, r6, r7, r8, r9) := h
 clear h
 replace H := Option.bind_eq_some_iff.mp H
 obtain ⟨⟨t270, t271, t272, t273, t274, t275, t276, t277⟩, A20, H⟩ := H
 replace H : (some ((⟨#[110, 97, 109, 101]⟩ : ByteArray), t271, 0, t273, ([] : List (S25)), t274, t275, t276, t277)) = some (r1, r2, r3, r4, r5, r6, r7, r8, r9) := H
 have A2 := Aside0.mk A20
 clear A20
 simp only [Option.some.injEq, Prod.mk.injEq] at H
 obtain ⟨rfl, rfl, rfl, rfl, rfl, rfl, rfl, rfl, rfl⟩ := H
 go_enter Tryd.func78, Tryd.ntmps78
 go_wp2_with (first | ((with_reducible refine xB0 (N := 2) rfl ?_); refine xB9 ?hg (N := 2) ?hd (cs := #[.string (⟨#[]⟩ : ByteArray), .string (⟨#[]⟩ : ByteArray), .int .i64 0, .int .i64 0, .slice none 0 0]) (t := 25) ?hr ?_; (case hd => rfl); (case hg => rfl); (case hr => first | (go_simp; done) | (go_simp; rfl)); intro gb269 hg w3 hbox hb; have n0_ := Aside0.mk (xAe.below (by repeat (first | (with_reducible first | exact HI0.out | apply xAe.alloc | apply xAe.drewN | apply xAe.drew | apply xAe.set_1 | apply xAe.set_2 | apply xAe.set_3 | apply xAe.set_4) | exact HI0.out)) hb); have n1_ := Aside0.mk (xAk.trans (by repeat (first | (with_reducible first | exact HK.out | apply xAk.set_ | apply xB3 | apply xBb | apply xB6) | exact HK.out)) (xAk.of_below hb g none) (.inl rfl)); have n2_ := Aside0.mk (xAz (by repeat (first | (with_reducible first | exact HB.out | apply xA2 | apply xA0 | apply xA3 | refine xAa ?_ (xAe.ge HI0.out)) | exact HB.out)) hb); have n3_ := Aside0.mk (hbox); have n4_ := Aside0.mk ((by rw [hg]; exact (xDg (w := w) (g := g) (row := none) (by repeat (first | (with_reducible first | exact HK.out | apply xAk.set_ | apply xB3 | apply xBb | apply xB6) | exact HK.out))) : w.heap.size ≤ gb269)); have n5_ := Aside0.mk ((Nat.le_trans HW0.out (by rw [hg]; exact (xDg (w := w) (g := g) (row := none) (by repeat (first | (with_reducible first | exact HK.out | apply xAk.set_ | apply xB3 | apply xBb | apply xB6) | exact HK.out))) : w.heap.size ≤ gb269) : w0.heap.size ≤ gb269)); have n6_ := Aside0.mk ((by rw [hg]; exact Nat.ne_of_lt (xAe.lt (show xAe w0 _ g s0_0 s0_1 s0_2 s0_3 s0_4 from by repeat (first | (with_reducible first | exact HI0.out | apply xAe.alloc | apply xAe.drewN | apply xAe.drew | apply xAe.set_1 | apply xAe.set_2 | apply xAe.set_3 | apply xAe.set_4) | exact HI0.out))) : g ≠ gb269)); have n7_ := Aside0.mk ((by rw [hg]; exact Nat.ne_of_gt (xAe.lt (show xAe w0 _ g s0_0 s0_1 s0_2 s0_3 s0_4 from by repeat (first | (with_reducible first | exact HI0.out | apply xAe.alloc | apply xAe.drewN | apply xAe.drew | apply xAe.set_1 | apply xAe.set_2 | apply xAe.set_3 | apply xAe.set_4) | exact HI0.out))) : gb269 ≠ g)); clear HI0; clear HK; clear HB; have HI0 := n0_; have HK := n1_; have HB := n2_; have BK269 := n3_; have GW269 := n4_; have GE269 := n5_; have NB0_269 := n6_; have NB269_0 := n7_; clear n0_ n1_ n2_ n3_ n4_ n5_ n6_ n7_; clear hb hbox hg) | ((with_reducible refine xAo (f := 44) rfl ?_); refine xBo (some 5) rfl rfl Tryd.func44 (by kernel_rfl) rfl #[.pointer (some ⟨g, 0, none⟩)] rfl (by (try simp only [List.map_toArray, List.map_cons, List.map_nil]); first | done | rfl | (simp only [List.length_drop, List.length_take]; rfl)) ?_; (with_reducible refine (xAt.calls k g s0_0 s0_1 s0_2 s0_3 s0_4 t270 t271 t272 t273 t274 t275 t276 t277 w0 _ ?side1 ?side2 A2.out).mono ?_); (case side1 => repeat (first | (with_reducible first | exact HI0.out | apply xAe.alloc | apply xAe.drewN | apply xAe.drew | apply xAe.set_1 | apply xAe.set_2 | apply xAe.set_3 | apply xAe.set_4 | refine xAe.far ?_ NB0_269.out _) | exact HI0.out)); (case side2 => repeat (first | (with_reducible first | exact HB.out | apply xA2 | apply xA0 | apply xA3 | refine xAa ?_ (xAe.ge HI0.out) | refine xAa ?_ GE269.out) | exact HB.out)); rintro e w4 ⟨rfl, hi, hb, hk⟩; refine ⟨_, rfl, ?_⟩; have n0_ := Aside0.mk (xAk.blk hk (g' := gb269) (o := .cells #[.string (⟨#[]⟩ : ByteArray), .string (⟨#[]⟩ : ByteArray), .int .i64 0, .int .i64 0, .slice none 0 0] 25 (0, 0)) (by (with_reducible repeat (first | refine xA7 ?_ _ | refine xAc ?_ | refine xA6 ?_ _)); exact BK269.out) NB269_0.out (by simp)); have n1_ := Aside0.mk (xAk.trans (by repeat (first | (with_reducible first | exact HK.out | apply xAk.set_ | apply xB3 | apply xBb | apply xB6 | refine xCw ?_ GW269.out _) | exact HK.out)) hk (.inl rfl)); have n2_ := Aside0.mk (hb); have n3_ := Aside0.mk (hi); clear BK269; clear HK; clear HB; clear HI0; have BK269 := n0_; have HK := n1_; have HB := n2_; have HI0 := n3_; clear n0_ n1_ n2_ n3_; (try clear hb); (try clear hb2); (try clear hk); (try clear hi)) | ((with_reducible refine xB0 (N := 3) rfl ?_); refine xB9 ?hg (N := 3) ?hd (cs := #[.int .i64 0, .string (⟨#[]⟩ : ByteArray), .int .i64 0, .int .i64 0]) (t := 60) ?hr ?_; (case hd => rfl); (case hg => rfl); (case hr => first | (go_simp; done) | (go_simp; rfl)); intro gb278 hg w5 hbox hb; have n0_ := Aside0.mk (xAe.below (by repeat (first | (with_reducible first | exact HI0.out | apply xAe.alloc | apply xAe.drewN | apply xAe.drew | apply xAe.set_1 | apply xAe.set_2 | apply xAe.set_3 | apply xAe.set_4 | refine xAe.far ?_ NB0_269.out _) | exact HI0.out)) hb); have n1_ := Aside0.mk (xAx (g := gb269) (o := .cells #[.string (⟨#[]⟩ : ByteArray), .string (⟨#[]⟩ : ByteArray), .int .i64 0, .int .i64 0, .slice none 0 0] 25 (0, 0)) (by (with_reducible repeat (first | refine xA7 ?_ _ | refine xAc ?_ | refine xA6 ?_ _)); exact BK269.out) hb); have n2_ := Aside0.mk (xAk.trans (by repeat (first | (with_reducible first | exact HK.out | apply xAk.set_ | apply xB3 | apply xBb | apply xB6 | refine xCw ?_ GW269.out _) | exact HK.out)) (xAk.of_below hb g none) (.inl rfl)); have n3_ := Aside0.mk (xAz (by repeat (first | (with_reducible first | exact HB.out | apply xA2 | apply xA0 | apply xA3 | refine xAa ?_ (xAe.ge HI0.out) | refine xAa ?_ GE269.out) | exact HB.out)) hb); have n4_ := Aside0.mk (hbox); have n5_ := Aside0.mk ((by rw [hg]; exact (xDg (w := w) (g := g) (row := none) (by repeat (first | (with_reducible first | exact HK.out | apply xAk.set_ | apply xB3 | apply xBb | apply xB6 | refine xCw ?_ GW269.out _) | exact HK.out))) : w.heap.size ≤ gb278)); have n6_ := Aside0.mk ((Nat.le_trans HW0.out (by rw [hg]; exact (xDg (w := w) (g := g) (row := none) (by repeat (first | (with_reducible first | exact HK.out | apply xAk.set_ | apply xB3 | apply xBb | apply xB6 | refine xCw ?_ GW269.out _) | exact HK.out))) : w.heap.size ≤ gb278) : w0.heap.size ≤ gb278)); have n7_ := Aside0.mk ((by rw [hg]; exact Nat.ne_of_lt (xBs (g := gb269) (o := .cells #[.string (⟨#[]⟩ : ByteArray), .string (⟨#[]⟩ : ByteArray), .int .i64 0, .int .i64 0, .slice none 0 0] 25 (0, 0)) (by (with_reducible repeat (first | refine xA7 ?_ _ | refine xAc ?_ | refine xA6 ?_ _)); exact BK269.out)) : gb269 ≠ gb278)); have n8_ := Aside0.mk ((by rw [hg]; exact Nat.ne_of_gt (xBs (g := gb269) (o := .cells #[.string (⟨#[]⟩ : ByteArray), .string (⟨#[]⟩ : ByteArray), .int .i64 0, .int .i64 0, .slice none 0 0] 25 (0, 0)) (by (with_reducible repeat (first | refine xA7 ?_ _ | refine xAc ?_ | refine xA6 ?_ _)); exact BK269.out)) : gb278 ≠ gb269)); have n9_ := Aside0.mk ((by rw [hg]; exact Nat.ne_of_lt (xAe.lt (show xAe w0 _ g s0_0 t274 t275 t276 t277 from by repeat (first | (with_reducible first | exact HI0.out | apply xAe.alloc | apply xAe.drewN | apply xAe.drew | apply xAe.set_1 | apply xAe.set_2 | apply xAe.set_3 | apply xAe.set_4 | refine xAe.far ?_ NB0_269.out _) | exact HI0.out))) : g ≠ gb278)); have n10_ := Aside0.mk ((by rw [hg]; exact Nat.ne_of_gt (xAe.lt (show xAe w0 _ g s0_0 t274 t275 t276 t277 from by repeat (first | (with_reducible first | exact HI0.out | apply xAe.alloc | apply xAe.drewN | apply xAe.drew | apply xAe.set_1 | apply xAe.set_2 | apply xAe.set_3 | apply xAe.set_4 | refine xAe.far ?_ NB0_269.out _) | exact HI0.out))) : gb278 ≠ g)); clear HI0; clear BK269; clear HK; clear HB; have HI0 := n0_; have BK269 := n1_; have HK := n2_; have HB := n3_; have BK278 := n4_; have GW278 := n5_; have GE278 := n6_; have NB269_278 := n7_; have NB278_269 := n8_; have NB0_278 := n9_; have NB278_0 := n10_; clear n0_ n1_ n2_ n3_ n4_ n5_ n6_ n7_ n8_ n9_ n10_; clear hb hbox hg; have hnb6 := NB278_269.out; have hnc6 := NB269_278.out; have hnb7 := NB278_0.out; have hnc7 := NB0_278.out; obtain ⟨hcz8_0, hcz8_1, hcz8_2, hcz8_3, hfz8_0, hfz8_1, hfz8_2, hfz8_3⟩ := ex4 BK278.out; have hnb9 := NB269_0.out; have hnc9 := NB0_269.out; obtain ⟨hcz10_0, hcz10_1, hcz10_2, hcz10_3, hcz10_4, hfz10_0, hfz10_1, hfz10_2, hfz10_3, hfz10_4⟩ := ex5 BK269.out))
 refine bodyPost_ret (results_cell_row rfl _ _ gb269 25 #[.string (⟨#[110, 97, 109, 101]⟩ : ByteArray), .string t271, .int .i64 0, .int .i64 t273, .slice none 0 0] (0, 0) _ rfl (by (with_reducible repeat (first | refine xA7 ?_ _ | refine xAc ?_ | refine xA6 ?_ _)); refine xA1 (cs := #[.string (⟨#[110, 97, 109, 101]⟩ : ByteArray), .string t271, .int .i64 0, .int .i64 t273, .slice none 0 0]) ?_ 4 _ rfl; (with_reducible repeat (first | refine xA7 ?_ _ | refine xAc ?_ | refine xA6 ?_ _)); refine xA1 (cs := #[.string (⟨#[110, 97, 109, 101]⟩ : ByteArray), .string t271, .int .i64 0, .int .i64 0, .slice none 0 0]) ?_ 3 _ rfl; (with_reducible repeat (first | refine xA7 ?_ _ | refine xAc ?_ | refine xA6 ?_ _)); refine xA1 (cs := #[.string (⟨#[110, 97, 109, 101]⟩ : ByteArray), .string t271, .int .i64 0, .int .i64 0, .slice none 0 0]) ?_ 2 _ rfl; (with_reducible repeat (first | refine xA7 ?_ _ | refine xAc ?_ | refine xA6 ?_ _)); refine xA1 (cs := #[.string (⟨#[110, 97, 109, 101]⟩ : ByteArray), .string (⟨#[]⟩ : ByteArray), .int .i64 0, .int .i64 0, .slice none 0 0]) ?_ 1 _ rfl; (with_reducible repeat (first | refine xA7 ?_ _ | refine xAc ?_ | refine xA6 ?_ _)); refine xA1 (cs := #[.string (⟨#[]⟩ : ByteArray), .string (⟨#[]⟩ : ByteArray), .int .i64 0, .int .i64 0, .slice none 0 0]) ?_ 0 _ rfl; (with_reducible repeat (first | refine xA7 ?_ _ | refine xAc ?_ | refine xA6 ?_ _)); refine xAh ?_ NB269_278.out _; (with_reducible repeat (first | refine xA7 ?_ _ | refine xAc ?_ | refine xA6 ?_ _)); refine xAh ?_ NB269_278.out _; (with_reducible repeat (first | refine xA7 ?_ _ | refine xAc ?_ | refine xA6 ?_ _)); refine xAh ?_ NB269_278.out _; (with_reducible repeat (first | refine xA7 ?_ _ | refine xAc ?_ | refine xA6 ?_ _)); refine xAh ?_ NB269_278.out _; (with_reducible repeat (first | refine xA7 ?_ _ | refine xAc ?_ | refine xA6 ?_ _)); exact BK269.out) Tryd.underlying25 rfl (by kernel_rfl)) rfl ?_
 exact ⟨_, by first | rfl | (simp <;> rfl) | (simp [*] <;> rfl), by first | exact Kd.R_nil _ _ _ _ _ | exact Kd.N_nil _ _ _ _ _ | exact Kd.V_nil _ _ _ _ _ | exact Kd.Q_nil _ _ _ _ _ | exact Kd.S_nil _ _ _ _ _, by repeat (first | (with_reducible first | exact HI0.out | apply xAe.alloc | apply xAe.drewN | apply xAe.drew | apply xAe.set_1 | apply xAe.set_2 | apply xAe.set_3 | apply xAe.set_4 | refine xAe.far ?_ NB0_269.out _ | refine xAe.far ?_ NB0_278.out _) | exact HI0.out), by repeat (first | (with_reducible first | exact HB.out | apply xA2 | apply xA0 | apply xA3 | refine xAa ?_ (xAe.ge HI0.out) | refine xAa ?_ GE269.out | refine xAa ?_ GE278.out) | exact HB.out), by repeat (first | (with_reducible first | exact HK.out | apply xAk.set_ | apply xB3 | apply xBb | apply xB6 | refine xCw ?_ GW269.out _ | refine xCw ?_ GW278.out _) | exact HK.out)⟩

end Go.Proofs.YtknbfhhmjbnemaaDoor.P
end
section
namespace Go.Proofs.YtknbfhhmjbnemaaDoor.P
open Go.RowKit Go.Proofs.YtknbfhhmjbnemaaDoorW.PrintWords Go.Proofs.YtknbfhhmjbnemaaDoorW.PrintLast Go.Proofs.YtknbfhhmjbnemaaDoorW.PrintMore
abbrev RSt := Int × Int × Int × Int
/-- A node out of what a printed function hands back. -/
def xFi (t : ByteArray × ByteArray × Int × Int × List S25 × Int × Int × Int × Int) : S25 := ⟨t.1, t.2.1, t.2.2.1, t.2.2.2.1, t.2.2.2.2.1⟩
mutual
def rexpr : Nat → List S60 → Int → Int → Int → Int → Int → Option (S25 × RSt)
 | 0, _, _, _, _, _, _ => none
 | k + 1, T, i, n, bad, at_, nest =>
  if nest < 0 ∨ nest > 100 then none
  else if nest > 12 then
   (xAn.f T i n bad at_ 112).bind fun (i, n, bad, at_) => (xAm.f k T i n bad at_).bind fun (_, i, n, bad, at_) => if bad = 0 then none else some (z25, i, n, bad, at_)
  else (xAm.f k T i n bad at_).bind fun (op, i, n, bad, at_) =>
   if bad = 0 then
    if op.toList = [] then
     (xAt.f k T i n bad at_).bind fun (_, s, _, p, i, n, bad, at_) => some (⟨(⟨#[117, 115, 101]⟩ : ByteArray), s, 0, p, []⟩, i, n, bad, at_)
    else
     (xAq.f T i n bad at_).bind fun (pl, i, n, bad, at_) =>
     if 0 ≤ i ∧ i ≤ 1000000 then
      (xA8.f T (i + 1) n bad at_ (⟨#[40]⟩ : ByteArray)).bind fun (i, n, bad, at_) =>
      (rexpr k T i n bad at_ (nest + 1)).bind fun (first, i, n, bad, at_) =>
      (if op.toList = ([108, 105, 110, 101, 97, 114] : List UInt8) then
       (xA8.f T i n bad at_ (⟨#[44]⟩ : ByteArray)).bind fun (i, n, bad, at_) =>
       (xB7.f T i n bad at_).bind fun a =>
       (xA8.f T a.2.2.2.2.2.1 a.2.2.2.2.2.2.1 a.2.2.2.2.2.2.2.1 a.2.2.2.2.2.2.2.2 (⟨#[44]⟩ : ByteArray)).bind fun (i, n, bad, at_) =>
       (xB7.f T i n bad at_).bind fun b => some ([first] ++ [xFi a, xFi b], b.2.2.2.2.2)
      else if op.toList = ([115, 110, 97, 112, 115, 104, 111, 116] : List UInt8) then
       (xA8.f T i n bad at_ (⟨#[44]⟩ : ByteArray)).bind fun (i, n, bad, at_) =>
       (rexpr k T i n bad at_ (nest + 1)).bind fun (a, i, n, bad, at_) =>
       (xA8.f T i n bad at_ (⟨#[44]⟩ : ByteArray)).bind fun (i, n, bad, at_) =>
       (xB7.f T i n bad at_).bind fun b => some ([first] ++ [a, xFi b], b.2.2.2.2.2)
      else if op.toList = ([99, 114, 121, 112, 116] : List UInt8) ∨ op.toList = ([105, 110, 116, 101, 103, 114, 105, 116, 121] : List UInt8) ∨ op.toList = ([118, 101, 114, 105, 116, 121] : List UInt8) then
       (xA8.f T i n bad at_ (⟨#[44]⟩ : ByteArray)).bind fun (i, n, bad, at_) =>
       (xBe.f k T i n bad at_).bind fun a => some ([first] ++ [xFi a], a.2.2.2.2.2)
      else
       (xAi.f T i n bad at_ (⟨#[44]⟩ : ByteArray)).bind fun (more, i, n, bad, at_) => rexprs k T i n bad at_ nest [first] more).bind fun (L, i, n, bad, at_) =>
      (xA8.f T i n bad at_ (⟨#[41]⟩ : ByteArray)).bind fun (i, n, bad, at_) => some (⟨op, ⟨#[]⟩, 0, pl, L⟩, i, n, bad, at_)
     else none
   else some (z25, i, n, bad, at_)
def rexprs : Nat → List S60 → Int → Int → Int → Int → Int → List S25 → Bool → Option (List S25 × RSt)
 | 0, _, _, _, _, _, _, _, _ => none
 | k + 1, T, i, n, bad, at_, nest, acc, more =>
  if more = true then
   if 0 ≤ i ∧ i ≤ 1000000 ∧ acc.length ≤ 1000000 then
    (rexpr k T (i + 1) n bad at_ (nest + 1)).bind fun (a, i, n, bad, at_) =>
    (xAi.f T i n bad at_ (⟨#[44]⟩ : ByteArray)).bind fun (more, i, n, bad, at_) => rexprs k T i n bad at_ nest (acc ++ [a]) more
   else none
  else some (acc, i, n, bad, at_)
end
/-- Where reader.expr stands, its node made. -/
structure ExS (w0 w W : World) (g : Nat) (T : List S60) (i n bad at_ : Int) (b4 bn : Nat) (op ss : ByteArray) (nn pl : Int) (Lv : Value) (L : List S25) : Prop where
 rs : RdS w0 w W g T i n bad at_
 r4 : W.heap[b4]? = some (.cells #[.string ⟨#[]⟩, .string ⟨#[]⟩, .int .i64 0, .int .i64 0, .slice none 0 0] 25 (0, 0))
 nb : W.heap[bn]? = some (.cells #[.string op, .string ss, .int .i64 nn, .int .i64 pl, Lv] 25 (0, 0))
 row : Kd.N k25 25 W w.heap.size (fun k => w.heap.size ≤ k ∧ k ≠ b4 ∧ k ≠ bn) Lv L
 g4 : w.heap.size ≤ b4
 gn : w.heap.size ≤ bn
 ne : b4 ≠ bn
 gg : g < w.heap.size
 ww : w0.heap.size ≤ w.heap.size
section
variable {w0 w W W1 : World} {g b4 bn : Nat} {T : List S60} {i n bad at_ i' n' bad' at_' nn pl : Int} {op ss : ByteArray} {Lv : Value} {L : List S25}
theorem RdS.grown {row : Option Nat} (h : RdS w0 w W g T i n bad at_) (hg : W.grownBy W1 row) (hgw : g < w.heap.size) (hw : w0.heap.size ≤ w.heap.size) (hr : ∀ k, row = some k → w.heap.size ≤ k) : RdS w0 w W1 g T i n bad at_ :=
 ⟨h.is.grown hg (fun e => by have := hr _ e.symm; omega), xDo h.bel row h.bel.size hg (fun k hk => Nat.le_trans hw (hr k hk)), h.kb.trans (xAk.of_grown hg g) (by
  cases row with
  | none => exact .inl rfl
  | some b => exact .inr ⟨b, rfl, hr b rfl⟩)⟩
theorem ExS.below (h : ExS w0 w W g T i n bad at_ b4 bn op ss nn pl Lv L) (hb : Below W.heap.size W W1) : ExS w0 w W1 g T i n bad at_ b4 bn op ss nn pl Lv L :=
 ⟨h.rs.below hb, xAx h.r4 hb, xAx h.nb hb, Kd.N_below h.row hb, h.g4, h.gn, h.ne, h.gg, h.ww⟩
theorem ExS.call (h : ExS w0 w W g T i n bad at_ b4 bn op ss nn pl Lv L) (h1 : xAe w0 W1 g T i' n' bad' at_') (h2 : Below w0.heap.size w0 W1) (h3 : xAk W W1 g none) : ExS w0 w W1 g T i' n' bad' at_' b4 bn op ss nn pl Lv L :=
 ⟨h.rs.call h1 h2 h3, h3.blk h.r4 (by have := h.g4; have := h.gg; omega) (by simp), h3.blk h.nb (by have := h.gn; have := h.gg; omega) (by simp), Kd.N_keep h.row h3 (fun k hk => by have := h.gg; omega), h.g4, h.gn, h.ne, h.gg, h.ww⟩
theorem ExS.setI (h : ExS w0 w W g T i n bad at_ b4 bn op ss nn pl Lv L) (x : Int) : ExS w0 w (W.setCell ⟨g, 1, none⟩ (.int .i64 x)) g T x n bad at_ b4 bn op ss nn pl Lv L :=
 h.call (h.rs.setI x).is (h.rs.setI x).bel ((xAk.refl W g none).set_ 1 _)
theorem ExS.lt (h : ExS w0 w W g T i n bad at_ b4 bn op ss nn pl Lv L) : b4 < W.heap.size ∧ bn < W.heap.size ∧ ∀ k, Lv.ownBlock = some k → k < W.heap.size ∧ w.heap.size ≤ k ∧ k ≠ b4 ∧ k ≠ bn := ⟨xBs h.r4, xBs h.nb, fun k hk => ⟨Kd.N_lt h.row k hk, h.row.1 k hk⟩⟩
/-- A field of the node's turned. -/
theorem ExS.set_ (h : ExS w0 w W g T i n bad at_ b4 bn op ss nn pl Lv L) (j : Nat) (u : Value) {op' ss' : ByteArray} {nn' pl' : Int} (hj : (#[.string op, .string ss, .int .i64 nn, .int .i64 pl, Lv] : Array Value).setIfInBounds j u = #[.string op', .string ss', .int .i64 nn', .int .i64 pl', Lv]) : ExS w0 w (W.setCell ⟨bn, j, none⟩ u) g T i n bad at_ b4 bn op' ss' nn' pl' Lv L :=
 ⟨h.rs.far (by have := h.gg; have := h.gn; omega) h.gn (Nat.le_trans h.ww h.gn) _, xAh (p := ⟨bn, j, none⟩) h.r4 h.ne _, xA1 h.nb j u hj, Kd.N_far (p := ⟨bn, j, none⟩) h.row (fun k hk => hk.2.2) _, h.g4, h.gn, h.ne, h.gg, h.ww⟩
/-- A row of its own was made for the node. -/
theorem ExS.setL {Lv1 : Value} {ys : List S25} (h : ExS w0 w W g T i n bad at_ b4 bn op ss nn pl Lv L) (hr : Kd.N k25 25 W w.heap.size (fun k => w.heap.size ≤ k ∧ k ≠ b4 ∧ k ≠ bn) Lv1 ys) : ExS w0 w (W.setCell ⟨bn, 4, none⟩ Lv1) g T i n bad at_ b4 bn op ss nn pl Lv1 ys :=
 ⟨h.rs.far (by have := h.gg; have := h.gn; omega) h.gn (Nat.le_trans h.ww h.gn) _, xAh (p := ⟨bn, 4, none⟩) h.r4 h.ne _, xA1 h.nb 4 _ rfl, Kd.N_far (p := ⟨bn, 4, none⟩) hr (fun k hk => hk.2.2) _, h.g4, h.gn, h.ne, h.gg, h.ww⟩
/-- Elements were appended to the node's row, and the node has the row again. -/
theorem ExS.append {Lv1 : Value} {ys : List S25} (h : ExS w0 w W g T i n bad at_ b4 bn op ss nn pl Lv L) (hr : Kd.N k25 25 W1 w.heap.size (fun k => w.heap.size ≤ k ∧ k ≠ b4 ∧ k ≠ bn) Lv1 (L ++ ys)) (hg : W.grownBy W1 Lv.ownBlock) : ExS w0 w (W1.setCell ⟨bn, 4, none⟩ Lv1) g T i n bad at_ b4 bn op ss nn pl Lv1 (L ++ ys) := by
 have hl := h.lt.2.2
 have h1 := h.rs.grown hg h.gg h.ww (fun k hk => (hl k hk).2.1)
 refine ⟨h1.far (by have := h.gg; have := h.gn; omega) h.gn (Nat.le_trans h.ww h.gn) _, ?_, ?_, ?_, h.g4, h.gn, h.ne, h.gg, h.ww⟩
 ·exact xAh (p := ⟨bn, 4, none⟩) (xBk h.r4 hg (fun e => (hl _ e.symm).2.2.1 rfl)) h.ne _
 ·exact xA1 (xBk h.nb hg (fun e => (hl _ e.symm).2.2.2 rfl)) 4 _ rfl
 ·exact Kd.N_far (p := ⟨bn, 4, none⟩) hr (fun k hk => hk.2.2) _
end
theorem xDs {W : World} {base : Nat} {ok : Nat → Prop} {x : S25} {A : Option Addr} {c : Nat} (h : Kd.N k25 25 W base ok (.slice A x.f4.length c) x.f4) : Kd.FK k25 W ok x [.string x.f0, .string x.f1, .int .i64 x.f2, .int .i64 x.f3, .slice A x.f4.length c] := k25_mkF W ok x (Kd.N_reads' h).2.1 (Kd.N_F h)
theorem xE2 {W : World} {base : Nat} {v : Value} {xs : List S25} (h : Kd.R k25 25 W base (fun _ => True) v xs) : Kd.N k25 25 W base (fun k => base ≤ k) v xs := Kd.R_N (Kd.R_mono (Kd.R_bound h) (fun k hk => hk.2.1))
def xGf (k : Nat) : Prop := ∀ (g : Nat) (T : List S60) (i n bad at_ nest : Int) (r : S25) (s : RSt) (w0 w : World), xAe w0 w g T i n bad at_ → Below w0.heap.size w0 w → rexpr k T i n bad at_ nest = some (r, s) →
 Calls Tryd.prog 47 #[.pointer (some ⟨g, 0, none⟩), .int .i64 nest] w fun e w' => ∃ v, e = .returned (.agg #[.string r.f0, .string r.f1, .int .i64 r.f2, .int .i64 r.f3, v]) ∧ Kd.N k25 25 w' w.heap.size (fun k => w.heap.size ≤ k) v r.f4 ∧ xAe w0 w' g T s.1 s.2.1 s.2.2.1 s.2.2.2 ∧ Below w0.heap.size w0 w' ∧ xAk w w' g none
theorem xGf.use {k : Nat} (h : xGf k) (g : Nat) (T : List S60) (i n bad at_ nest : Int) (r : S25) (i' n' bad' at_' : Int) (w0 w : World) (hI : xAe w0 w g T i n bad at_) (hB : Below w0.heap.size w0 w) (hr : rexpr k T i n bad at_ nest = some (r, i', n', bad', at_')) :
 Calls Tryd.prog 47 #[.pointer (some ⟨g, 0, none⟩), .int .i64 nest] w fun e w' => ∃ v, e = .returned (.agg #[.string r.f0, .string r.f1, .int .i64 r.f2, .int .i64 r.f3, v]) ∧ Kd.N k25 25 w' w.heap.size (fun k => w.heap.size ≤ k) v r.f4 ∧ xAe w0 w' g T i' n' bad' at_' ∧ Below w0.heap.size w0 w' ∧ xAk w w' g none := h g T i n bad at_ nest r (i', n', bad', at_') w0 w hI hB hr
set_option maxHeartbeats 16000000 in
set_option maxRecDepth 100000 in
theorem xKr (k : Nat) (ih : ∀ k', k' ≤ k → xGf k') : xGf (k + 1) := by
  intro g T i n bad at_ nest r s w0 w hI hB h
  have hu25 := Tryd.underlying25
  have RS := Aside0.mk (RdS.mk hI hB (xAk.refl w g none))
  have GW := Aside0.mk hI.lt
  have WW := Aside0.mk hB.size
  have IH := Aside0.mk ih
  rw [rexpr] at h
  clear hI hB ih
  have RS0 := Aside0.mk (RS.out.alloc (.cells #[.string ⟨#[]⟩, .string ⟨#[]⟩, .int .i64 0, .int .i64 0, .slice none 0 0] 25))
  have HR4 := Aside0.mk (xBj w (.cells #[.string ⟨#[]⟩, .string ⟨#[]⟩, .int .i64 0, .int .i64 0, .slice none 0 0] 25))
  by_cases hn0 : nest < 0 ∨ nest > 100
  · rw [if_pos hn0] at h
    cases h
  rw [if_neg hn0] at h
  by_cases hn : nest > 12
  · rw [if_pos hn] at h
    have dn : decide (nest > 12) = true := decide_eq_true hn
    have dn' : decide (12 < nest) = true := decide_eq_true hn
    obtain ⟨⟨i0, n0, b0, a0⟩, hfa, h⟩ := Option.bind_eq_some_iff.mp h
    dsimp only at h
    obtain ⟨⟨op, i1, n1, b1, a1⟩, hop, h⟩ := Option.bind_eq_some_iff.mp h
    dsimp only at h
    have HFA := Aside0.mk hfa
    have HOP := Aside0.mk hop
    clear hfa hop
    by_cases hb : b1 = 0
    · rw [if_pos hb] at h
      cases h
    rw [if_neg hb] at h
    simp only [Option.some.injEq, Prod.mk.injEq] at h
    obtain ⟨rfl, rfl⟩ := h
    have db : (b1 != 0) = true := by simpa using hb
    clear hb hn
    go_enter Tryd.func47, Tryd.ntmps47
    go_upto_region 4 with (first | (go_at_call 43; (with_reducible refine (xAn.calls g _ _ _ _ _ 112 _ _ _ _ w0 _ RS0.out.is RS0.out.bel HFA.out).mono ?_); rintro e w3 ⟨rfl, hi1, hb1, hk1⟩; have RSf := Aside0.mk (RS0.out.call hi1 hb1 hk1); have HRf := Aside0.mk (hk1.blk HR4.out (by have := GW.out; omega) (by simp)); clear hi1 hb1 hk1) | (go_at_call 76; (with_reducible refine (xAm.calls k g _ _ _ _ _ _ _ _ _ _ w0 _ RSf.out.is RSf.out.bel HOP.out).mono ?_); rintro e w1 ⟨rfl, hi1, hb1, hk1⟩; have RS1 := Aside0.mk (RSf.out.call hi1 hb1 hk1); have HR1 := Aside0.mk (hk1.blk HRf.out (by have := GW.out; omega) (by simp)); clear hi1 hb1 hk1))
    obtain ⟨A0, c0, hblk, hge, hC⟩ := RS1.out.is
    have x3 := xCf hblk
    clear hblk hge hC
    obtain ⟨hr0, hr1, hr2, hr3, hr4, hf0, hf1, hf2, hf3, hf4⟩ := ex5 HR1.out
    go_wp2
    have RSz := ((((((((((RS1.out).far (b := w.heap.size) (j := 0) (by have := GW.out; omega) (Nat.le_refl _) WW.out (.string ⟨#[]⟩))).far (b := w.heap.size) (j := 1) (by have := GW.out; omega) (Nat.le_refl _) WW.out (.string ⟨#[]⟩))).far (b := w.heap.size) (j := 2) (by have := GW.out; omega) (Nat.le_refl _) WW.out (.int .i64 0))).far (b := w.heap.size) (j := 3) (by have := GW.out; omega) (Nat.le_refl _) WW.out (.int .i64 0))).far (b := w.heap.size) (j := 4) (by have := GW.out; omega) (Nat.le_refl _) WW.out (.slice none 0 0))
    refine bodyPost_ret (results_cell_row rfl _ _ w.heap.size 25 #[.string ⟨#[]⟩, .string ⟨#[]⟩, .int .i64 0, .int .i64 0, .slice none 0 0] (0, 0) _ rfl (xA1 ((xA1 ((xA1 ((xA1 ((xA1 (HR1.out) 0 (.string ⟨#[]⟩) rfl)) 1 (.string ⟨#[]⟩) rfl)) 2 (.int .i64 0) rfl)) 3 (.int .i64 0) rfl)) 4 (.slice none 0 0) rfl) Tryd.underlying25 rfl (by kernel_rfl)) rfl ?_
    exact ⟨_, rfl, Kd.N_nil _ _ _ _ _, RSz.is, RSz.bel, RSz.kb⟩
  · rw [if_neg hn] at h
    have dn : decide (nest > 12) = false := decide_eq_false hn
    have dn' : decide (12 < nest) = false := decide_eq_false hn
    obtain ⟨⟨op, i1, n1, b1, a1⟩, hop, h⟩ := Option.bind_eq_some_iff.mp h
    dsimp only at h
    have HOP := Aside0.mk hop
    clear hop
    have HH := Aside0.mk h
    clear h
    go_enter Tryd.func47, Tryd.ntmps47
    go_upto_region 4 with (go_at_call 76; (with_reducible refine (xAm.calls k g _ _ _ _ _ _ _ _ _ _ w0 _ RS0.out.is RS0.out.bel HOP.out).mono ?_); rintro e w1 ⟨rfl, hi1, hb1, hk1⟩; have RS1 := Aside0.mk (RS0.out.call hi1 hb1 hk1); have HR1 := Aside0.mk (hk1.blk HR4.out (by have := GW.out; omega) (by simp)); clear hi1 hb1 hk1)
    obtain ⟨A0, c0, hblk, hge, hC⟩ := RS1.out.is
    have x3 := xCf hblk
    clear hblk hge hC
    have h := HH.out
    clear HH
    by_cases hb : b1 = 0
    · subst hb
      rw [if_pos rfl] at h
      by_cases ho : op.toList = []
      · rw [if_pos ho] at h
        have do1 : (op.toList == []) = true := by simpa using ho
        have do2 : (!op.toList.isEmpty) = false := by simpa using ho
        have do3 : op.toList.isEmpty = true := by simpa using ho
        obtain ⟨⟨t1, ts, t3, tp, i2, n2, b2, a2⟩, hna, h⟩ := Option.bind_eq_some_iff.mp h
        dsimp only at h
        simp only [Option.some.injEq, Prod.mk.injEq] at h
        obtain ⟨rfl, rfl⟩ := h
        have HNA := Aside0.mk hna
        clear hna
        go_upto_region 8 with (first | (go_at_call 44; (with_reducible refine (xAt.calls k g _ _ _ _ _ _ _ _ _ _ _ _ _ w0 _ RS1.out.is RS1.out.bel HNA.out).mono ?_); rintro e w2 ⟨rfl, hi1, hb1, hk1⟩; have RS2 := Aside0.mk (RS1.out.call hi1 hb1 hk1); have HR2 := Aside0.mk (hk1.blk HR1.out (by have := GW.out; omega) (by simp)); clear hi1 hb1 hk1) | ((with_reducible refine xB0 (N := 6) rfl ?_); refine xB9 ?hg (N := 6) ?hd (cs := #[.int .i64 0, .string (⟨#[]⟩ : ByteArray), .int .i64 0, .int .i64 0]) (t := 60) ?hr ?_; (case hd => rfl); (case hg => rfl); (case hr => first | (go_simp; done) | (go_simp; rfl)); intro gb hg w3 hbox hb; have BX := Aside0.mk hb; have NB := Aside0.mk hbox; have HG := Aside0.mk hg; obtain ⟨c0, c1, c2, c3, f0, f1, f2, f3⟩ := ex4 hbox; clear hb hbox hg))
        generalize hW : World.setCell (World.setCell (World.setCell (World.setCell w3 _ _) _ _) _ _) _ _ = W3
        have hge : w2.heap.size ≤ gb := Nat.le_of_eq HG.out.symm
        have hb6 : Below w2.heap.size w2 W3 := by
          have hb := ((((BX.out.setCell (p := ⟨gb, 0, none⟩) hge (.int .i64 t1)).setCell (p := ⟨gb, 1, none⟩) hge (.string ts)).setCell (p := ⟨gb, 2, none⟩) hge (.int .i64 t3)).setCell (p := ⟨gb, 3, none⟩) hge (.int .i64 tp))
          rw [hW] at hb
          exact hb
        have hx : W3.heap[gb]? = some (.cells #[.int .i64 t1, .string ts, .int .i64 t3, .int .i64 tp] 60 (0, 0)) := by rw [← hW]; exact (xA1 (xA1 (xA1 (xA1 NB.out 0 (.int .i64 t1) rfl) 1 (.string ts) rfl) 2 (.int .i64 t3) rfl) 3 (.int .i64 tp) rfl)
        have RS3 := Aside0.mk (RS2.out.below hb6)
        have HR3 := Aside0.mk (xAx HR2.out hb6)
        clear hW BX NB HG c0 c1 c2 c3 f0 f1 f2 f3 hb6 hge x3
        have y1 := (xA4 hx 1).trans rfl
        have y3 := (xA4 hx 3).trans rfl
        clear hx
        obtain ⟨hr0, hr1, hr2, hr3, hr4, hf0, hf1, hf2, hf3, hf4⟩ := ex5 HR3.out
        go_wp2
        have RSz := ((((((((((RS3.out).far (b := w.heap.size) (j := 0) (by have := GW.out; omega) (Nat.le_refl _) WW.out (.string ⟨#[117, 115, 101]⟩))).far (b := w.heap.size) (j := 1) (by have := GW.out; omega) (Nat.le_refl _) WW.out (.string ts))).far (b := w.heap.size) (j := 2) (by have := GW.out; omega) (Nat.le_refl _) WW.out (.int .i64 0))).far (b := w.heap.size) (j := 3) (by have := GW.out; omega) (Nat.le_refl _) WW.out (.int .i64 tp))).far (b := w.heap.size) (j := 4) (by have := GW.out; omega) (Nat.le_refl _) WW.out (.slice none 0 0))
        refine bodyPost_ret (results_cell_row rfl _ _ w.heap.size 25 #[.string ⟨#[117, 115, 101]⟩, .string ts, .int .i64 0, .int .i64 tp, .slice none 0 0] (0, 0) _ rfl (xA1 ((xA1 ((xA1 ((xA1 ((xA1 (HR3.out) 0 (.string ⟨#[117, 115, 101]⟩) rfl)) 1 (.string ts) rfl)) 2 (.int .i64 0) rfl)) 3 (.int .i64 tp) rfl)) 4 (.slice none 0 0) rfl) Tryd.underlying25 rfl (by kernel_rfl)) rfl ?_
        exact ⟨_, rfl, Kd.N_nil _ _ _ _ _, RSz.is, RSz.bel, RSz.kb⟩
      · rw [if_neg ho] at h
        have do1 : (op.toList == []) = false := by simpa using ho
        have do2 : (!op.toList.isEmpty) = true := by simpa using ho
        obtain ⟨⟨pl, i2, n2, b2, a2⟩, hpl, h⟩ := Option.bind_eq_some_iff.mp h
        dsimp only at h
        by_cases hi : 0 ≤ i2 ∧ i2 ≤ 1000000
        · rw [if_pos hi] at h
          obtain ⟨⟨i3, n3, b3, a3⟩, hm, h⟩ := Option.bind_eq_some_iff.mp h
          dsimp only at h
          obtain ⟨⟨first, i4, n4, b4, a4⟩, hfi, h⟩ := Option.bind_eq_some_iff.mp h
          dsimp only at h
          obtain ⟨⟨L, i5, n5, b5, a5⟩, htl, h⟩ := Option.bind_eq_some_iff.mp h
          dsimp only at h
          obtain ⟨⟨i6, n6, b6, a6⟩, hrp, h⟩ := Option.bind_eq_some_iff.mp h
          simp only [Option.some.injEq, Prod.mk.injEq] at h
          obtain ⟨rfl, rfl⟩ := h
          have HPL := Aside0.mk hpl
          have HM := Aside0.mk hm
          have HFI := Aside0.mk hfi
          have HTL := Aside0.mk htl
          have HRP := Aside0.mk hrp
          clear hpl hm hfi htl hrp
          go_upto_region 10 with (first | (go_at_call 41; (with_reducible refine (xAq.calls g _ _ _ _ _ _ _ _ _ _ w0 _ RS1.out.is RS1.out.bel HPL.out).mono ?_); rintro e w2 ⟨rfl, hi1, hb1, hk1⟩; have RS2 := Aside0.mk (RS1.out.call hi1 hb1 hk1); have HR2 := Aside0.mk (hk1.blk HR1.out (by have := GW.out; omega) (by simp)); clear hi1 hb1 hk1) | ((with_reducible refine xB0 (N := 7) rfl ?_); refine xB9 ?hg (N := 7) ?hd (cs := #[.string (⟨#[]⟩ : ByteArray), .string (⟨#[]⟩ : ByteArray), .int .i64 0, .int .i64 0, .slice none 0 0]) (t := 25) ?hr ?_; (case hd => rfl); (case hg => rfl); (case hr => first | (go_simp; done) | (go_simp; rfl)); intro bn hg w3 hbox hb; have BX := Aside0.mk hb; have NB := Aside0.mk hbox; have HG := Aside0.mk hg; obtain ⟨c0, c1, c2, c3, c4, f0, f1, f2, f3, f4⟩ := ex5 hbox; clear hb hbox hg))
          generalize hW : World.setCell (World.setCell (World.setCell (World.setCell (World.setCell w3 _ _) _ _) _ _) _ _) _ _ = W3
          have ES := Aside0.mk (show ExS w0 w W3 g T i2 n2 b2 a2 w.heap.size bn op ⟨#[]⟩ 0 pl (.slice none 0 0) [] from by
            have hlt := xBs HR2.out
            have hge : w2.heap.size ≤ bn := Nat.le_of_eq HG.out.symm
            have hb := ((((BX.out.setCell (p := ⟨bn, 0, none⟩) hge (.string op)).setCell (p := ⟨bn, 1, none⟩) hge (.string ⟨#[]⟩)).setCell (p := ⟨bn, 2, none⟩) hge (.int .i64 0)).setCell (p := ⟨bn, 3, none⟩) hge (.int .i64 pl)).setCell (p := ⟨bn, 4, none⟩) hge (.slice none 0 0)
            rw [hW] at hb
            refine ⟨RS2.out.below hb, xAx HR2.out hb, ?_, Kd.N_nil _ _ _ _ _, Nat.le_refl _, by omega, by omega, GW.out, WW.out⟩
            rw [← hW]
            exact xA1 (xA1 (xA1 (xA1 (xA1 NB.out 0 _ rfl) 1 _ rfl) 2 _ rfl) 3 _ rfl) 4 _ rfl)
          clear hW BX NB HG RS2 HR2 c0 c1 c2 c3 c4 f0 f1 f2 f3 f4 RS1 HR1
          obtain ⟨hi0, hi9⟩ := hi
          have hn1 : 0 ≤ nest := by omega
          have hn2 : nest ≤ 100 := by omega
          clear hn0 hn
          have ES0 := ES
          obtain ⟨A1, c1, hblk, hge, hC⟩ := ES0.out.rs.is
          have x1 := xBz hblk
          have z1 := xA5 hblk 1
          clear hblk hge hC
          go_upto_region 11 with (fail)
          generalize hW : World.setCell W3 _ _ = W3b
          have ES1 := Aside0.mk (show ExS w0 w W3b g T (i2 + 1) n2 b2 a2 w.heap.size bn op ⟨#[]⟩ 0 pl (.slice none 0 0) [] from by rw [← hW]; exact ES0.out.setI _)
          clear hW x1 z1 ES0 ES
          have SZ1 := Aside0.mk (Nat.le_refl W3b.heap.size)
          have LT1 := Aside0.mk ES1.out.lt
          go_upto_region 12 with (go_at_call 46; (with_reducible refine (xA8.calls g _ _ _ _ _ _ _ _ _ _ w0 _ ES1.out.rs.is ES1.out.rs.bel HM.out).mono ?_); rintro e w_2 ⟨rfl, hi1, hb1, hk1⟩; have ES2 := Aside0.mk (ES1.out.call hi1 hb1 hk1); have SZ2 := Aside0.mk (Nat.le_trans SZ1.out hk1.1); clear hi1 hb1 hk1)
          go_upto_region 13 with (first | (go_at_call 47; (with_reducible refine ((IH.out k (Nat.le_refl k)).use g _ _ _ _ _ _ _ _ _ _ _ w0 _ ES2.out.rs.is ES2.out.rs.bel HFI.out).mono ?_); rintro e w_3 ⟨v_3, rfl, hr1, hi1, hb1, hk1⟩; obtain ⟨A_3, c_3, rfl⟩ := Kd.N_slice hr1; have HV3 := Aside0.mk (Kd.N_mono (hr1) (fun k hk => Nat.le_trans SZ2.out hk)); have ES3 := Aside0.mk (ES2.out.call hi1 hb1 hk1); have SZ3 := Aside0.mk (Nat.le_trans SZ2.out hk1.1); clear hr1 hi1 hb1 hk1) | ((with_reducible refine xB0 (N := 8) rfl ?_); refine xB9 ?hg (N := 8) ?hd (cs := #[.string (⟨#[]⟩ : ByteArray), .string (⟨#[]⟩ : ByteArray), .int .i64 0, .int .i64 0, .slice none 0 0]) (t := 25) ?hr ?_; (case hd => rfl); (case hg => rfl); (case hr => first | (go_simp; done) | (go_simp; rfl)); intro gb_3 hg wb_3 hbox hb; have BX := Aside0.mk hb; have NB := Aside0.mk hbox; have HG := Aside0.mk hg; obtain ⟨c0, c1, c2, c3, c4, f0, f1, f2, f3, f4⟩ := ex5 hbox; clear hb hbox hg))
          generalize hW : World.setCell (World.setCell (World.setCell (World.setCell (World.setCell wb_3 _ _) _ _) _ _) _ _) _ _ = W_3
          have hge : w_3.heap.size ≤ gb_3 := Nat.le_of_eq HG.out.symm
          have hb6 : Below w_3.heap.size w_3 W_3 := by
            have hb := (((((BX.out.setCell (p := ⟨gb_3, 0, none⟩) hge (.string first.f0)).setCell (p := ⟨gb_3, 1, none⟩) hge (.string first.f1)).setCell (p := ⟨gb_3, 2, none⟩) hge (.int .i64 first.f2)).setCell (p := ⟨gb_3, 3, none⟩) hge (.int .i64 first.f3)).setCell (p := ⟨gb_3, 4, none⟩) hge (.slice A_3 first.f4.length c_3))
            rw [hW] at hb
            exact hb
          have HXn3 := Aside0.mk (show W_3.heap[gb_3]? = some (.cells #[.string first.f0, .string first.f1, .int .i64 first.f2, .int .i64 first.f3, .slice A_3 first.f4.length c_3] 25 (0, 0)) by rw [← hW]; exact (xA1 (xA1 (xA1 (xA1 (xA1 NB.out 0 (.string first.f0) rfl) 1 (.string first.f1) rfl) 2 (.int .i64 first.f2) rfl) 3 (.int .i64 first.f3) rfl) 4 (.slice A_3 first.f4.length c_3) rfl))
          have ESn3 := Aside0.mk (ES3.out.below hb6)
          have HVn3 := Aside0.mk (Kd.N_below HV3.out hb6)
          have GEn3 := Aside0.mk (show w.heap.size ≤ gb_3 from Nat.le_trans ES3.out.rs.kb.1 hge)
          have SZn3 := Aside0.mk (Nat.le_trans SZ3.out hb6.size)
          clear hW BX NB HG c0 c1 c2 c3 c4 f0 f1 f2 f3 f4 hb6 hge
          obtain ⟨hy0_0, hy0_1, hy0_2, hy0_3, hy0_4⟩ := ey5 HXn3.out
          have hn4 := (xA4 ESn3.out.nb 4).trans rfl
          go_upto_region 14 with (first | ((with_reducible refine xB0 (N := 57) rfl ?_); refine Kd.N_lit k25 (w0 := W_3) W_3.heap.size 25 rfl (N' := 57) rfl (xs := [first]) (inner := [.string first.f0, .string first.f1, .int .i64 first.f2, .int .i64 first.f3, .slice A_3 first.f4.length c_3]) (ok := (fun k => W3b.heap.size ≤ k)) (okp := (fun k => W3b.heap.size ≤ k)) ?hr ((Reps.none _ _).snoc (xDs HVn3.out) rfl) (fun _ hk => hk) ?hf (Below.refl _ _) (Nat.le_refl _) (by show 1 ≤ 9223372036854775807; decide) ?_; (case hr => first | (go_simp; done) | (go_simp; rfl)); (case hf => exact SZn3.out); intro v7 w7_4 hN7 hb7 hg7 hat7; obtain ⟨A7_4, c7_4, rfl⟩ := Kd.N_slice hN7; have ESp4 := Aside0.mk (ESn3.out.below hb7); have HN7 := Aside0.mk hN7; clear hN7 hb7 hg7 hat7) | ((with_reducible refine xCh (b := .append) (xs := #[.tmp 55, .tmp 57]) rfl ?_); (try (refine xCi (by rfl) ?_; dsimp only)); at_builtin; refine Kd.N_append_rows k25 (w0 := w7_4) w.heap.size rfl (.tmp 55) (.tmp 57) 23 25 (.agg #[(.string ⟨#[]⟩), (.string ⟨#[]⟩), (.int .i64 0), (.int .i64 0), (.slice none 0 0)]) 72 rfl Tryd.underlying23 xDh rfl (by decide) (by decide) (.slice none 0 0) (([] : List S25)) [first] A7_4 1 c7_4 (fun k => w.heap.size ≤ k ∧ k ≠ w.heap.size ∧ k ≠ bn) (fun k => W3b.heap.size ≤ k) rfl rfl ESp4.out.row (Kd.N_F HN7.out) ?hokp ?hfresh (Below.refl _ _) ?hbase (by first | omega | (simp; done) | (simp; omega)) ?_; (case hokp => intro k hk; have h1 := LT1.out.1; have h2 := LT1.out.2.1; have h3 := ES1.out.rs.kb.1; exact ⟨⟨by omega, by omega, by omega⟩, fun e => by have := (LT1.out.2.2 k e.symm).1; omega⟩); (case hfresh => intro k hk; have h1 := ESp4.out.lt.1; have h2 := ESp4.out.lt.2.1; have h3 := ESp4.out.rs.kb.1; exact ⟨by omega, by omega, by omega⟩); (case hbase => exact ESp4.out.rs.kb.1); intro v8 w8_4 hN8 hb8 hg8 hat8; obtain ⟨A8_4, c8_4, hv8⟩ := Kd.N_slice hN8; rw [show (([] : List S25) ++ [first]).length = 1 by simp] at hv8; subst hv8; have ESa4 := Aside0.mk (ESp4.out.append hN8 hg8); have hn4b := (xA4 (xBk ESp4.out.nb hg8 (fun e => (ESp4.out.lt.2.2 _ e.symm).2.2.2 rfl)) 4).trans rfl; have hf4b := xA5 (xBk ESp4.out.nb hg8 (fun e => (ESp4.out.lt.2.2 _ e.symm).2.2.2 rfl)) 4; clear hN8 hb8 hg8 hat8))
          generalize hW9 : World.setCell w8_4 _ _ = W9_4
          have ESb4 := Aside0.mk (show ExS w0 w W9_4 g T _ _ _ _ w.heap.size bn op ⟨#[]⟩ 0 pl (.slice A8_4 1 c8_4) (([] : List S25) ++ [first]) from by rw [← hW9]; exact ESa4.out)
          clear hW9 ESa4
          clear hy0_0 hy0_1 hy0_2 hy0_3 hy0_4 hn4 hn4b hf4b HN7
          have htl := HTL.out
          clear HTL
          by_cases hq0 : op.toList = ([108, 105, 110, 101, 97, 114] : List UInt8)
          · skip
            rw [if_pos hq0] at htl
            have e0 : (op.toList == ([108, 105, 110, 101, 97, 114] : List UInt8)) = true := by rw [hq0]; rfl
            obtain ⟨⟨p1, p2, p3, p4⟩, hHT1, htl⟩ := Option.bind_eq_some_iff.mp htl
            try dsimp only at htl
            have HT1 := Aside0.mk hHT1
            clear hHT1
            obtain ⟨⟨xf0, xf1, xf2, xf3, xf4, xi, xn, xb, xa⟩, hHT2, htl⟩ := Option.bind_eq_some_iff.mp htl
            try dsimp only at htl
            have HT2 := Aside0.mk hHT2
            clear hHT2
            obtain ⟨⟨q1, q2, q3, q4⟩, hHT3, htl⟩ := Option.bind_eq_some_iff.mp htl
            try dsimp only at htl
            have HT3 := Aside0.mk hHT3
            clear hHT3
            obtain ⟨⟨yf0, yf1, yf2, yf3, yf4, yi, yn, yb, ya⟩, hHT4, htl⟩ := Option.bind_eq_some_iff.mp htl
            try dsimp only at htl
            have HT4 := Aside0.mk hHT4
            clear hHT4
            simp only [Option.some.injEq, Prod.mk.injEq, xFi] at htl
            obtain ⟨rfl, rfl, rfl, rfl, rfl⟩ := htl
            have SZ5 := Aside0.mk (Nat.le_refl W9_4.heap.size)
            have LT5 := Aside0.mk ESb4.out.lt
            go_upto_region 23 with (go_at_call 46; (with_reducible refine (xA8.calls g _ _ _ _ _ _ _ _ _ _ w0 _ ESb4.out.rs.is ESb4.out.rs.bel HT1.out).mono ?_); rintro e w_6 ⟨rfl, hi1, hb1, hk1⟩; have ES6 := Aside0.mk (ESb4.out.call hi1 hb1 hk1); have SZ6 := Aside0.mk (Nat.le_trans SZ5.out hk1.1); clear hi1 hb1 hk1)
            go_upto_region 24 with (first | (go_at_call 77; (with_reducible refine (xB7.calls g _ _ _ _ _ _ _ _ _ _ _ _ _ _ w0 _ ES6.out.rs.is ES6.out.rs.bel HT2.out).mono ?_); rintro e w_7 ⟨v_7, rfl, hr1, hi1, hb1, hk1⟩; obtain ⟨A_7, c_7, rfl⟩ := Kd.R_slice hr1; have HV7 := Aside0.mk (Kd.N_mono (xE2 hr1) (fun k hk => Nat.le_trans SZ6.out hk)); have ES7 := Aside0.mk (ES6.out.call hi1 hb1 hk1); have SZ7 := Aside0.mk (Nat.le_trans SZ6.out hk1.1); clear hr1 hi1 hb1 hk1) | ((with_reducible refine xB0 (N := 9) rfl ?_); refine xB9 ?hg (N := 9) ?hd (cs := #[.string (⟨#[]⟩ : ByteArray), .string (⟨#[]⟩ : ByteArray), .int .i64 0, .int .i64 0, .slice none 0 0]) (t := 25) ?hr ?_; (case hd => rfl); (case hg => rfl); (case hr => first | (go_simp; done) | (go_simp; rfl)); intro gb_7 hg wb_7 hbox hb; have BX := Aside0.mk hb; have NB := Aside0.mk hbox; have HG := Aside0.mk hg; obtain ⟨c0, c1, c2, c3, c4, f0, f1, f2, f3, f4⟩ := ex5 hbox; clear hb hbox hg))
            generalize hW : World.setCell (World.setCell (World.setCell (World.setCell (World.setCell wb_7 _ _) _ _) _ _) _ _) _ _ = W_7
            have hge : w_7.heap.size ≤ gb_7 := Nat.le_of_eq HG.out.symm
            have hb6 : Below w_7.heap.size w_7 W_7 := by
              have hb := (((((BX.out.setCell (p := ⟨gb_7, 0, none⟩) hge (.string (S25.mk xf0 xf1 xf2 xf3 xf4).f0)).setCell (p := ⟨gb_7, 1, none⟩) hge (.string (S25.mk xf0 xf1 xf2 xf3 xf4).f1)).setCell (p := ⟨gb_7, 2, none⟩) hge (.int .i64 (S25.mk xf0 xf1 xf2 xf3 xf4).f2)).setCell (p := ⟨gb_7, 3, none⟩) hge (.int .i64 (S25.mk xf0 xf1 xf2 xf3 xf4).f3)).setCell (p := ⟨gb_7, 4, none⟩) hge (.slice A_7 (S25.mk xf0 xf1 xf2 xf3 xf4).f4.length c_7))
              rw [hW] at hb
              exact hb
            have HXn7 := Aside0.mk (show W_7.heap[gb_7]? = some (.cells #[.string (S25.mk xf0 xf1 xf2 xf3 xf4).f0, .string (S25.mk xf0 xf1 xf2 xf3 xf4).f1, .int .i64 (S25.mk xf0 xf1 xf2 xf3 xf4).f2, .int .i64 (S25.mk xf0 xf1 xf2 xf3 xf4).f3, .slice A_7 (S25.mk xf0 xf1 xf2 xf3 xf4).f4.length c_7] 25 (0, 0)) by rw [← hW]; exact (xA1 (xA1 (xA1 (xA1 (xA1 NB.out 0 (.string (S25.mk xf0 xf1 xf2 xf3 xf4).f0) rfl) 1 (.string (S25.mk xf0 xf1 xf2 xf3 xf4).f1) rfl) 2 (.int .i64 (S25.mk xf0 xf1 xf2 xf3 xf4).f2) rfl) 3 (.int .i64 (S25.mk xf0 xf1 xf2 xf3 xf4).f3) rfl) 4 (.slice A_7 (S25.mk xf0 xf1 xf2 xf3 xf4).f4.length c_7) rfl))
            have ESn7 := Aside0.mk (ES7.out.below hb6)
            have HVn7 := Aside0.mk (Kd.N_below HV7.out hb6)
            have GEn7 := Aside0.mk (show w.heap.size ≤ gb_7 from Nat.le_trans ES7.out.rs.kb.1 hge)
            have SZn7 := Aside0.mk (Nat.le_trans SZ7.out hb6.size)
            clear hW BX NB HG c0 c1 c2 c3 c4 f0 f1 f2 f3 f4 hb6 hge
            go_upto_region 25 with (go_at_call 46; (with_reducible refine (xA8.calls g _ _ _ _ _ _ _ _ _ _ w0 _ ESn7.out.rs.is ESn7.out.rs.bel HT3.out).mono ?_); rintro e w_8 ⟨rfl, hi1, hb1, hk1⟩; have ES8 := Aside0.mk (ESn7.out.call hi1 hb1 hk1); have SZ8 := Aside0.mk (Nat.le_trans SZn7.out hk1.1); have HX8_0 := Aside0.mk (hk1.blk HXn7.out (by have := GW.out; have := GEn7.out; omega) (by simp)); have HV8_0 := Aside0.mk (Kd.N_keep HVn7.out hk1 (fun k hk => by have := GW.out; have := ESb4.out.rs.kb.1; omega)); clear hi1 hb1 hk1)
            go_upto_region 26 with (first | (go_at_call 77; (with_reducible refine (xB7.calls g _ _ _ _ _ _ _ _ _ _ _ _ _ _ w0 _ ES8.out.rs.is ES8.out.rs.bel HT4.out).mono ?_); rintro e w_9 ⟨v_9, rfl, hr1, hi1, hb1, hk1⟩; obtain ⟨A_9, c_9, rfl⟩ := Kd.R_slice hr1; have HV9 := Aside0.mk (Kd.N_mono (xE2 hr1) (fun k hk => Nat.le_trans SZ8.out hk)); have ES9 := Aside0.mk (ES8.out.call hi1 hb1 hk1); have SZ9 := Aside0.mk (Nat.le_trans SZ8.out hk1.1); have HX9_0 := Aside0.mk (hk1.blk HX8_0.out (by have := GW.out; have := GEn7.out; omega) (by simp)); have HV9_0 := Aside0.mk (Kd.N_keep HV8_0.out hk1 (fun k hk => by have := GW.out; have := ESb4.out.rs.kb.1; omega)); clear hr1 hi1 hb1 hk1) | ((with_reducible refine xB0 (N := 10) rfl ?_); refine xB9 ?hg (N := 10) ?hd (cs := #[.string (⟨#[]⟩ : ByteArray), .string (⟨#[]⟩ : ByteArray), .int .i64 0, .int .i64 0, .slice none 0 0]) (t := 25) ?hr ?_; (case hd => rfl); (case hg => rfl); (case hr => first | (go_simp; done) | (go_simp; rfl)); intro gb_9 hg wb_9 hbox hb; have BX := Aside0.mk hb; have NB := Aside0.mk hbox; have HG := Aside0.mk hg; obtain ⟨c0, c1, c2, c3, c4, f0, f1, f2, f3, f4⟩ := ex5 hbox; clear hb hbox hg))
            generalize hW : World.setCell (World.setCell (World.setCell (World.setCell (World.setCell wb_9 _ _) _ _) _ _) _ _) _ _ = W_9
            have hge : w_9.heap.size ≤ gb_9 := Nat.le_of_eq HG.out.symm
            have hb6 : Below w_9.heap.size w_9 W_9 := by
              have hb := (((((BX.out.setCell (p := ⟨gb_9, 0, none⟩) hge (.string (S25.mk yf0 yf1 yf2 yf3 yf4).f0)).setCell (p := ⟨gb_9, 1, none⟩) hge (.string (S25.mk yf0 yf1 yf2 yf3 yf4).f1)).setCell (p := ⟨gb_9, 2, none⟩) hge (.int .i64 (S25.mk yf0 yf1 yf2 yf3 yf4).f2)).setCell (p := ⟨gb_9, 3, none⟩) hge (.int .i64 (S25.mk yf0 yf1 yf2 yf3 yf4).f3)).setCell (p := ⟨gb_9, 4, none⟩) hge (.slice A_9 (S25.mk yf0 yf1 yf2 yf3 yf4).f4.length c_9))
              rw [hW] at hb
              exact hb
            have HXn9 := Aside0.mk (show W_9.heap[gb_9]? = some (.cells #[.string (S25.mk yf0 yf1 yf2 yf3 yf4).f0, .string (S25.mk yf0 yf1 yf2 yf3 yf4).f1, .int .i64 (S25.mk yf0 yf1 yf2 yf3 yf4).f2, .int .i64 (S25.mk yf0 yf1 yf2 yf3 yf4).f3, .slice A_9 (S25.mk yf0 yf1 yf2 yf3 yf4).f4.length c_9] 25 (0, 0)) by rw [← hW]; exact (xA1 (xA1 (xA1 (xA1 (xA1 NB.out 0 (.string (S25.mk yf0 yf1 yf2 yf3 yf4).f0) rfl) 1 (.string (S25.mk yf0 yf1 yf2 yf3 yf4).f1) rfl) 2 (.int .i64 (S25.mk yf0 yf1 yf2 yf3 yf4).f2) rfl) 3 (.int .i64 (S25.mk yf0 yf1 yf2 yf3 yf4).f3) rfl) 4 (.slice A_9 (S25.mk yf0 yf1 yf2 yf3 yf4).f4.length c_9) rfl))
            have ESn9 := Aside0.mk (ES9.out.below hb6)
            have HVn9 := Aside0.mk (Kd.N_below HV9.out hb6)
            have GEn9 := Aside0.mk (show w.heap.size ≤ gb_9 from Nat.le_trans ES9.out.rs.kb.1 hge)
            have SZn9 := Aside0.mk (Nat.le_trans SZ9.out hb6.size)
            have HXm9_0 := Aside0.mk (xAx HX9_0.out hb6)
            have HVm9_0 := Aside0.mk (Kd.N_below HV9_0.out hb6)
            clear hW BX NB HG c0 c1 c2 c3 c4 f0 f1 f2 f3 f4 hb6 hge
            obtain ⟨hy0_0, hy0_1, hy0_2, hy0_3, hy0_4⟩ := ey5 HXm9_0.out
            obtain ⟨hy1_0, hy1_1, hy1_2, hy1_3, hy1_4⟩ := ey5 HXn9.out
            have hn4 := (xA4 ESn9.out.nb 4).trans rfl
            go_upto_region 39 with (first | ((with_reducible refine xB0 (N := 97) rfl ?_); refine Kd.N_lit k25 (w0 := W_9) W_9.heap.size 25 rfl (N' := 97) rfl (xs := [(S25.mk xf0 xf1 xf2 xf3 xf4), (S25.mk yf0 yf1 yf2 yf3 yf4)]) (inner := [.string (S25.mk xf0 xf1 xf2 xf3 xf4).f0, .string (S25.mk xf0 xf1 xf2 xf3 xf4).f1, .int .i64 (S25.mk xf0 xf1 xf2 xf3 xf4).f2, .int .i64 (S25.mk xf0 xf1 xf2 xf3 xf4).f3, .slice A_7 (S25.mk xf0 xf1 xf2 xf3 xf4).f4.length c_7, .string (S25.mk yf0 yf1 yf2 yf3 yf4).f0, .string (S25.mk yf0 yf1 yf2 yf3 yf4).f1, .int .i64 (S25.mk yf0 yf1 yf2 yf3 yf4).f2, .int .i64 (S25.mk yf0 yf1 yf2 yf3 yf4).f3, .slice A_9 (S25.mk yf0 yf1 yf2 yf3 yf4).f4.length c_9]) (ok := (fun k => W9_4.heap.size ≤ k)) (okp := (fun k => W9_4.heap.size ≤ k)) ?hr (((Reps.none _ _).snoc (xDs HVm9_0.out) rfl).snoc (xDs HVn9.out) rfl) (fun _ hk => hk) ?hf (Below.refl _ _) (Nat.le_refl _) (by show 2 ≤ 9223372036854775807; decide) ?_; (case hr => first | (go_simp; done) | (go_simp; rfl)); (case hf => exact SZn9.out); intro v7 w7_10 hN7 hb7 hg7 hat7; obtain ⟨A7_10, c7_10, rfl⟩ := Kd.N_slice hN7; have ESp10 := Aside0.mk (ESn9.out.below hb7); have HN7 := Aside0.mk hN7; clear hN7 hb7 hg7 hat7) | ((with_reducible refine xCh (b := .append) (xs := #[.tmp 94, .tmp 97]) rfl ?_); (try (refine xCi (by rfl) ?_; dsimp only)); at_builtin; refine Kd.N_append_rows k25 (w0 := w7_10) w.heap.size rfl (.tmp 94) (.tmp 97) 23 25 (.agg #[(.string ⟨#[]⟩), (.string ⟨#[]⟩), (.int .i64 0), (.int .i64 0), (.slice none 0 0)]) 72 rfl Tryd.underlying23 xDh rfl (by decide) (by decide) (.slice A8_4 1 c8_4) ((([] : List S25) ++ [first])) [(S25.mk xf0 xf1 xf2 xf3 xf4), (S25.mk yf0 yf1 yf2 yf3 yf4)] A7_10 2 c7_10 (fun k => w.heap.size ≤ k ∧ k ≠ w.heap.size ∧ k ≠ bn) (fun k => W9_4.heap.size ≤ k) rfl rfl ESp10.out.row (Kd.N_F HN7.out) ?hokp ?hfresh (Below.refl _ _) ?hbase (by first | omega | (simp; done) | (simp; omega)) ?_; (case hokp => intro k hk; have h1 := LT5.out.1; have h2 := LT5.out.2.1; have h3 := ESb4.out.rs.kb.1; exact ⟨⟨by omega, by omega, by omega⟩, fun e => by have := (LT5.out.2.2 k e.symm).1; omega⟩); (case hfresh => intro k hk; have h1 := ESp10.out.lt.1; have h2 := ESp10.out.lt.2.1; have h3 := ESp10.out.rs.kb.1; exact ⟨by omega, by omega, by omega⟩); (case hbase => exact ESp10.out.rs.kb.1); intro v8 w8_10 hN8 hb8 hg8 hat8; obtain ⟨A8_10, c8_10, hv8⟩ := Kd.N_slice hN8; rw [show ((([] : List S25) ++ [first]) ++ [(S25.mk xf0 xf1 xf2 xf3 xf4), (S25.mk yf0 yf1 yf2 yf3 yf4)]).length = 3 by simp] at hv8; subst hv8; have ESa10 := Aside0.mk (ESp10.out.append hN8 hg8); have hn4b := (xA4 (xBk ESp10.out.nb hg8 (fun e => (ESp10.out.lt.2.2 _ e.symm).2.2.2 rfl)) 4).trans rfl; have hf4b := xA5 (xBk ESp10.out.nb hg8 (fun e => (ESp10.out.lt.2.2 _ e.symm).2.2.2 rfl)) 4; clear hN8 hb8 hg8 hat8))
            generalize hW9 : World.setCell w8_10 _ _ = W9_10
            have ESb10 := Aside0.mk (show ExS w0 w W9_10 g T _ _ _ _ w.heap.size bn op ⟨#[]⟩ 0 pl (.slice A8_10 3 c8_10) ((([] : List S25) ++ [first]) ++ [(S25.mk xf0 xf1 xf2 xf3 xf4), (S25.mk yf0 yf1 yf2 yf3 yf4)]) from by rw [← hW9]; exact ESa10.out)
            clear hW9 ESa10
            clear hy0_0 hy0_1 hy0_2 hy0_3 hy0_4 hy1_0 hy1_1 hy1_2 hy1_3 hy1_4 hn4 hn4b hf4b HN7
            go_upto_region 40 with (go_at_call 46; (with_reducible refine (xA8.calls g _ _ _ _ _ _ _ _ _ _ w0 _ ESb10.out.rs.is ESb10.out.rs.bel HRP.out).mono ?_); rintro e w_11 ⟨rfl, hi1, hb1, hk1⟩; have ES11 := Aside0.mk (ESb10.out.call hi1 hb1 hk1); clear hi1 hb1 hk1)
            obtain ⟨hn0, hn1, hn2, hn3, hn4⟩ := ey5 ES11.out.nb
            obtain ⟨hr0, hr1, hr2, hr3, hr4, hf0, hf1, hf2, hf3, hf4⟩ := ex5 ES11.out.r4
            go_wp2
            have RSz := ((((((((((ES11.out.rs).far (b := w.heap.size) (j := 0) (by have := GW.out; omega) (Nat.le_refl _) WW.out (.string op))).far (b := w.heap.size) (j := 1) (by have := GW.out; omega) (Nat.le_refl _) WW.out (.string ⟨#[]⟩))).far (b := w.heap.size) (j := 2) (by have := GW.out; omega) (Nat.le_refl _) WW.out (.int .i64 0))).far (b := w.heap.size) (j := 3) (by have := GW.out; omega) (Nat.le_refl _) WW.out (.int .i64 pl))).far (b := w.heap.size) (j := 4) (by have := GW.out; omega) (Nat.le_refl _) WW.out (.slice A8_10 3 c8_10))
            have hNz := Kd.N_far (p := ⟨w.heap.size, 4, none⟩) (Kd.N_far (p := ⟨w.heap.size, 3, none⟩) (Kd.N_far (p := ⟨w.heap.size, 2, none⟩) (Kd.N_far (p := ⟨w.heap.size, 1, none⟩) (Kd.N_far (p := ⟨w.heap.size, 0, none⟩) ES11.out.row (fun k hk => hk.2.1) (.string op)) (fun k hk => hk.2.1) (.string ⟨#[]⟩)) (fun k hk => hk.2.1) (.int .i64 0)) (fun k hk => hk.2.1) (.int .i64 pl)) (fun k hk => hk.2.1) (.slice A8_10 3 c8_10)
            refine bodyPost_ret (results_cell_row rfl _ _ w.heap.size 25 #[.string op, .string ⟨#[]⟩, .int .i64 0, .int .i64 pl, .slice A8_10 3 c8_10] (0, 0) _ rfl (xA1 (xA1 (xA1 (xA1 (xA1 ES11.out.r4 0 (.string op) rfl) 1 (.string ⟨#[]⟩) rfl) 2 (.int .i64 0) rfl) 3 (.int .i64 pl) rfl) 4 (.slice A8_10 3 c8_10) rfl) Tryd.underlying25 rfl (by kernel_rfl)) rfl ?_
            exact ⟨_, rfl, Kd.N_mono hNz (fun k hk => hk.1), RSz.is, RSz.bel, RSz.kb⟩
          · skip
            rw [if_neg hq0] at htl
            have e0 : (op.toList == ([108, 105, 110, 101, 97, 114] : List UInt8)) = false := beq_eq_false_iff_ne.2 hq0
            by_cases hq1 : op.toList = ([115, 110, 97, 112, 115, 104, 111, 116] : List UInt8)
            · skip
              rw [if_pos hq1] at htl
              have e1 : (op.toList == ([115, 110, 97, 112, 115, 104, 111, 116] : List UInt8)) = true := by rw [hq1]; rfl
              obtain ⟨⟨p1, p2, p3, p4⟩, hHT1, htl⟩ := Option.bind_eq_some_iff.mp htl
              try dsimp only at htl
              have HT1 := Aside0.mk hHT1
              clear hHT1
              obtain ⟨⟨x, x1, x2, x3, x4⟩, hHT2, htl⟩ := Option.bind_eq_some_iff.mp htl
              try dsimp only at htl
              have HT2 := Aside0.mk hHT2
              clear hHT2
              obtain ⟨⟨q1, q2, q3, q4⟩, hHT3, htl⟩ := Option.bind_eq_some_iff.mp htl
              try dsimp only at htl
              have HT3 := Aside0.mk hHT3
              clear hHT3
              obtain ⟨⟨yf0, yf1, yf2, yf3, yf4, yi, yn, yb, ya⟩, hHT4, htl⟩ := Option.bind_eq_some_iff.mp htl
              try dsimp only at htl
              have HT4 := Aside0.mk hHT4
              clear hHT4
              simp only [Option.some.injEq, Prod.mk.injEq, xFi] at htl
              obtain ⟨rfl, rfl, rfl, rfl, rfl⟩ := htl
              have SZ5 := Aside0.mk (Nat.le_refl W9_4.heap.size)
              have LT5 := Aside0.mk ESb4.out.lt
              go_upto_region 29 with (go_at_call 46; (with_reducible refine (xA8.calls g _ _ _ _ _ _ _ _ _ _ w0 _ ESb4.out.rs.is ESb4.out.rs.bel HT1.out).mono ?_); rintro e w_6 ⟨rfl, hi1, hb1, hk1⟩; have ES6 := Aside0.mk (ESb4.out.call hi1 hb1 hk1); have SZ6 := Aside0.mk (Nat.le_trans SZ5.out hk1.1); clear hi1 hb1 hk1)
              go_upto_region 30 with (first | (go_at_call 47; (with_reducible refine ((IH.out k (Nat.le_refl k)).use g _ _ _ _ _ _ _ _ _ _ _ w0 _ ES6.out.rs.is ES6.out.rs.bel HT2.out).mono ?_); rintro e w_7 ⟨v_7, rfl, hr1, hi1, hb1, hk1⟩; obtain ⟨A_7, c_7, rfl⟩ := Kd.N_slice hr1; have HV7 := Aside0.mk (Kd.N_mono (hr1) (fun k hk => Nat.le_trans SZ6.out hk)); have ES7 := Aside0.mk (ES6.out.call hi1 hb1 hk1); have SZ7 := Aside0.mk (Nat.le_trans SZ6.out hk1.1); clear hr1 hi1 hb1 hk1) | ((with_reducible refine xB0 (N := 11) rfl ?_); refine xB9 ?hg (N := 11) ?hd (cs := #[.string (⟨#[]⟩ : ByteArray), .string (⟨#[]⟩ : ByteArray), .int .i64 0, .int .i64 0, .slice none 0 0]) (t := 25) ?hr ?_; (case hd => rfl); (case hg => rfl); (case hr => first | (go_simp; done) | (go_simp; rfl)); intro gb_7 hg wb_7 hbox hb; have BX := Aside0.mk hb; have NB := Aside0.mk hbox; have HG := Aside0.mk hg; obtain ⟨c0, c1, c2, c3, c4, f0, f1, f2, f3, f4⟩ := ex5 hbox; clear hb hbox hg))
              generalize hW : World.setCell (World.setCell (World.setCell (World.setCell (World.setCell wb_7 _ _) _ _) _ _) _ _) _ _ = W_7
              have hge : w_7.heap.size ≤ gb_7 := Nat.le_of_eq HG.out.symm
              have hb6 : Below w_7.heap.size w_7 W_7 := by
                have hb := (((((BX.out.setCell (p := ⟨gb_7, 0, none⟩) hge (.string x.f0)).setCell (p := ⟨gb_7, 1, none⟩) hge (.string x.f1)).setCell (p := ⟨gb_7, 2, none⟩) hge (.int .i64 x.f2)).setCell (p := ⟨gb_7, 3, none⟩) hge (.int .i64 x.f3)).setCell (p := ⟨gb_7, 4, none⟩) hge (.slice A_7 x.f4.length c_7))
                rw [hW] at hb
                exact hb
              have HXn7 := Aside0.mk (show W_7.heap[gb_7]? = some (.cells #[.string x.f0, .string x.f1, .int .i64 x.f2, .int .i64 x.f3, .slice A_7 x.f4.length c_7] 25 (0, 0)) by rw [← hW]; exact (xA1 (xA1 (xA1 (xA1 (xA1 NB.out 0 (.string x.f0) rfl) 1 (.string x.f1) rfl) 2 (.int .i64 x.f2) rfl) 3 (.int .i64 x.f3) rfl) 4 (.slice A_7 x.f4.length c_7) rfl))
              have ESn7 := Aside0.mk (ES7.out.below hb6)
              have HVn7 := Aside0.mk (Kd.N_below HV7.out hb6)
              have GEn7 := Aside0.mk (show w.heap.size ≤ gb_7 from Nat.le_trans ES7.out.rs.kb.1 hge)
              have SZn7 := Aside0.mk (Nat.le_trans SZ7.out hb6.size)
              clear hW BX NB HG c0 c1 c2 c3 c4 f0 f1 f2 f3 f4 hb6 hge
              go_upto_region 31 with (go_at_call 46; (with_reducible refine (xA8.calls g _ _ _ _ _ _ _ _ _ _ w0 _ ESn7.out.rs.is ESn7.out.rs.bel HT3.out).mono ?_); rintro e w_8 ⟨rfl, hi1, hb1, hk1⟩; have ES8 := Aside0.mk (ESn7.out.call hi1 hb1 hk1); have SZ8 := Aside0.mk (Nat.le_trans SZn7.out hk1.1); have HX8_0 := Aside0.mk (hk1.blk HXn7.out (by have := GW.out; have := GEn7.out; omega) (by simp)); have HV8_0 := Aside0.mk (Kd.N_keep HVn7.out hk1 (fun k hk => by have := GW.out; have := ESb4.out.rs.kb.1; omega)); clear hi1 hb1 hk1)
              go_upto_region 32 with (first | (go_at_call 77; (with_reducible refine (xB7.calls g _ _ _ _ _ _ _ _ _ _ _ _ _ _ w0 _ ES8.out.rs.is ES8.out.rs.bel HT4.out).mono ?_); rintro e w_9 ⟨v_9, rfl, hr1, hi1, hb1, hk1⟩; obtain ⟨A_9, c_9, rfl⟩ := Kd.R_slice hr1; have HV9 := Aside0.mk (Kd.N_mono (xE2 hr1) (fun k hk => Nat.le_trans SZ8.out hk)); have ES9 := Aside0.mk (ES8.out.call hi1 hb1 hk1); have SZ9 := Aside0.mk (Nat.le_trans SZ8.out hk1.1); have HX9_0 := Aside0.mk (hk1.blk HX8_0.out (by have := GW.out; have := GEn7.out; omega) (by simp)); have HV9_0 := Aside0.mk (Kd.N_keep HV8_0.out hk1 (fun k hk => by have := GW.out; have := ESb4.out.rs.kb.1; omega)); clear hr1 hi1 hb1 hk1) | ((with_reducible refine xB0 (N := 12) rfl ?_); refine xB9 ?hg (N := 12) ?hd (cs := #[.string (⟨#[]⟩ : ByteArray), .string (⟨#[]⟩ : ByteArray), .int .i64 0, .int .i64 0, .slice none 0 0]) (t := 25) ?hr ?_; (case hd => rfl); (case hg => rfl); (case hr => first | (go_simp; done) | (go_simp; rfl)); intro gb_9 hg wb_9 hbox hb; have BX := Aside0.mk hb; have NB := Aside0.mk hbox; have HG := Aside0.mk hg; obtain ⟨c0, c1, c2, c3, c4, f0, f1, f2, f3, f4⟩ := ex5 hbox; clear hb hbox hg))
              generalize hW : World.setCell (World.setCell (World.setCell (World.setCell (World.setCell wb_9 _ _) _ _) _ _) _ _) _ _ = W_9
              have hge : w_9.heap.size ≤ gb_9 := Nat.le_of_eq HG.out.symm
              have hb6 : Below w_9.heap.size w_9 W_9 := by
                have hb := (((((BX.out.setCell (p := ⟨gb_9, 0, none⟩) hge (.string (S25.mk yf0 yf1 yf2 yf3 yf4).f0)).setCell (p := ⟨gb_9, 1, none⟩) hge (.string (S25.mk yf0 yf1 yf2 yf3 yf4).f1)).setCell (p := ⟨gb_9, 2, none⟩) hge (.int .i64 (S25.mk yf0 yf1 yf2 yf3 yf4).f2)).setCell (p := ⟨gb_9, 3, none⟩) hge (.int .i64 (S25.mk yf0 yf1 yf2 yf3 yf4).f3)).setCell (p := ⟨gb_9, 4, none⟩) hge (.slice A_9 (S25.mk yf0 yf1 yf2 yf3 yf4).f4.length c_9))
                rw [hW] at hb
                exact hb
              have HXn9 := Aside0.mk (show W_9.heap[gb_9]? = some (.cells #[.string (S25.mk yf0 yf1 yf2 yf3 yf4).f0, .string (S25.mk yf0 yf1 yf2 yf3 yf4).f1, .int .i64 (S25.mk yf0 yf1 yf2 yf3 yf4).f2, .int .i64 (S25.mk yf0 yf1 yf2 yf3 yf4).f3, .slice A_9 (S25.mk yf0 yf1 yf2 yf3 yf4).f4.length c_9] 25 (0, 0)) by rw [← hW]; exact (xA1 (xA1 (xA1 (xA1 (xA1 NB.out 0 (.string (S25.mk yf0 yf1 yf2 yf3 yf4).f0) rfl) 1 (.string (S25.mk yf0 yf1 yf2 yf3 yf4).f1) rfl) 2 (.int .i64 (S25.mk yf0 yf1 yf2 yf3 yf4).f2) rfl) 3 (.int .i64 (S25.mk yf0 yf1 yf2 yf3 yf4).f3) rfl) 4 (.slice A_9 (S25.mk yf0 yf1 yf2 yf3 yf4).f4.length c_9) rfl))
              have ESn9 := Aside0.mk (ES9.out.below hb6)
              have HVn9 := Aside0.mk (Kd.N_below HV9.out hb6)
              have GEn9 := Aside0.mk (show w.heap.size ≤ gb_9 from Nat.le_trans ES9.out.rs.kb.1 hge)
              have SZn9 := Aside0.mk (Nat.le_trans SZ9.out hb6.size)
              have HXm9_0 := Aside0.mk (xAx HX9_0.out hb6)
              have HVm9_0 := Aside0.mk (Kd.N_below HV9_0.out hb6)
              clear hW BX NB HG c0 c1 c2 c3 c4 f0 f1 f2 f3 f4 hb6 hge
              obtain ⟨hy0_0, hy0_1, hy0_2, hy0_3, hy0_4⟩ := ey5 HXm9_0.out
              obtain ⟨hy1_0, hy1_1, hy1_2, hy1_3, hy1_4⟩ := ey5 HXn9.out
              have hn4 := (xA4 ESn9.out.nb 4).trans rfl
              go_upto_region 39 with (first | ((with_reducible refine xB0 (N := 116) rfl ?_); refine Kd.N_lit k25 (w0 := W_9) W_9.heap.size 25 rfl (N' := 116) rfl (xs := [x, (S25.mk yf0 yf1 yf2 yf3 yf4)]) (inner := [.string x.f0, .string x.f1, .int .i64 x.f2, .int .i64 x.f3, .slice A_7 x.f4.length c_7, .string (S25.mk yf0 yf1 yf2 yf3 yf4).f0, .string (S25.mk yf0 yf1 yf2 yf3 yf4).f1, .int .i64 (S25.mk yf0 yf1 yf2 yf3 yf4).f2, .int .i64 (S25.mk yf0 yf1 yf2 yf3 yf4).f3, .slice A_9 (S25.mk yf0 yf1 yf2 yf3 yf4).f4.length c_9]) (ok := (fun k => W9_4.heap.size ≤ k)) (okp := (fun k => W9_4.heap.size ≤ k)) ?hr (((Reps.none _ _).snoc (xDs HVm9_0.out) rfl).snoc (xDs HVn9.out) rfl) (fun _ hk => hk) ?hf (Below.refl _ _) (Nat.le_refl _) (by show 2 ≤ 9223372036854775807; decide) ?_; (case hr => first | (go_simp; done) | (go_simp; rfl)); (case hf => exact SZn9.out); intro v7 w7_10 hN7 hb7 hg7 hat7; obtain ⟨A7_10, c7_10, rfl⟩ := Kd.N_slice hN7; have ESp10 := Aside0.mk (ESn9.out.below hb7); have HN7 := Aside0.mk hN7; clear hN7 hb7 hg7 hat7) | ((with_reducible refine xCh (b := .append) (xs := #[.tmp 113, .tmp 116]) rfl ?_); (try (refine xCi (by rfl) ?_; dsimp only)); at_builtin; refine Kd.N_append_rows k25 (w0 := w7_10) w.heap.size rfl (.tmp 113) (.tmp 116) 23 25 (.agg #[(.string ⟨#[]⟩), (.string ⟨#[]⟩), (.int .i64 0), (.int .i64 0), (.slice none 0 0)]) 72 rfl Tryd.underlying23 xDh rfl (by decide) (by decide) (.slice A8_4 1 c8_4) ((([] : List S25) ++ [first])) [x, (S25.mk yf0 yf1 yf2 yf3 yf4)] A7_10 2 c7_10 (fun k => w.heap.size ≤ k ∧ k ≠ w.heap.size ∧ k ≠ bn) (fun k => W9_4.heap.size ≤ k) rfl rfl ESp10.out.row (Kd.N_F HN7.out) ?hokp ?hfresh (Below.refl _ _) ?hbase (by first | omega | (simp; done) | (simp; omega)) ?_; (case hokp => intro k hk; have h1 := LT5.out.1; have h2 := LT5.out.2.1; have h3 := ESb4.out.rs.kb.1; exact ⟨⟨by omega, by omega, by omega⟩, fun e => by have := (LT5.out.2.2 k e.symm).1; omega⟩); (case hfresh => intro k hk; have h1 := ESp10.out.lt.1; have h2 := ESp10.out.lt.2.1; have h3 := ESp10.out.rs.kb.1; exact ⟨by omega, by omega, by omega⟩); (case hbase => exact ESp10.out.rs.kb.1); intro v8 w8_10 hN8 hb8 hg8 hat8; obtain ⟨A8_10, c8_10, hv8⟩ := Kd.N_slice hN8; rw [show ((([] : List S25) ++ [first]) ++ [x, (S25.mk yf0 yf1 yf2 yf3 yf4)]).length = 3 by simp] at hv8; subst hv8; have ESa10 := Aside0.mk (ESp10.out.append hN8 hg8); have hn4b := (xA4 (xBk ESp10.out.nb hg8 (fun e => (ESp10.out.lt.2.2 _ e.symm).2.2.2 rfl)) 4).trans rfl; have hf4b := xA5 (xBk ESp10.out.nb hg8 (fun e => (ESp10.out.lt.2.2 _ e.symm).2.2.2 rfl)) 4; clear hN8 hb8 hg8 hat8))
              generalize hW9 : World.setCell w8_10 _ _ = W9_10
              have ESb10 := Aside0.mk (show ExS w0 w W9_10 g T _ _ _ _ w.heap.size bn op ⟨#[]⟩ 0 pl (.slice A8_10 3 c8_10) ((([] : List S25) ++ [first]) ++ [x, (S25.mk yf0 yf1 yf2 yf3 yf4)]) from by rw [← hW9]; exact ESa10.out)
              clear hW9 ESa10
              clear hy0_0 hy0_1 hy0_2 hy0_3 hy0_4 hy1_0 hy1_1 hy1_2 hy1_3 hy1_4 hn4 hn4b hf4b HN7
              go_upto_region 40 with (go_at_call 46; (with_reducible refine (xA8.calls g _ _ _ _ _ _ _ _ _ _ w0 _ ESb10.out.rs.is ESb10.out.rs.bel HRP.out).mono ?_); rintro e w_11 ⟨rfl, hi1, hb1, hk1⟩; have ES11 := Aside0.mk (ESb10.out.call hi1 hb1 hk1); clear hi1 hb1 hk1)
              obtain ⟨hn0, hn1, hn2, hn3, hn4⟩ := ey5 ES11.out.nb
              obtain ⟨hr0, hr1, hr2, hr3, hr4, hf0, hf1, hf2, hf3, hf4⟩ := ex5 ES11.out.r4
              go_wp2
              have RSz := ((((((((((ES11.out.rs).far (b := w.heap.size) (j := 0) (by have := GW.out; omega) (Nat.le_refl _) WW.out (.string op))).far (b := w.heap.size) (j := 1) (by have := GW.out; omega) (Nat.le_refl _) WW.out (.string ⟨#[]⟩))).far (b := w.heap.size) (j := 2) (by have := GW.out; omega) (Nat.le_refl _) WW.out (.int .i64 0))).far (b := w.heap.size) (j := 3) (by have := GW.out; omega) (Nat.le_refl _) WW.out (.int .i64 pl))).far (b := w.heap.size) (j := 4) (by have := GW.out; omega) (Nat.le_refl _) WW.out (.slice A8_10 3 c8_10))
              have hNz := Kd.N_far (p := ⟨w.heap.size, 4, none⟩) (Kd.N_far (p := ⟨w.heap.size, 3, none⟩) (Kd.N_far (p := ⟨w.heap.size, 2, none⟩) (Kd.N_far (p := ⟨w.heap.size, 1, none⟩) (Kd.N_far (p := ⟨w.heap.size, 0, none⟩) ES11.out.row (fun k hk => hk.2.1) (.string op)) (fun k hk => hk.2.1) (.string ⟨#[]⟩)) (fun k hk => hk.2.1) (.int .i64 0)) (fun k hk => hk.2.1) (.int .i64 pl)) (fun k hk => hk.2.1) (.slice A8_10 3 c8_10)
              refine bodyPost_ret (results_cell_row rfl _ _ w.heap.size 25 #[.string op, .string ⟨#[]⟩, .int .i64 0, .int .i64 pl, .slice A8_10 3 c8_10] (0, 0) _ rfl (xA1 (xA1 (xA1 (xA1 (xA1 ES11.out.r4 0 (.string op) rfl) 1 (.string ⟨#[]⟩) rfl) 2 (.int .i64 0) rfl) 3 (.int .i64 pl) rfl) 4 (.slice A8_10 3 c8_10) rfl) Tryd.underlying25 rfl (by kernel_rfl)) rfl ?_
              exact ⟨_, rfl, Kd.N_mono hNz (fun k hk => hk.1), RSz.is, RSz.bel, RSz.kb⟩
            · skip
              rw [if_neg hq1] at htl
              have e1 : (op.toList == ([115, 110, 97, 112, 115, 104, 111, 116] : List UInt8)) = false := beq_eq_false_iff_ne.2 hq1
              by_cases hq2 : op.toList = ([99, 114, 121, 112, 116] : List UInt8) ∨ op.toList = ([105, 110, 116, 101, 103, 114, 105, 116, 121] : List UInt8) ∨ op.toList = ([118, 101, 114, 105, 116, 121] : List UInt8)
              · skip
                rw [if_pos hq2] at htl
                by_cases hq3 : op.toList = ([99, 114, 121, 112, 116] : List UInt8)
                · skip
                  have e2 : (op.toList == ([99, 114, 121, 112, 116] : List UInt8)) = true := by rw [hq3]; rfl
                  clear hq2 hq3
                  obtain ⟨⟨p1, p2, p3, p4⟩, hHT1, htl⟩ := Option.bind_eq_some_iff.mp htl
                  try dsimp only at htl
                  have HT1 := Aside0.mk hHT1
                  clear hHT1
                  obtain ⟨⟨xf0, xf1, xf2, xf3, xf4, xi, xn, xb, xa⟩, hHT2, htl⟩ := Option.bind_eq_some_iff.mp htl
                  try dsimp only at htl
                  have HT2 := Aside0.mk hHT2
                  clear hHT2
                  simp only [Option.some.injEq, Prod.mk.injEq, xFi] at htl
                  obtain ⟨rfl, rfl, rfl, rfl, rfl⟩ := htl
                  have SZ5 := Aside0.mk (Nat.le_refl W9_4.heap.size)
                  have LT5 := Aside0.mk ESb4.out.lt
                  go_upto_region 37 with (go_at_call 46; (with_reducible refine (xA8.calls g _ _ _ _ _ _ _ _ _ _ w0 _ ESb4.out.rs.is ESb4.out.rs.bel HT1.out).mono ?_); rintro e w_6 ⟨rfl, hi1, hb1, hk1⟩; have ES6 := Aside0.mk (ESb4.out.call hi1 hb1 hk1); have SZ6 := Aside0.mk (Nat.le_trans SZ5.out hk1.1); clear hi1 hb1 hk1)
                  go_upto_region 38 with (first | (go_at_call 78; (with_reducible refine (xBe.calls k g _ _ _ _ _ _ _ _ _ _ _ _ _ _ w0 _ ES6.out.rs.is ES6.out.rs.bel HT2.out).mono ?_); rintro e w_7 ⟨v_7, rfl, hr1, hi1, hb1, hk1⟩; obtain ⟨A_7, c_7, rfl⟩ := Kd.R_slice hr1; have HV7 := Aside0.mk (Kd.N_mono (xE2 hr1) (fun k hk => Nat.le_trans SZ6.out hk)); have ES7 := Aside0.mk (ES6.out.call hi1 hb1 hk1); have SZ7 := Aside0.mk (Nat.le_trans SZ6.out hk1.1); clear hr1 hi1 hb1 hk1) | ((with_reducible refine xB0 (N := 13) rfl ?_); refine xB9 ?hg (N := 13) ?hd (cs := #[.string (⟨#[]⟩ : ByteArray), .string (⟨#[]⟩ : ByteArray), .int .i64 0, .int .i64 0, .slice none 0 0]) (t := 25) ?hr ?_; (case hd => rfl); (case hg => rfl); (case hr => first | (go_simp; done) | (go_simp; rfl)); intro gb_7 hg wb_7 hbox hb; have BX := Aside0.mk hb; have NB := Aside0.mk hbox; have HG := Aside0.mk hg; obtain ⟨c0, c1, c2, c3, c4, f0, f1, f2, f3, f4⟩ := ex5 hbox; clear hb hbox hg))
                  generalize hW : World.setCell (World.setCell (World.setCell (World.setCell (World.setCell wb_7 _ _) _ _) _ _) _ _) _ _ = W_7
                  have hge : w_7.heap.size ≤ gb_7 := Nat.le_of_eq HG.out.symm
                  have hb6 : Below w_7.heap.size w_7 W_7 := by
                    have hb := (((((BX.out.setCell (p := ⟨gb_7, 0, none⟩) hge (.string (S25.mk xf0 xf1 xf2 xf3 xf4).f0)).setCell (p := ⟨gb_7, 1, none⟩) hge (.string (S25.mk xf0 xf1 xf2 xf3 xf4).f1)).setCell (p := ⟨gb_7, 2, none⟩) hge (.int .i64 (S25.mk xf0 xf1 xf2 xf3 xf4).f2)).setCell (p := ⟨gb_7, 3, none⟩) hge (.int .i64 (S25.mk xf0 xf1 xf2 xf3 xf4).f3)).setCell (p := ⟨gb_7, 4, none⟩) hge (.slice A_7 (S25.mk xf0 xf1 xf2 xf3 xf4).f4.length c_7))
                    rw [hW] at hb
                    exact hb
                  have HXn7 := Aside0.mk (show W_7.heap[gb_7]? = some (.cells #[.string (S25.mk xf0 xf1 xf2 xf3 xf4).f0, .string (S25.mk xf0 xf1 xf2 xf3 xf4).f1, .int .i64 (S25.mk xf0 xf1 xf2 xf3 xf4).f2, .int .i64 (S25.mk xf0 xf1 xf2 xf3 xf4).f3, .slice A_7 (S25.mk xf0 xf1 xf2 xf3 xf4).f4.length c_7] 25 (0, 0)) by rw [← hW]; exact (xA1 (xA1 (xA1 (xA1 (xA1 NB.out 0 (.string (S25.mk xf0 xf1 xf2 xf3 xf4).f0) rfl) 1 (.string (S25.mk xf0 xf1 xf2 xf3 xf4).f1) rfl) 2 (.int .i64 (S25.mk xf0 xf1 xf2 xf3 xf4).f2) rfl) 3 (.int .i64 (S25.mk xf0 xf1 xf2 xf3 xf4).f3) rfl) 4 (.slice A_7 (S25.mk xf0 xf1 xf2 xf3 xf4).f4.length c_7) rfl))
                  have ESn7 := Aside0.mk (ES7.out.below hb6)
                  have HVn7 := Aside0.mk (Kd.N_below HV7.out hb6)
                  have GEn7 := Aside0.mk (show w.heap.size ≤ gb_7 from Nat.le_trans ES7.out.rs.kb.1 hge)
                  have SZn7 := Aside0.mk (Nat.le_trans SZ7.out hb6.size)
                  clear hW BX NB HG c0 c1 c2 c3 c4 f0 f1 f2 f3 f4 hb6 hge
                  obtain ⟨hy0_0, hy0_1, hy0_2, hy0_3, hy0_4⟩ := ey5 HXn7.out
                  have hn4 := (xA4 ESn7.out.nb 4).trans rfl
                  go_upto_region 39 with (first | ((with_reducible refine xB0 (N := 130) rfl ?_); refine Kd.N_lit k25 (w0 := W_7) W_7.heap.size 25 rfl (N' := 130) rfl (xs := [(S25.mk xf0 xf1 xf2 xf3 xf4)]) (inner := [.string (S25.mk xf0 xf1 xf2 xf3 xf4).f0, .string (S25.mk xf0 xf1 xf2 xf3 xf4).f1, .int .i64 (S25.mk xf0 xf1 xf2 xf3 xf4).f2, .int .i64 (S25.mk xf0 xf1 xf2 xf3 xf4).f3, .slice A_7 (S25.mk xf0 xf1 xf2 xf3 xf4).f4.length c_7]) (ok := (fun k => W9_4.heap.size ≤ k)) (okp := (fun k => W9_4.heap.size ≤ k)) ?hr ((Reps.none _ _).snoc (xDs HVn7.out) rfl) (fun _ hk => hk) ?hf (Below.refl _ _) (Nat.le_refl _) (by show 1 ≤ 9223372036854775807; decide) ?_; (case hr => first | (go_simp; done) | (go_simp; rfl)); (case hf => exact SZn7.out); intro v7 w7_8 hN7 hb7 hg7 hat7; obtain ⟨A7_8, c7_8, rfl⟩ := Kd.N_slice hN7; have ESp8 := Aside0.mk (ESn7.out.below hb7); have HN7 := Aside0.mk hN7; clear hN7 hb7 hg7 hat7) | ((with_reducible refine xCh (b := .append) (xs := #[.tmp 128, .tmp 130]) rfl ?_); (try (refine xCi (by rfl) ?_; dsimp only)); at_builtin; refine Kd.N_append_rows k25 (w0 := w7_8) w.heap.size rfl (.tmp 128) (.tmp 130) 23 25 (.agg #[(.string ⟨#[]⟩), (.string ⟨#[]⟩), (.int .i64 0), (.int .i64 0), (.slice none 0 0)]) 72 rfl Tryd.underlying23 xDh rfl (by decide) (by decide) (.slice A8_4 1 c8_4) ((([] : List S25) ++ [first])) [(S25.mk xf0 xf1 xf2 xf3 xf4)] A7_8 1 c7_8 (fun k => w.heap.size ≤ k ∧ k ≠ w.heap.size ∧ k ≠ bn) (fun k => W9_4.heap.size ≤ k) rfl rfl ESp8.out.row (Kd.N_F HN7.out) ?hokp ?hfresh (Below.refl _ _) ?hbase (by first | omega | (simp; done) | (simp; omega)) ?_; (case hokp => intro k hk; have h1 := LT5.out.1; have h2 := LT5.out.2.1; have h3 := ESb4.out.rs.kb.1; exact ⟨⟨by omega, by omega, by omega⟩, fun e => by have := (LT5.out.2.2 k e.symm).1; omega⟩); (case hfresh => intro k hk; have h1 := ESp8.out.lt.1; have h2 := ESp8.out.lt.2.1; have h3 := ESp8.out.rs.kb.1; exact ⟨by omega, by omega, by omega⟩); (case hbase => exact ESp8.out.rs.kb.1); intro v8 w8_8 hN8 hb8 hg8 hat8; obtain ⟨A8_8, c8_8, hv8⟩ := Kd.N_slice hN8; rw [show ((([] : List S25) ++ [first]) ++ [(S25.mk xf0 xf1 xf2 xf3 xf4)]).length = 2 by simp] at hv8; subst hv8; have ESa8 := Aside0.mk (ESp8.out.append hN8 hg8); have hn4b := (xA4 (xBk ESp8.out.nb hg8 (fun e => (ESp8.out.lt.2.2 _ e.symm).2.2.2 rfl)) 4).trans rfl; have hf4b := xA5 (xBk ESp8.out.nb hg8 (fun e => (ESp8.out.lt.2.2 _ e.symm).2.2.2 rfl)) 4; clear hN8 hb8 hg8 hat8))
                  generalize hW9 : World.setCell w8_8 _ _ = W9_8
                  have ESb8 := Aside0.mk (show ExS w0 w W9_8 g T _ _ _ _ w.heap.size bn op ⟨#[]⟩ 0 pl (.slice A8_8 2 c8_8) ((([] : List S25) ++ [first]) ++ [(S25.mk xf0 xf1 xf2 xf3 xf4)]) from by rw [← hW9]; exact ESa8.out)
                  clear hW9 ESa8
                  clear hy0_0 hy0_1 hy0_2 hy0_3 hy0_4 hn4 hn4b hf4b HN7
                  go_upto_region 40 with (go_at_call 46; (with_reducible refine (xA8.calls g _ _ _ _ _ _ _ _ _ _ w0 _ ESb8.out.rs.is ESb8.out.rs.bel HRP.out).mono ?_); rintro e w_9 ⟨rfl, hi1, hb1, hk1⟩; have ES9 := Aside0.mk (ESb8.out.call hi1 hb1 hk1); clear hi1 hb1 hk1)
                  obtain ⟨hn0, hn1, hn2, hn3, hn4⟩ := ey5 ES9.out.nb
                  obtain ⟨hr0, hr1, hr2, hr3, hr4, hf0, hf1, hf2, hf3, hf4⟩ := ex5 ES9.out.r4
                  go_wp2
                  have RSz := ((((((((((ES9.out.rs).far (b := w.heap.size) (j := 0) (by have := GW.out; omega) (Nat.le_refl _) WW.out (.string op))).far (b := w.heap.size) (j := 1) (by have := GW.out; omega) (Nat.le_refl _) WW.out (.string ⟨#[]⟩))).far (b := w.heap.size) (j := 2) (by have := GW.out; omega) (Nat.le_refl _) WW.out (.int .i64 0))).far (b := w.heap.size) (j := 3) (by have := GW.out; omega) (Nat.le_refl _) WW.out (.int .i64 pl))).far (b := w.heap.size) (j := 4) (by have := GW.out; omega) (Nat.le_refl _) WW.out (.slice A8_8 2 c8_8))
                  have hNz := Kd.N_far (p := ⟨w.heap.size, 4, none⟩) (Kd.N_far (p := ⟨w.heap.size, 3, none⟩) (Kd.N_far (p := ⟨w.heap.size, 2, none⟩) (Kd.N_far (p := ⟨w.heap.size, 1, none⟩) (Kd.N_far (p := ⟨w.heap.size, 0, none⟩) ES9.out.row (fun k hk => hk.2.1) (.string op)) (fun k hk => hk.2.1) (.string ⟨#[]⟩)) (fun k hk => hk.2.1) (.int .i64 0)) (fun k hk => hk.2.1) (.int .i64 pl)) (fun k hk => hk.2.1) (.slice A8_8 2 c8_8)
                  refine bodyPost_ret (results_cell_row rfl _ _ w.heap.size 25 #[.string op, .string ⟨#[]⟩, .int .i64 0, .int .i64 pl, .slice A8_8 2 c8_8] (0, 0) _ rfl (xA1 (xA1 (xA1 (xA1 (xA1 ES9.out.r4 0 (.string op) rfl) 1 (.string ⟨#[]⟩) rfl) 2 (.int .i64 0) rfl) 3 (.int .i64 pl) rfl) 4 (.slice A8_8 2 c8_8) rfl) Tryd.underlying25 rfl (by kernel_rfl)) rfl ?_
                  exact ⟨_, rfl, Kd.N_mono hNz (fun k hk => hk.1), RSz.is, RSz.bel, RSz.kb⟩
                · skip
                  have e2 : (op.toList == ([99, 114, 121, 112, 116] : List UInt8)) = false := beq_eq_false_iff_ne.2 hq3
                  by_cases hq4 : op.toList = ([105, 110, 116, 101, 103, 114, 105, 116, 121] : List UInt8)
                  · skip
                    have e3 : (op.toList == ([105, 110, 116, 101, 103, 114, 105, 116, 121] : List UInt8)) = true := by rw [hq4]; rfl
                    clear hq2 hq3 hq4
                    obtain ⟨⟨p1, p2, p3, p4⟩, hHT1, htl⟩ := Option.bind_eq_some_iff.mp htl
                    try dsimp only at htl
                    have HT1 := Aside0.mk hHT1
                    clear hHT1
                    obtain ⟨⟨xf0, xf1, xf2, xf3, xf4, xi, xn, xb, xa⟩, hHT2, htl⟩ := Option.bind_eq_some_iff.mp htl
                    try dsimp only at htl
                    have HT2 := Aside0.mk hHT2
                    clear hHT2
                    simp only [Option.some.injEq, Prod.mk.injEq, xFi] at htl
                    obtain ⟨rfl, rfl, rfl, rfl, rfl⟩ := htl
                    have SZ5 := Aside0.mk (Nat.le_refl W9_4.heap.size)
                    have LT5 := Aside0.mk ESb4.out.lt
                    go_upto_region 37 with (go_at_call 46; (with_reducible refine (xA8.calls g _ _ _ _ _ _ _ _ _ _ w0 _ ESb4.out.rs.is ESb4.out.rs.bel HT1.out).mono ?_); rintro e w_6 ⟨rfl, hi1, hb1, hk1⟩; have ES6 := Aside0.mk (ESb4.out.call hi1 hb1 hk1); have SZ6 := Aside0.mk (Nat.le_trans SZ5.out hk1.1); clear hi1 hb1 hk1)
                    go_upto_region 38 with (first | (go_at_call 78; (with_reducible refine (xBe.calls k g _ _ _ _ _ _ _ _ _ _ _ _ _ _ w0 _ ES6.out.rs.is ES6.out.rs.bel HT2.out).mono ?_); rintro e w_7 ⟨v_7, rfl, hr1, hi1, hb1, hk1⟩; obtain ⟨A_7, c_7, rfl⟩ := Kd.R_slice hr1; have HV7 := Aside0.mk (Kd.N_mono (xE2 hr1) (fun k hk => Nat.le_trans SZ6.out hk)); have ES7 := Aside0.mk (ES6.out.call hi1 hb1 hk1); have SZ7 := Aside0.mk (Nat.le_trans SZ6.out hk1.1); clear hr1 hi1 hb1 hk1) | ((with_reducible refine xB0 (N := 13) rfl ?_); refine xB9 ?hg (N := 13) ?hd (cs := #[.string (⟨#[]⟩ : ByteArray), .string (⟨#[]⟩ : ByteArray), .int .i64 0, .int .i64 0, .slice none 0 0]) (t := 25) ?hr ?_; (case hd => rfl); (case hg => rfl); (case hr => first | (go_simp; done) | (go_simp; rfl)); intro gb_7 hg wb_7 hbox hb; have BX := Aside0.mk hb; have NB := Aside0.mk hbox; have HG := Aside0.mk hg; obtain ⟨c0, c1, c2, c3, c4, f0, f1, f2, f3, f4⟩ := ex5 hbox; clear hb hbox hg))
                    generalize hW : World.setCell (World.setCell (World.setCell (World.setCell (World.setCell wb_7 _ _) _ _) _ _) _ _) _ _ = W_7
                    have hge : w_7.heap.size ≤ gb_7 := Nat.le_of_eq HG.out.symm
                    have hb6 : Below w_7.heap.size w_7 W_7 := by
                      have hb := (((((BX.out.setCell (p := ⟨gb_7, 0, none⟩) hge (.string (S25.mk xf0 xf1 xf2 xf3 xf4).f0)).setCell (p := ⟨gb_7, 1, none⟩) hge (.string (S25.mk xf0 xf1 xf2 xf3 xf4).f1)).setCell (p := ⟨gb_7, 2, none⟩) hge (.int .i64 (S25.mk xf0 xf1 xf2 xf3 xf4).f2)).setCell (p := ⟨gb_7, 3, none⟩) hge (.int .i64 (S25.mk xf0 xf1 xf2 xf3 xf4).f3)).setCell (p := ⟨gb_7, 4, none⟩) hge (.slice A_7 (S25.mk xf0 xf1 xf2 xf3 xf4).f4.length c_7))
                      rw [hW] at hb
                      exact hb
                    have HXn7 := Aside0.mk (show W_7.heap[gb_7]? = some (.cells #[.string (S25.mk xf0 xf1 xf2 xf3 xf4).f0, .string (S25.mk xf0 xf1 xf2 xf3 xf4).f1, .int .i64 (S25.mk xf0 xf1 xf2 xf3 xf4).f2, .int .i64 (S25.mk xf0 xf1 xf2 xf3 xf4).f3, .slice A_7 (S25.mk xf0 xf1 xf2 xf3 xf4).f4.length c_7] 25 (0, 0)) by rw [← hW]; exact (xA1 (xA1 (xA1 (xA1 (xA1 NB.out 0 (.string (S25.mk xf0 xf1 xf2 xf3 xf4).f0) rfl) 1 (.string (S25.mk xf0 xf1 xf2 xf3 xf4).f1) rfl) 2 (.int .i64 (S25.mk xf0 xf1 xf2 xf3 xf4).f2) rfl) 3 (.int .i64 (S25.mk xf0 xf1 xf2 xf3 xf4).f3) rfl) 4 (.slice A_7 (S25.mk xf0 xf1 xf2 xf3 xf4).f4.length c_7) rfl))
                    have ESn7 := Aside0.mk (ES7.out.below hb6)
                    have HVn7 := Aside0.mk (Kd.N_below HV7.out hb6)
                    have GEn7 := Aside0.mk (show w.heap.size ≤ gb_7 from Nat.le_trans ES7.out.rs.kb.1 hge)
                    have SZn7 := Aside0.mk (Nat.le_trans SZ7.out hb6.size)
                    clear hW BX NB HG c0 c1 c2 c3 c4 f0 f1 f2 f3 f4 hb6 hge
                    obtain ⟨hy0_0, hy0_1, hy0_2, hy0_3, hy0_4⟩ := ey5 HXn7.out
                    have hn4 := (xA4 ESn7.out.nb 4).trans rfl
                    go_upto_region 39 with (first | ((with_reducible refine xB0 (N := 130) rfl ?_); refine Kd.N_lit k25 (w0 := W_7) W_7.heap.size 25 rfl (N' := 130) rfl (xs := [(S25.mk xf0 xf1 xf2 xf3 xf4)]) (inner := [.string (S25.mk xf0 xf1 xf2 xf3 xf4).f0, .string (S25.mk xf0 xf1 xf2 xf3 xf4).f1, .int .i64 (S25.mk xf0 xf1 xf2 xf3 xf4).f2, .int .i64 (S25.mk xf0 xf1 xf2 xf3 xf4).f3, .slice A_7 (S25.mk xf0 xf1 xf2 xf3 xf4).f4.length c_7]) (ok := (fun k => W9_4.heap.size ≤ k)) (okp := (fun k => W9_4.heap.size ≤ k)) ?hr ((Reps.none _ _).snoc (xDs HVn7.out) rfl) (fun _ hk => hk) ?hf (Below.refl _ _) (Nat.le_refl _) (by show 1 ≤ 9223372036854775807; decide) ?_; (case hr => first | (go_simp; done) | (go_simp; rfl)); (case hf => exact SZn7.out); intro v7 w7_8 hN7 hb7 hg7 hat7; obtain ⟨A7_8, c7_8, rfl⟩ := Kd.N_slice hN7; have ESp8 := Aside0.mk (ESn7.out.below hb7); have HN7 := Aside0.mk hN7; clear hN7 hb7 hg7 hat7) | ((with_reducible refine xCh (b := .append) (xs := #[.tmp 128, .tmp 130]) rfl ?_); (try (refine xCi (by rfl) ?_; dsimp only)); at_builtin; refine Kd.N_append_rows k25 (w0 := w7_8) w.heap.size rfl (.tmp 128) (.tmp 130) 23 25 (.agg #[(.string ⟨#[]⟩), (.string ⟨#[]⟩), (.int .i64 0), (.int .i64 0), (.slice none 0 0)]) 72 rfl Tryd.underlying23 xDh rfl (by decide) (by decide) (.slice A8_4 1 c8_4) ((([] : List S25) ++ [first])) [(S25.mk xf0 xf1 xf2 xf3 xf4)] A7_8 1 c7_8 (fun k => w.heap.size ≤ k ∧ k ≠ w.heap.size ∧ k ≠ bn) (fun k => W9_4.heap.size ≤ k) rfl rfl ESp8.out.row (Kd.N_F HN7.out) ?hokp ?hfresh (Below.refl _ _) ?hbase (by first | omega | (simp; done) | (simp; omega)) ?_; (case hokp => intro k hk; have h1 := LT5.out.1; have h2 := LT5.out.2.1; have h3 := ESb4.out.rs.kb.1; exact ⟨⟨by omega, by omega, by omega⟩, fun e => by have := (LT5.out.2.2 k e.symm).1; omega⟩); (case hfresh => intro k hk; have h1 := ESp8.out.lt.1; have h2 := ESp8.out.lt.2.1; have h3 := ESp8.out.rs.kb.1; exact ⟨by omega, by omega, by omega⟩); (case hbase => exact ESp8.out.rs.kb.1); intro v8 w8_8 hN8 hb8 hg8 hat8; obtain ⟨A8_8, c8_8, hv8⟩ := Kd.N_slice hN8; rw [show ((([] : List S25) ++ [first]) ++ [(S25.mk xf0 xf1 xf2 xf3 xf4)]).length = 2 by simp] at hv8; subst hv8; have ESa8 := Aside0.mk (ESp8.out.append hN8 hg8); have hn4b := (xA4 (xBk ESp8.out.nb hg8 (fun e => (ESp8.out.lt.2.2 _ e.symm).2.2.2 rfl)) 4).trans rfl; have hf4b := xA5 (xBk ESp8.out.nb hg8 (fun e => (ESp8.out.lt.2.2 _ e.symm).2.2.2 rfl)) 4; clear hN8 hb8 hg8 hat8))
                    generalize hW9 : World.setCell w8_8 _ _ = W9_8
                    have ESb8 := Aside0.mk (show ExS w0 w W9_8 g T _ _ _ _ w.heap.size bn op ⟨#[]⟩ 0 pl (.slice A8_8 2 c8_8) ((([] : List S25) ++ [first]) ++ [(S25.mk xf0 xf1 xf2 xf3 xf4)]) from by rw [← hW9]; exact ESa8.out)
                    clear hW9 ESa8
                    clear hy0_0 hy0_1 hy0_2 hy0_3 hy0_4 hn4 hn4b hf4b HN7
                    go_upto_region 40 with (go_at_call 46; (with_reducible refine (xA8.calls g _ _ _ _ _ _ _ _ _ _ w0 _ ESb8.out.rs.is ESb8.out.rs.bel HRP.out).mono ?_); rintro e w_9 ⟨rfl, hi1, hb1, hk1⟩; have ES9 := Aside0.mk (ESb8.out.call hi1 hb1 hk1); clear hi1 hb1 hk1)
                    obtain ⟨hn0, hn1, hn2, hn3, hn4⟩ := ey5 ES9.out.nb
                    obtain ⟨hr0, hr1, hr2, hr3, hr4, hf0, hf1, hf2, hf3, hf4⟩ := ex5 ES9.out.r4
                    go_wp2
                    have RSz := ((((((((((ES9.out.rs).far (b := w.heap.size) (j := 0) (by have := GW.out; omega) (Nat.le_refl _) WW.out (.string op))).far (b := w.heap.size) (j := 1) (by have := GW.out; omega) (Nat.le_refl _) WW.out (.string ⟨#[]⟩))).far (b := w.heap.size) (j := 2) (by have := GW.out; omega) (Nat.le_refl _) WW.out (.int .i64 0))).far (b := w.heap.size) (j := 3) (by have := GW.out; omega) (Nat.le_refl _) WW.out (.int .i64 pl))).far (b := w.heap.size) (j := 4) (by have := GW.out; omega) (Nat.le_refl _) WW.out (.slice A8_8 2 c8_8))
                    have hNz := Kd.N_far (p := ⟨w.heap.size, 4, none⟩) (Kd.N_far (p := ⟨w.heap.size, 3, none⟩) (Kd.N_far (p := ⟨w.heap.size, 2, none⟩) (Kd.N_far (p := ⟨w.heap.size, 1, none⟩) (Kd.N_far (p := ⟨w.heap.size, 0, none⟩) ES9.out.row (fun k hk => hk.2.1) (.string op)) (fun k hk => hk.2.1) (.string ⟨#[]⟩)) (fun k hk => hk.2.1) (.int .i64 0)) (fun k hk => hk.2.1) (.int .i64 pl)) (fun k hk => hk.2.1) (.slice A8_8 2 c8_8)
                    refine bodyPost_ret (results_cell_row rfl _ _ w.heap.size 25 #[.string op, .string ⟨#[]⟩, .int .i64 0, .int .i64 pl, .slice A8_8 2 c8_8] (0, 0) _ rfl (xA1 (xA1 (xA1 (xA1 (xA1 ES9.out.r4 0 (.string op) rfl) 1 (.string ⟨#[]⟩) rfl) 2 (.int .i64 0) rfl) 3 (.int .i64 pl) rfl) 4 (.slice A8_8 2 c8_8) rfl) Tryd.underlying25 rfl (by kernel_rfl)) rfl ?_
                    exact ⟨_, rfl, Kd.N_mono hNz (fun k hk => hk.1), RSz.is, RSz.bel, RSz.kb⟩
                  · skip
                    have e3 : (op.toList == ([105, 110, 116, 101, 103, 114, 105, 116, 121] : List UInt8)) = false := beq_eq_false_iff_ne.2 hq4
                    have hq5 : op.toList = ([118, 101, 114, 105, 116, 121] : List UInt8) := by simpa [hq3, hq4] using hq2
                    have e4 : (op.toList == ([118, 101, 114, 105, 116, 121] : List UInt8)) = true := by rw [hq5]; rfl
                    clear hq2 hq3 hq4 hq5
                    obtain ⟨⟨p1, p2, p3, p4⟩, hHT1, htl⟩ := Option.bind_eq_some_iff.mp htl
                    try dsimp only at htl
                    have HT1 := Aside0.mk hHT1
                    clear hHT1
                    obtain ⟨⟨xf0, xf1, xf2, xf3, xf4, xi, xn, xb, xa⟩, hHT2, htl⟩ := Option.bind_eq_some_iff.mp htl
                    try dsimp only at htl
                    have HT2 := Aside0.mk hHT2
                    clear hHT2
                    simp only [Option.some.injEq, Prod.mk.injEq, xFi] at htl
                    obtain ⟨rfl, rfl, rfl, rfl, rfl⟩ := htl
                    have SZ5 := Aside0.mk (Nat.le_refl W9_4.heap.size)
                    have LT5 := Aside0.mk ESb4.out.lt
                    go_upto_region 37 with (go_at_call 46; (with_reducible refine (xA8.calls g _ _ _ _ _ _ _ _ _ _ w0 _ ESb4.out.rs.is ESb4.out.rs.bel HT1.out).mono ?_); rintro e w_6 ⟨rfl, hi1, hb1, hk1⟩; have ES6 := Aside0.mk (ESb4.out.call hi1 hb1 hk1); have SZ6 := Aside0.mk (Nat.le_trans SZ5.out hk1.1); clear hi1 hb1 hk1)
                    go_upto_region 38 with (first | (go_at_call 78; (with_reducible refine (xBe.calls k g _ _ _ _ _ _ _ _ _ _ _ _ _ _ w0 _ ES6.out.rs.is ES6.out.rs.bel HT2.out).mono ?_); rintro e w_7 ⟨v_7, rfl, hr1, hi1, hb1, hk1⟩; obtain ⟨A_7, c_7, rfl⟩ := Kd.R_slice hr1; have HV7 := Aside0.mk (Kd.N_mono (xE2 hr1) (fun k hk => Nat.le_trans SZ6.out hk)); have ES7 := Aside0.mk (ES6.out.call hi1 hb1 hk1); have SZ7 := Aside0.mk (Nat.le_trans SZ6.out hk1.1); clear hr1 hi1 hb1 hk1) | ((with_reducible refine xB0 (N := 13) rfl ?_); refine xB9 ?hg (N := 13) ?hd (cs := #[.string (⟨#[]⟩ : ByteArray), .string (⟨#[]⟩ : ByteArray), .int .i64 0, .int .i64 0, .slice none 0 0]) (t := 25) ?hr ?_; (case hd => rfl); (case hg => rfl); (case hr => first | (go_simp; done) | (go_simp; rfl)); intro gb_7 hg wb_7 hbox hb; have BX := Aside0.mk hb; have NB := Aside0.mk hbox; have HG := Aside0.mk hg; obtain ⟨c0, c1, c2, c3, c4, f0, f1, f2, f3, f4⟩ := ex5 hbox; clear hb hbox hg))
                    generalize hW : World.setCell (World.setCell (World.setCell (World.setCell (World.setCell wb_7 _ _) _ _) _ _) _ _) _ _ = W_7
                    have hge : w_7.heap.size ≤ gb_7 := Nat.le_of_eq HG.out.symm
                    have hb6 : Below w_7.heap.size w_7 W_7 := by
                      have hb := (((((BX.out.setCell (p := ⟨gb_7, 0, none⟩) hge (.string (S25.mk xf0 xf1 xf2 xf3 xf4).f0)).setCell (p := ⟨gb_7, 1, none⟩) hge (.string (S25.mk xf0 xf1 xf2 xf3 xf4).f1)).setCell (p := ⟨gb_7, 2, none⟩) hge (.int .i64 (S25.mk xf0 xf1 xf2 xf3 xf4).f2)).setCell (p := ⟨gb_7, 3, none⟩) hge (.int .i64 (S25.mk xf0 xf1 xf2 xf3 xf4).f3)).setCell (p := ⟨gb_7, 4, none⟩) hge (.slice A_7 (S25.mk xf0 xf1 xf2 xf3 xf4).f4.length c_7))
                      rw [hW] at hb
                      exact hb
                    have HXn7 := Aside0.mk (show W_7.heap[gb_7]? = some (.cells #[.string (S25.mk xf0 xf1 xf2 xf3 xf4).f0, .string (S25.mk xf0 xf1 xf2 xf3 xf4).f1, .int .i64 (S25.mk xf0 xf1 xf2 xf3 xf4).f2, .int .i64 (S25.mk xf0 xf1 xf2 xf3 xf4).f3, .slice A_7 (S25.mk xf0 xf1 xf2 xf3 xf4).f4.length c_7] 25 (0, 0)) by rw [← hW]; exact (xA1 (xA1 (xA1 (xA1 (xA1 NB.out 0 (.string (S25.mk xf0 xf1 xf2 xf3 xf4).f0) rfl) 1 (.string (S25.mk xf0 xf1 xf2 xf3 xf4).f1) rfl) 2 (.int .i64 (S25.mk xf0 xf1 xf2 xf3 xf4).f2) rfl) 3 (.int .i64 (S25.mk xf0 xf1 xf2 xf3 xf4).f3) rfl) 4 (.slice A_7 (S25.mk xf0 xf1 xf2 xf3 xf4).f4.length c_7) rfl))
                    have ESn7 := Aside0.mk (ES7.out.below hb6)
                    have HVn7 := Aside0.mk (Kd.N_below HV7.out hb6)
                    have GEn7 := Aside0.mk (show w.heap.size ≤ gb_7 from Nat.le_trans ES7.out.rs.kb.1 hge)
                    have SZn7 := Aside0.mk (Nat.le_trans SZ7.out hb6.size)
                    clear hW BX NB HG c0 c1 c2 c3 c4 f0 f1 f2 f3 f4 hb6 hge
                    obtain ⟨hy0_0, hy0_1, hy0_2, hy0_3, hy0_4⟩ := ey5 HXn7.out
                    have hn4 := (xA4 ESn7.out.nb 4).trans rfl
                    go_upto_region 39 with (first | ((with_reducible refine xB0 (N := 130) rfl ?_); refine Kd.N_lit k25 (w0 := W_7) W_7.heap.size 25 rfl (N' := 130) rfl (xs := [(S25.mk xf0 xf1 xf2 xf3 xf4)]) (inner := [.string (S25.mk xf0 xf1 xf2 xf3 xf4).f0, .string (S25.mk xf0 xf1 xf2 xf3 xf4).f1, .int .i64 (S25.mk xf0 xf1 xf2 xf3 xf4).f2, .int .i64 (S25.mk xf0 xf1 xf2 xf3 xf4).f3, .slice A_7 (S25.mk xf0 xf1 xf2 xf3 xf4).f4.length c_7]) (ok := (fun k => W9_4.heap.size ≤ k)) (okp := (fun k => W9_4.heap.size ≤ k)) ?hr ((Reps.none _ _).snoc (xDs HVn7.out) rfl) (fun _ hk => hk) ?hf (Below.refl _ _) (Nat.le_refl _) (by show 1 ≤ 9223372036854775807; decide) ?_; (case hr => first | (go_simp; done) | (go_simp; rfl)); (case hf => exact SZn7.out); intro v7 w7_8 hN7 hb7 hg7 hat7; obtain ⟨A7_8, c7_8, rfl⟩ := Kd.N_slice hN7; have ESp8 := Aside0.mk (ESn7.out.below hb7); have HN7 := Aside0.mk hN7; clear hN7 hb7 hg7 hat7) | ((with_reducible refine xCh (b := .append) (xs := #[.tmp 128, .tmp 130]) rfl ?_); (try (refine xCi (by rfl) ?_; dsimp only)); at_builtin; refine Kd.N_append_rows k25 (w0 := w7_8) w.heap.size rfl (.tmp 128) (.tmp 130) 23 25 (.agg #[(.string ⟨#[]⟩), (.string ⟨#[]⟩), (.int .i64 0), (.int .i64 0), (.slice none 0 0)]) 72 rfl Tryd.underlying23 xDh rfl (by decide) (by decide) (.slice A8_4 1 c8_4) ((([] : List S25) ++ [first])) [(S25.mk xf0 xf1 xf2 xf3 xf4)] A7_8 1 c7_8 (fun k => w.heap.size ≤ k ∧ k ≠ w.heap.size ∧ k ≠ bn) (fun k => W9_4.heap.size ≤ k) rfl rfl ESp8.out.row (Kd.N_F HN7.out) ?hokp ?hfresh (Below.refl _ _) ?hbase (by first | omega | (simp; done) | (simp; omega)) ?_; (case hokp => intro k hk; have h1 := LT5.out.1; have h2 := LT5.out.2.1; have h3 := ESb4.out.rs.kb.1; exact ⟨⟨by omega, by omega, by omega⟩, fun e => by have := (LT5.out.2.2 k e.symm).1; omega⟩); (case hfresh => intro k hk; have h1 := ESp8.out.lt.1; have h2 := ESp8.out.lt.2.1; have h3 := ESp8.out.rs.kb.1; exact ⟨by omega, by omega, by omega⟩); (case hbase => exact ESp8.out.rs.kb.1); intro v8 w8_8 hN8 hb8 hg8 hat8; obtain ⟨A8_8, c8_8, hv8⟩ := Kd.N_slice hN8; rw [show ((([] : List S25) ++ [first]) ++ [(S25.mk xf0 xf1 xf2 xf3 xf4)]).length = 2 by simp] at hv8; subst hv8; have ESa8 := Aside0.mk (ESp8.out.append hN8 hg8); have hn4b := (xA4 (xBk ESp8.out.nb hg8 (fun e => (ESp8.out.lt.2.2 _ e.symm).2.2.2 rfl)) 4).trans rfl; have hf4b := xA5 (xBk ESp8.out.nb hg8 (fun e => (ESp8.out.lt.2.2 _ e.symm).2.2.2 rfl)) 4; clear hN8 hb8 hg8 hat8))
                    generalize hW9 : World.setCell w8_8 _ _ = W9_8
                    have ESb8 := Aside0.mk (show ExS w0 w W9_8 g T _ _ _ _ w.heap.size bn op ⟨#[]⟩ 0 pl (.slice A8_8 2 c8_8) ((([] : List S25) ++ [first]) ++ [(S25.mk xf0 xf1 xf2 xf3 xf4)]) from by rw [← hW9]; exact ESa8.out)
                    clear hW9 ESa8
                    clear hy0_0 hy0_1 hy0_2 hy0_3 hy0_4 hn4 hn4b hf4b HN7
                    go_upto_region 40 with (go_at_call 46; (with_reducible refine (xA8.calls g _ _ _ _ _ _ _ _ _ _ w0 _ ESb8.out.rs.is ESb8.out.rs.bel HRP.out).mono ?_); rintro e w_9 ⟨rfl, hi1, hb1, hk1⟩; have ES9 := Aside0.mk (ESb8.out.call hi1 hb1 hk1); clear hi1 hb1 hk1)
                    obtain ⟨hn0, hn1, hn2, hn3, hn4⟩ := ey5 ES9.out.nb
                    obtain ⟨hr0, hr1, hr2, hr3, hr4, hf0, hf1, hf2, hf3, hf4⟩ := ex5 ES9.out.r4
                    go_wp2
                    have RSz := ((((((((((ES9.out.rs).far (b := w.heap.size) (j := 0) (by have := GW.out; omega) (Nat.le_refl _) WW.out (.string op))).far (b := w.heap.size) (j := 1) (by have := GW.out; omega) (Nat.le_refl _) WW.out (.string ⟨#[]⟩))).far (b := w.heap.size) (j := 2) (by have := GW.out; omega) (Nat.le_refl _) WW.out (.int .i64 0))).far (b := w.heap.size) (j := 3) (by have := GW.out; omega) (Nat.le_refl _) WW.out (.int .i64 pl))).far (b := w.heap.size) (j := 4) (by have := GW.out; omega) (Nat.le_refl _) WW.out (.slice A8_8 2 c8_8))
                    have hNz := Kd.N_far (p := ⟨w.heap.size, 4, none⟩) (Kd.N_far (p := ⟨w.heap.size, 3, none⟩) (Kd.N_far (p := ⟨w.heap.size, 2, none⟩) (Kd.N_far (p := ⟨w.heap.size, 1, none⟩) (Kd.N_far (p := ⟨w.heap.size, 0, none⟩) ES9.out.row (fun k hk => hk.2.1) (.string op)) (fun k hk => hk.2.1) (.string ⟨#[]⟩)) (fun k hk => hk.2.1) (.int .i64 0)) (fun k hk => hk.2.1) (.int .i64 pl)) (fun k hk => hk.2.1) (.slice A8_8 2 c8_8)
                    refine bodyPost_ret (results_cell_row rfl _ _ w.heap.size 25 #[.string op, .string ⟨#[]⟩, .int .i64 0, .int .i64 pl, .slice A8_8 2 c8_8] (0, 0) _ rfl (xA1 (xA1 (xA1 (xA1 (xA1 ES9.out.r4 0 (.string op) rfl) 1 (.string ⟨#[]⟩) rfl) 2 (.int .i64 0) rfl) 3 (.int .i64 pl) rfl) 4 (.slice A8_8 2 c8_8) rfl) Tryd.underlying25 rfl (by kernel_rfl)) rfl ?_
                    exact ⟨_, rfl, Kd.N_mono hNz (fun k hk => hk.1), RSz.is, RSz.bel, RSz.kb⟩
              · skip
                rw [if_neg hq2] at htl
                obtain ⟨hq3, hq4, hq5⟩ : ¬ op.toList = ([99, 114, 121, 112, 116] : List UInt8) ∧ ¬ op.toList = ([105, 110, 116, 101, 103, 114, 105, 116, 121] : List UInt8) ∧ ¬ op.toList = ([118, 101, 114, 105, 116, 121] : List UInt8) := ⟨fun h => hq2 (.inl h), fun h => hq2 (.inr (.inl h)), fun h => hq2 (.inr (.inr h))⟩
                have e2 : (op.toList == ([99, 114, 121, 112, 116] : List UInt8)) = false := beq_eq_false_iff_ne.2 hq3
                have e3 : (op.toList == ([105, 110, 116, 101, 103, 114, 105, 116, 121] : List UInt8)) = false := beq_eq_false_iff_ne.2 hq4
                have e4 : (op.toList == ([118, 101, 114, 105, 116, 121] : List UInt8)) = false := beq_eq_false_iff_ne.2 hq5
                clear hq2 hq3 hq4 hq5
                obtain ⟨⟨more, p1, p2, p3, p4⟩, hHT1, htl⟩ := Option.bind_eq_some_iff.mp htl
                try dsimp only at htl
                have HT1 := Aside0.mk hHT1
                clear hHT1
                have HTL := Aside0.mk htl
                clear htl
                go_upto_block 1 with (go_at_call 42; (with_reducible refine (xAi.calls g _ _ _ _ _ _ _ _ _ _ _ w0 _ ESb4.out.rs.is ESb4.out.rs.bel HT1.out).mono ?_); rintro e w_l ⟨rfl, hi1, hb1, hk1⟩; have ESl := Aside0.mk (ESb4.out.call hi1 hb1 hk1); clear hi1 hb1 hk1)
                go_wp2_with (fail)
                go_loopg [14] k (fun kx v14 wr => ∃ (kk : Nat) (ii nn bb aa : Int) (acc : List S25) (Lv : Value) (mo : Bool), kk ≤ kx ∧ kk ≤ k ∧ v14 = .bool mo ∧ Aside0 (ExS w0 w wr g T ii nn bb aa w.heap.size bn op ⟨#[]⟩ 0 pl Lv acc) ∧ Aside0 (rexprs kk T ii nn bb aa nest acc mo = some (L, i5, n5, b5, a5)))
                case atStart => exact ⟨k, _, _, _, _, _, _, _, Nat.le_refl _, Nat.le_refl _, rfl, ESl, HTL⟩
                case round =>
                  clear ESl HTL ESb4
                  obtain ⟨kk, ii, nn, bb, aa, acc, Lv, mo, hk1, hk2, rfl, EL, HL⟩ := hrel
                  cases kk with
                  | zero => exact absurd HL.out (by rw [rexprs]; simp)
                  | succ kk =>
                    have hl := HL.out
                    rw [rexprs] at hl
                    obtain ⟨AL, cL, rfl⟩ := Kd.N_slice EL.out.row
                    cases mo with
                    | false =>
                      rw [if_neg (by decide)] at hl
                      simp only [Option.some.injEq, Prod.mk.injEq] at hl
                      obtain ⟨rfl, rfl, rfl, rfl, rfl⟩ := hl
                      go_upto_region 40 with (go_at_call 46; (with_reducible refine (xA8.calls g _ _ _ _ _ _ _ _ _ _ w0 _ EL.out.rs.is EL.out.rs.bel HRP.out).mono ?_); rintro e w_5 ⟨rfl, hi1, hb1, hk1⟩; have ES5 := Aside0.mk (EL.out.call hi1 hb1 hk1); clear hi1 hb1 hk1)
                      obtain ⟨hn0, hn1, hn2, hn3, hn4⟩ := ey5 ES5.out.nb
                      obtain ⟨hr0, hr1, hr2, hr3, hr4, hf0, hf1, hf2, hf3, hf4⟩ := ex5 ES5.out.r4
                      go_wp2
                      have RSz := ((((((((((ES5.out.rs).far (b := w.heap.size) (j := 0) (by have := GW.out; omega) (Nat.le_refl _) WW.out (.string op))).far (b := w.heap.size) (j := 1) (by have := GW.out; omega) (Nat.le_refl _) WW.out (.string ⟨#[]⟩))).far (b := w.heap.size) (j := 2) (by have := GW.out; omega) (Nat.le_refl _) WW.out (.int .i64 0))).far (b := w.heap.size) (j := 3) (by have := GW.out; omega) (Nat.le_refl _) WW.out (.int .i64 pl))).far (b := w.heap.size) (j := 4) (by have := GW.out; omega) (Nat.le_refl _) WW.out (.slice AL acc.length cL))
                      have hNz := Kd.N_far (p := ⟨w.heap.size, 4, none⟩) (Kd.N_far (p := ⟨w.heap.size, 3, none⟩) (Kd.N_far (p := ⟨w.heap.size, 2, none⟩) (Kd.N_far (p := ⟨w.heap.size, 1, none⟩) (Kd.N_far (p := ⟨w.heap.size, 0, none⟩) ES5.out.row (fun k hk => hk.2.1) (.string op)) (fun k hk => hk.2.1) (.string ⟨#[]⟩)) (fun k hk => hk.2.1) (.int .i64 0)) (fun k hk => hk.2.1) (.int .i64 pl)) (fun k hk => hk.2.1) (.slice AL acc.length cL)
                      refine bodyPost_ret (results_cell_row rfl _ _ w.heap.size 25 #[.string op, .string ⟨#[]⟩, .int .i64 0, .int .i64 pl, .slice AL acc.length cL] (0, 0) _ rfl (xA1 (xA1 (xA1 (xA1 (xA1 ES5.out.r4 0 (.string op) rfl) 1 (.string ⟨#[]⟩) rfl) 2 (.int .i64 0) rfl) 3 (.int .i64 pl) rfl) 4 (.slice AL acc.length cL) rfl) Tryd.underlying25 rfl (by kernel_rfl)) rfl ?_
                      exact ⟨_, rfl, Kd.N_mono hNz (fun k hk => hk.1), RSz.is, RSz.bel, RSz.kb⟩
                    | true =>
                      rw [if_pos rfl] at hl
                      by_cases hb : 0 ≤ ii ∧ ii ≤ 1000000 ∧ acc.length ≤ 1000000
                      · skip
                        rw [if_pos hb] at hl
                        obtain ⟨hb1, hb2, hb3⟩ := hb
                        obtain ⟨⟨x, x1, x2, x3, x4⟩, hHT1, hl⟩ := Option.bind_eq_some_iff.mp hl
                        try dsimp only at hl
                        have HT1 := Aside0.mk hHT1
                        clear hHT1
                        obtain ⟨⟨mo, y1, y2, y3, y4⟩, hHT2, hl⟩ := Option.bind_eq_some_iff.mp hl
                        try dsimp only at hl
                        have HT2 := Aside0.mk hHT2
                        clear hHT2
                        have HL2 := Aside0.mk hl
                        clear hl HL
                        obtain ⟨A1, c1, hblk, hge, hC⟩ := EL.out.rs.is
                        have x1_ := xBz hblk
                        have z1 := xA5 hblk 1
                        clear hblk hge hC
                        go_upto_region 18 with (fail)
                        generalize hW : World.setCell wr _ _ = W3c
                        have EL1 := Aside0.mk (show ExS w0 w W3c g T (ii + 1) nn bb aa w.heap.size bn op ⟨#[]⟩ 0 pl (.slice AL acc.length cL) acc from by rw [← hW]; exact EL.out.setI _)
                        clear hW x1_ z1
                        have SZ5 := Aside0.mk (Nat.le_refl W3c.heap.size)
                        have LT5 := Aside0.mk EL1.out.lt
                        go_upto_region 19 with (first | (go_at_call 47; (with_reducible refine ((IH.out kk (Nat.le_of_succ_le hk2)).use g _ _ _ _ _ _ _ _ _ _ _ w0 _ EL1.out.rs.is EL1.out.rs.bel HT1.out).mono ?_); rintro e w_6 ⟨v_6, rfl, hr1, hi1, hb1, hk1⟩; obtain ⟨A_6, c_6, rfl⟩ := Kd.N_slice hr1; have HV6 := Aside0.mk (Kd.N_mono (hr1) (fun k hk => Nat.le_trans SZ5.out hk)); have ES6 := Aside0.mk (EL1.out.call hi1 hb1 hk1); have SZ6 := Aside0.mk (Nat.le_trans SZ5.out hk1.1); clear hr1 hi1 hb1 hk1) | ((with_reducible refine xB0 (N := 15) rfl ?_); refine xB9 ?hg (N := 15) ?hd (cs := #[.string (⟨#[]⟩ : ByteArray), .string (⟨#[]⟩ : ByteArray), .int .i64 0, .int .i64 0, .slice none 0 0]) (t := 25) ?hr ?_; (case hd => rfl); (case hg => rfl); (case hr => first | (go_simp; done) | (go_simp; rfl)); intro gb_6 hg wb_6 hbox hb; have BX := Aside0.mk hb; have NB := Aside0.mk hbox; have HG := Aside0.mk hg; obtain ⟨c0, c1, c2, c3, c4, f0, f1, f2, f3, f4⟩ := ex5 hbox; clear hb hbox hg))
                        generalize hW : World.setCell (World.setCell (World.setCell (World.setCell (World.setCell wb_6 _ _) _ _) _ _) _ _) _ _ = W_6
                        have hge : w_6.heap.size ≤ gb_6 := Nat.le_of_eq HG.out.symm
                        have hb6 : Below w_6.heap.size w_6 W_6 := by
                          have hb := (((((BX.out.setCell (p := ⟨gb_6, 0, none⟩) hge (.string x.f0)).setCell (p := ⟨gb_6, 1, none⟩) hge (.string x.f1)).setCell (p := ⟨gb_6, 2, none⟩) hge (.int .i64 x.f2)).setCell (p := ⟨gb_6, 3, none⟩) hge (.int .i64 x.f3)).setCell (p := ⟨gb_6, 4, none⟩) hge (.slice A_6 x.f4.length c_6))
                          rw [hW] at hb
                          exact hb
                        have HXn6 := Aside0.mk (show W_6.heap[gb_6]? = some (.cells #[.string x.f0, .string x.f1, .int .i64 x.f2, .int .i64 x.f3, .slice A_6 x.f4.length c_6] 25 (0, 0)) by rw [← hW]; exact (xA1 (xA1 (xA1 (xA1 (xA1 NB.out 0 (.string x.f0) rfl) 1 (.string x.f1) rfl) 2 (.int .i64 x.f2) rfl) 3 (.int .i64 x.f3) rfl) 4 (.slice A_6 x.f4.length c_6) rfl))
                        have ESn6 := Aside0.mk (ES6.out.below hb6)
                        have HVn6 := Aside0.mk (Kd.N_below HV6.out hb6)
                        have GEn6 := Aside0.mk (show w.heap.size ≤ gb_6 from Nat.le_trans ES6.out.rs.kb.1 hge)
                        have SZn6 := Aside0.mk (Nat.le_trans SZ6.out hb6.size)
                        clear hW BX NB HG c0 c1 c2 c3 c4 f0 f1 f2 f3 f4 hb6 hge
                        obtain ⟨hy0_0, hy0_1, hy0_2, hy0_3, hy0_4⟩ := ey5 HXn6.out
                        have hn4 := (xA4 ESn6.out.nb 4).trans rfl
                        go_upto_region 20 with (first | ((with_reducible refine xB0 (N := 78) rfl ?_); refine Kd.N_lit k25 (w0 := W_6) W_6.heap.size 25 rfl (N' := 78) rfl (xs := [x]) (inner := [.string x.f0, .string x.f1, .int .i64 x.f2, .int .i64 x.f3, .slice A_6 x.f4.length c_6]) (ok := (fun k => W3c.heap.size ≤ k)) (okp := (fun k => W3c.heap.size ≤ k)) ?hr ((Reps.none _ _).snoc (xDs HVn6.out) rfl) (fun _ hk => hk) ?hf (Below.refl _ _) (Nat.le_refl _) (by show 1 ≤ 9223372036854775807; decide) ?_; (case hr => first | (go_simp; done) | (go_simp; rfl)); (case hf => exact SZn6.out); intro v7 w7_7 hN7 hb7 hg7 hat7; obtain ⟨A7_7, c7_7, rfl⟩ := Kd.N_slice hN7; have ESp7 := Aside0.mk (ESn6.out.below hb7); have HN7 := Aside0.mk hN7; clear hN7 hb7 hg7 hat7) | ((with_reducible refine xCh (b := .append) (xs := #[.tmp 76, .tmp 78]) rfl ?_); (try (refine xCi (by rfl) ?_; dsimp only)); at_builtin; refine Kd.N_append_rows k25 (w0 := w7_7) w.heap.size rfl (.tmp 76) (.tmp 78) 23 25 (.agg #[(.string ⟨#[]⟩), (.string ⟨#[]⟩), (.int .i64 0), (.int .i64 0), (.slice none 0 0)]) 72 rfl Tryd.underlying23 xDh rfl (by decide) (by decide) (.slice AL acc.length cL) (acc) [x] A7_7 1 c7_7 (fun k => w.heap.size ≤ k ∧ k ≠ w.heap.size ∧ k ≠ bn) (fun k => W3c.heap.size ≤ k) rfl rfl ESp7.out.row (Kd.N_F HN7.out) ?hokp ?hfresh (Below.refl _ _) ?hbase (by first | omega | (simp; done) | (simp; omega)) ?_; (case hokp => intro k hk; have h1 := LT5.out.1; have h2 := LT5.out.2.1; have h3 := EL1.out.rs.kb.1; exact ⟨⟨by omega, by omega, by omega⟩, fun e => by have := (LT5.out.2.2 k e.symm).1; omega⟩); (case hfresh => intro k hk; have h1 := ESp7.out.lt.1; have h2 := ESp7.out.lt.2.1; have h3 := ESp7.out.rs.kb.1; exact ⟨by omega, by omega, by omega⟩); (case hbase => exact ESp7.out.rs.kb.1); intro v8 w8_7 hN8 hb8 hg8 hat8; obtain ⟨A8_7, c8_7, hv8⟩ := Kd.N_slice hN8; rw [show (acc ++ [x]).length = (acc.length + 1) by simp] at hv8; subst hv8; have ESa7 := Aside0.mk (ESp7.out.append hN8 hg8); have hn4b := (xA4 (xBk ESp7.out.nb hg8 (fun e => (ESp7.out.lt.2.2 _ e.symm).2.2.2 rfl)) 4).trans rfl; have hf4b := xA5 (xBk ESp7.out.nb hg8 (fun e => (ESp7.out.lt.2.2 _ e.symm).2.2.2 rfl)) 4; clear hN8 hb8 hg8 hat8))
                        generalize hW9 : World.setCell w8_7 _ _ = W9_7
                        have ESb7 := Aside0.mk (show ExS w0 w W9_7 g T _ _ _ _ w.heap.size bn op ⟨#[]⟩ 0 pl (.slice A8_7 (acc.length + 1) c8_7) (acc ++ [x]) from by rw [← hW9]; exact ESa7.out)
                        clear hW9 ESa7
                        clear hy0_0 hy0_1 hy0_2 hy0_3 hy0_4 hn4 hn4b hf4b HN7
                        go_wp2_with (go_at_call 42; (with_reducible refine (xAi.calls g _ _ _ _ _ _ _ _ _ _ _ w0 _ ESb7.out.rs.is ESb7.out.rs.bel HT2.out).mono ?_); rintro e w_l ⟨rfl, hi1, hb1, hk1_⟩; have ESl := Aside0.mk (ESb7.out.call hi1 hb1 hk1_); clear hi1 hb1 hk1_)
                        go_roundg kk
                        case rel => exact ⟨kk, _, _, _, _, _, _, _, Nat.le_refl _, Nat.le_of_succ_le hk2, rfl, ESl, HL2⟩
                        case measure => omega
                      · rw [if_neg hb] at hl
                        cases hl
        · rw [if_neg hi] at h
          cases h
    · rw [if_neg hb] at h
      simp only [Option.some.injEq, Prod.mk.injEq] at h
      obtain ⟨rfl, rfl⟩ := h
      have db : (b1 != 0) = true := by simpa using hb
      obtain ⟨hr0, hr1, hr2, hr3, hr4, hf0, hf1, hf2, hf3, hf4⟩ := ex5 HR1.out
      go_wp2
      have RSz := ((((((((((RS1.out).far (b := w.heap.size) (j := 0) (by have := GW.out; omega) (Nat.le_refl _) WW.out (.string ⟨#[]⟩))).far (b := w.heap.size) (j := 1) (by have := GW.out; omega) (Nat.le_refl _) WW.out (.string ⟨#[]⟩))).far (b := w.heap.size) (j := 2) (by have := GW.out; omega) (Nat.le_refl _) WW.out (.int .i64 0))).far (b := w.heap.size) (j := 3) (by have := GW.out; omega) (Nat.le_refl _) WW.out (.int .i64 0))).far (b := w.heap.size) (j := 4) (by have := GW.out; omega) (Nat.le_refl _) WW.out (.slice none 0 0))
      refine bodyPost_ret (results_cell_row rfl _ _ w.heap.size 25 #[.string ⟨#[]⟩, .string ⟨#[]⟩, .int .i64 0, .int .i64 0, .slice none 0 0] (0, 0) _ rfl (xA1 ((xA1 ((xA1 ((xA1 ((xA1 (HR1.out) 0 (.string ⟨#[]⟩) rfl)) 1 (.string ⟨#[]⟩) rfl)) 2 (.int .i64 0) rfl)) 3 (.int .i64 0) rfl)) 4 (.slice none 0 0) rfl) Tryd.underlying25 rfl (by kernel_rfl)) rfl ?_
      exact ⟨_, rfl, Kd.N_nil _ _ _ _ _, RSz.is, RSz.bel, RSz.kb⟩
end Go.Proofs.YtknbfhhmjbnemaaDoor.P
end
