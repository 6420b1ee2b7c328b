/- Proved here, for the claim of parsePrints_holds: that the law holds: the texts of this work, one behind the other, laid by a program of this session. Conditions: none beside the statement's own. -/
import Derived.Test.YtknbfhhmjbnemaaDoorMP4
import Derived.Test.YtknbfhhmjbnemaaDoorMPPrintsB
import Derived.Test.YtknbfhhmjbnemaaDoorProg
import Derived.ReadAgain
import Derived.ChangeOld
import Derived.Below
import Derived.KernelRfl
import Derived.Test.YtknbfhhmjbnemaaDoorTie
import Derived.Test.YtknbfhhmjbnemaaDoorCards
import Derived.SevenTiedAt
set_option linter.unusedVariables false
set_option linter.unusedSimpArgs false
section
namespace Go.Proofs.YtknbfhhmjbnemaaDoor.P
open Go.RowKit Go.Proofs.YtknbfhhmjbnemaaDoorW.PrintWords Go.Proofs.YtknbfhhmjbnemaaDoorW.PrintLast Go.Proofs.YtknbfhhmjbnemaaDoorW.PrintMore Go.Proofs.YtknbfhhmjbnemaaDoor.Pure

/-! the law ParsePrints walked -/
set_option maxHeartbeats 8000000 in
set_option maxRecDepth 100000 in
theorem prints_calls (n : S25) (A : Option Addr) (c : Nat) (m : Int) (w : World) (hC : Kd.C k25 w A n.f4.length n.f4) (hc : n.f4.length ≤ c) (hz : Szd n) (hm : w.cell? ⟨0, 0, none⟩ = some (.int .i64 m)) (ht : TabW w) :
  Calls Tryd.prog 5 #[.agg #[.string n.f0, .string n.f1, .int .i64 n.f2, .int .i64 n.f3, .slice A n.f4.length c]] w (LawEnd w) := by
 have hu25 := Tryd.underlying25
 have LW0 := Aside0.mk (show LawW m w w from ⟨hm, ht, Below.refl _ _⟩)
 have HC := Aside0.mk (And.intro hc hC)
 have HZ := Aside0.mk hz
 clear hm ht hC hc hz
 go_enter Tryd.func5, Tryd.ntmps5
 go_upto_region 1 with (fail)
 generalize hW : World.alloc w _ = W0
 have X0 := Aside0.mk (show NodeB W0 w.heap.size n A c from by rw [← hW]; exact NodeB.new HC.out.1 HC.out.2)
 have LW1 := Aside0.mk (show LawW m w W0 from by rw [← hW]; exact LW0.out.alloc _)
 clear hW LW0
 obtain ⟨r, K, hp, hr1, hr2, hr3⟩ := xHo (SizeOf.sizeOf n) n (Nat.le_refl _) 300 (by omega) (by omega)
 have HP := Aside0.mk (hp K (Nat.le_refl _))
 clear hp
 obtain ⟨y0, y1, y2, y3, y4⟩ := ey5 X0.out.blk
 by_cases hr : r > 300
 case pos =>
  have d1 : decide (r > 300) = true := decide_eq_true hr
  have d2 : decide (300 < r) = true := decide_eq_true hr
  clear hr hr1 hr2 hr3
  go_wp2_with (first | (go_at_call 12; (with_reducible refine (xAw.calls K _ _ _ _ A c _ 300 r _ X0.out.hC X0.out.hc HP.out).mono ?_); rintro e w1 ⟨rfl, h1⟩; have LW2 := Aside0.mk (LW1.out.below h1); have X1 := Aside0.mk (X0.out.below h1); clear h1) | (go_at_call 8; (with_reducible refine (xKs LW2.out).mono ?_); rintro e w9 ⟨rfl, h1, h2⟩; have LW9 := Aside0.mk h1; clear h1 h2))
  go_ret
  exact ⟨rfl, LW9.out.bel⟩
 have d1 : decide (r > 300) = false := decide_eq_false hr
 have d2 : decide (300 < r) = false := decide_eq_false hr
 have hsm : Sm n := sm_of HZ.out (fun j => (hr3 (by omega) j).2)
 obtain ⟨b, ⟨s, er⟩, K1, hps⟩ := xJj hsm (by have := (hr3 (by omega) 15).1; omega)
 have HPS := Aside0.mk (hps K1 (Nat.le_refl _))
 clear hr hr1 hr2 hr3 hsm hps HZ
 go_upto_region 3 with (go_at_call 12; (with_reducible refine (xAw.calls K _ _ _ _ A c _ 300 r _ X0.out.hC X0.out.hc HP.out).mono ?_); rintro e w1 ⟨rfl, h1⟩; have LW2 := Aside0.mk (LW1.out.below h1); have X1 := Aside0.mk (X0.out.below h1); clear h1)
 clear y0 y1 y2 y3 y4
 obtain ⟨y0, y1, y2, y3, y4⟩ := ey5 X1.out.blk
 go_upto_region 4 with (go_at_call 13; (with_reducible refine (xGc K1 n A c s er m _ X1.out.hc X1.out.hC LW2.out.hm LW2.out.ht HPS.out.2.2.1).mono ?_); rintro e w2 ⟨rfl, h1⟩; have LW3 := Aside0.mk (LW2.out.below h1); have X2 := Aside0.mk (X1.out.below h1); clear h1)
 clear y0 y1 y2 y3 y4
 obtain ⟨y0, y1, y2, y3, y4⟩ := ey5 X2.out.blk
 go_upto_region 5 with (go_at_call 14; (with_reducible refine (xAc.calls K1 _ _ _ _ A c _ s er _ X2.out.hC X2.out.hc HPS.out.2.2.2).mono ?_); rintro e w3 ⟨rfl, h1⟩; have LW4 := Aside0.mk (LW3.out.below h1); have X3 := Aside0.mk (X2.out.below h1); clear h1)
 clear y0 y1 y2 y3 y4
 have X4 := Aside0.mk (X3.out.below (xCe (Below.refl _ _)))
 have LW5 := Aside0.mk (LW4.out.below (xCe (Below.refl _ _)))
 clear X3 LW4
 obtain ⟨y0, y1, y2, y3, y4⟩ := ey5 X4.out.blk
 refine xDa (n := 19) (S := fun w' => w'.cell? ⟨w.heap.size, 0, none⟩ = some (.string n.f0) ∧ w'.cell? ⟨w.heap.size, 1, none⟩ = some (.string n.f1) ∧ w'.cell? ⟨w.heap.size, 2, none⟩ = some (.int .i64 n.f2) ∧ w'.cell? ⟨w.heap.size, 3, none⟩ = some (.int .i64 n.f3) ∧ w'.cell? ⟨w.heap.size, 4, none⟩ = some (.slice A n.f4.length c)) (ds := []) #[false, false, false, false, false, false, false, false, false, false, false, false, false, false, false, false, false, false, false] (by kernel_rfl) rfl rfl ?hS (fun hHeld => ?_)
 case hS => exact ⟨y0, y1, y2, y3, y4⟩
 generalize World.drew w3 = Wd at *
 clear y0 y1 y2 y3 y4
 refine one_ (i := 0) (N := some 21) #[true, false, false, false, false, false, false, false, false, false, false, false, false, false, false, false, false, false, false] rfl rfl (by kernel_rfl) (by decide) (fun K hK => ?_)
 refine xF6 Tryd.func8 (by kernel_rfl) rfl #[] (by rfl) rfl rfl (by first | rfl | (simp [Act.eval]; done) | (go_simp; done)) ?_
 refine ((xFu m Wd LW5.out.hm LW5.out.ht)).mono ?_
 rintro e w4 ⟨rfl, h1⟩
 have X5 := Aside0.mk (X4.out.below h1)
 have LW6 := Aside0.mk (LW5.out.below h1)
 clear h1
 refine ⟨_, rfl, ?_⟩
 try clear hHeld
 refine hK.out _ _ ⟨((xAb X5.out.blk 0).trans rfl), ((xAb X5.out.blk 1).trans rfl), ((xAb X5.out.blk 2).trans rfl), ((xAb X5.out.blk 3).trans rfl), ((xAb X5.out.blk 4).trans rfl)⟩ (fun hHeld => ?_)
 clear hK K
 refine xCm (a' := ?_) ?_ ?_
 rotate_left
 ·show Act.put _ (some 21) _ = _
  simp only [Act.put, List.setIfInBounds_toArray, List.set_cons_zero, List.set_cons_succ, xB0, xB1]
  rfl
 refine xBy (i := 1) (N := some 22) (v := ?_) (a' := ?_) #[true, true, false, false, false, false, false, false, false, false, false, false, false, false, false, false, false, false, false] rfl rfl (by kernel_rfl) (fun _ _ _ h => h) (Or.inl ⟨by rfl, ?_⟩) ?_ ?_
 rotate_left
 ·intro w'
  go_simp
  with_reducible rfl
 rotate_left
 ·simp only [Act.put, List.setIfInBounds_toArray, List.set_cons_zero, List.set_cons_succ, xB0, xB1]
  rfl
 refine xCr (i := 2) (N := some 23) (v := ?_) (a' := ?_) #[true, true, true, false, false, false, false, false, false, false, false, false, false, false, false, false, false, false, false] rfl rfl (by kernel_rfl) (fun _ _ _ h => h) (Or.inl ⟨by rfl, ?_⟩) hHeld ?_ ?_
 rotate_left
 ·rintro w' ⟨s0, s1, s2, s3, s4⟩
  go_simp
  with_reducible rfl
 rotate_left
 ·simp only [Act.put, List.setIfInBounds_toArray, List.set_cons_zero, List.set_cons_succ, xB0, xB1]
  rfl
 refine xCr (i := 4) (N := some 25) (v := ?_) (a' := ?_) #[true, true, true, false, true, false, false, false, false, false, false, false, false, false, false, false, false, false, false] rfl rfl (by kernel_rfl) (fun _ _ _ h => h) (Or.inl ⟨by rfl, ?_⟩) hHeld ?_ ?_
 rotate_left
 ·rintro w' ⟨s0, s1, s2, s3, s4⟩
  go_simp
  with_reducible rfl
 rotate_left
 ·simp only [Act.put, List.setIfInBounds_toArray, List.set_cons_zero, List.set_cons_succ, xB0, xB1]
  rfl
 refine one_ (i := 3) (N := some 24) #[true, true, true, true, true, false, false, false, false, false, false, false, false, false, false, false, false, false, false] rfl rfl (by kernel_rfl) (by decide) (fun K hK => ?_)
 refine xF6 Tryd.func15 (by kernel_rfl) rfl #[.agg #[.string n.f0, .string n.f1, .int .i64 n.f2, .int .i64 n.f3, .slice A n.f4.length c]] (by rfl) rfl rfl (by first | rfl | (simp [Act.eval]; done) | (go_simp; done)) ?_
 refine ((xAy.calls K1 _ _ _ _ A c _ b w4 X5.out.hC X5.out.hc HPS.out.1 m LW6.out.hm)).mono ?_
 rintro e w5 ⟨rfl, h1⟩
 have X6 := Aside0.mk (X5.out.below h1)
 have LW7 := Aside0.mk (LW6.out.below h1)
 clear h1
 refine ⟨_, rfl, ?_⟩
 try clear hHeld
 refine hK.out _ _ ⟨((xAb X6.out.blk 0).trans rfl), ((xAb X6.out.blk 1).trans rfl), ((xAb X6.out.blk 2).trans rfl), ((xAb X6.out.blk 3).trans rfl), ((xAb X6.out.blk 4).trans rfl)⟩ (fun hHeld => ?_)
 clear hK K
 refine xCm (a' := ?_) ?_ ?_
 rotate_left
 ·show Act.put _ (some 24) _ = _
  simp only [Act.put, List.setIfInBounds_toArray, List.set_cons_zero, List.set_cons_succ, xB0, xB1]
  rfl
 refine one_ (i := 5) (N := some 26) #[true, true, true, true, true, true, false, false, false, false, false, false, false, false, false, false, false, false, false] rfl rfl (by kernel_rfl) (by decide) (fun K hK => ?_)
 refine xF6 Tryd.func16 (by kernel_rfl) rfl #[.agg #[.string n.f0, .string n.f1, .int .i64 n.f2, .int .i64 n.f3, .slice A n.f4.length c]] (by rfl) rfl rfl (by first | rfl | (simp [Act.eval]; done) | (go_simp; done)) ?_
 refine ((xAm.calls K1 _ _ _ _ A c _ b w5 X6.out.hC X6.out.hc HPS.out.2.1)).mono ?_
 rintro e w6 ⟨rfl, h1⟩
 have X7 := Aside0.mk (X6.out.below h1)
 have LW8 := Aside0.mk (LW7.out.below h1)
 clear h1
 refine ⟨_, rfl, ?_⟩
 try clear hHeld
 refine hK.out _ _ ⟨((xAb X7.out.blk 0).trans rfl), ((xAb X7.out.blk 1).trans rfl), ((xAb X7.out.blk 2).trans rfl), ((xAb X7.out.blk 3).trans rfl), ((xAb X7.out.blk 4).trans rfl)⟩ (fun hHeld => ?_)
 clear hK K
 refine xCm (a' := ?_) ?_ ?_
 rotate_left
 ·show Act.put _ (some 26) _ = _
  simp only [Act.put, List.setIfInBounds_toArray, List.set_cons_zero, List.set_cons_succ, xB0, xB1]
  rfl
 refine xBy (i := 6) (N := some 27) (v := ?_) (a' := ?_) #[true, true, true, true, true, true, true, false, false, false, false, false, false, false, false, false, false, false, false] rfl rfl (by kernel_rfl) (fun _ _ _ h => h) (Or.inl ⟨by rfl, ?_⟩) ?_ ?_
 rotate_left
 ·intro w'
  go_simp
  with_reducible rfl
 rotate_left
 ·simp only [Act.put, List.setIfInBounds_toArray, List.set_cons_zero, List.set_cons_succ, xB0, xB1]
  rfl
 refine xBy (i := 7) (N := some 28) (v := ?_) (a' := ?_) #[true, true, true, true, true, true, true, true, false, false, false, false, false, false, false, false, false, false, false] rfl rfl (by kernel_rfl) (fun _ _ _ h => h) (Or.inl ⟨by rfl, ?_⟩) ?_ ?_
 rotate_left
 ·intro w'
  go_simp
  with_reducible rfl
 rotate_left
 ·simp only [Act.put, List.setIfInBounds_toArray, List.set_cons_zero, List.set_cons_succ, xB0, xB1]
  rfl
 refine xBy (i := 8) (N := some 29) (v := ?_) (a' := ?_) #[true, true, true, true, true, true, true, true, true, false, false, false, false, false, false, false, false, false, false] rfl rfl (by kernel_rfl) (fun _ _ _ h => h) (Or.inl ⟨by rfl, ?_⟩) ?_ ?_
 rotate_left
 ·intro w'
  go_simp
  with_reducible rfl
 rotate_left
 ·simp only [Act.put, List.setIfInBounds_toArray, List.set_cons_zero, List.set_cons_succ, xB0, xB1]
  rfl
 refine xBy (i := 9) (N := some 30) (v := ?_) (a' := ?_) #[true, true, true, true, true, true, true, true, true, true, false, false, false, false, false, false, false, false, false] rfl rfl (by kernel_rfl) (fun _ _ _ h => h) (Or.inl ⟨by rfl, ?_⟩) ?_ ?_
 rotate_left
 ·intro w'
  go_simp
  with_reducible rfl
 rotate_left
 ·simp only [Act.put, List.setIfInBounds_toArray, List.set_cons_zero, List.set_cons_succ, xB0, xB1]
  rfl
 refine xBy (i := 10) (N := some 31) (v := ?_) (a' := ?_) #[true, true, true, true, true, true, true, true, true, true, true, false, false, false, false, false, false, false, false] rfl rfl (by kernel_rfl) (fun _ _ _ h => h) (Or.inl ⟨by rfl, ?_⟩) ?_ ?_
 rotate_left
 ·intro w'
  go_simp
  with_reducible rfl
 rotate_left
 ·simp only [Act.put, List.setIfInBounds_toArray, List.set_cons_zero, List.set_cons_succ, xB0, xB1]
  rfl
 refine xBy (i := 11) (N := some 32) (v := ?_) (a' := ?_) #[true, true, true, true, true, true, true, true, true, true, true, true, false, false, false, false, false, false, false] rfl rfl (by kernel_rfl) (fun _ _ _ h => h) (Or.inl ⟨by rfl, ?_⟩) ?_ ?_
 rotate_left
 ·intro w'
  go_simp
  with_reducible rfl
 rotate_left
 ·simp only [Act.put, List.setIfInBounds_toArray, List.set_cons_zero, List.set_cons_succ, xB0, xB1]
  rfl
 refine xBy (i := 12) (N := some 33) (v := ?_) (a' := ?_) #[true, true, true, true, true, true, true, true, true, true, true, true, true, false, false, false, false, false, false] rfl rfl (by kernel_rfl) (fun _ _ _ h => h) (Or.inl ⟨by rfl, ?_⟩) ?_ ?_
 rotate_left
 ·intro w'
  go_simp
  with_reducible rfl
 rotate_left
 ·simp only [Act.put, List.setIfInBounds_toArray, List.set_cons_zero, List.set_cons_succ, xB0, xB1]
  rfl
 refine xBy (i := 13) (N := some 34) (v := ?_) (a' := ?_) #[true, true, true, true, true, true, true, true, true, true, true, true, true, true, false, false, false, false, false] rfl rfl (by kernel_rfl) (fun _ _ _ h => h) (Or.inl ⟨by rfl, ?_⟩) ?_ ?_
 rotate_left
 ·intro w'
  go_simp
  with_reducible rfl
 rotate_left
 ·simp only [Act.put, List.setIfInBounds_toArray, List.set_cons_zero, List.set_cons_succ, xB0, xB1]
  rfl
 refine xBy (i := 14) (N := some 35) (v := ?_) (a' := ?_) #[true, true, true, true, true, true, true, true, true, true, true, true, true, true, true, false, false, false, false] rfl rfl (by kernel_rfl) (fun _ _ _ h => h) (Or.inl ⟨by rfl, ?_⟩) ?_ ?_
 rotate_left
 ·intro w'
  go_simp
  with_reducible rfl
 rotate_left
 ·simp only [Act.put, List.setIfInBounds_toArray, List.set_cons_zero, List.set_cons_succ, xB0, xB1]
  rfl
 refine xBy (i := 15) (N := some 36) (v := ?_) (a' := ?_) #[true, true, true, true, true, true, true, true, true, true, true, true, true, true, true, true, false, false, false] rfl rfl (by kernel_rfl) (fun _ _ _ h => h) (Or.inl ⟨by rfl, ?_⟩) ?_ ?_
 rotate_left
 ·intro w'
  go_simp
  with_reducible rfl
 rotate_left
 ·simp only [Act.put, List.setIfInBounds_toArray, List.set_cons_zero, List.set_cons_succ, xB0, xB1]
  rfl
 refine xBy (i := 16) (N := some 37) (v := ?_) (a' := ?_) #[true, true, true, true, true, true, true, true, true, true, true, true, true, true, true, true, true, false, false] rfl rfl (by kernel_rfl) (fun _ _ _ h => h) (Or.inl ⟨by rfl, ?_⟩) ?_ ?_
 rotate_left
 ·intro w'
  go_simp
  with_reducible rfl
 rotate_left
 ·simp only [Act.put, List.setIfInBounds_toArray, List.set_cons_zero, List.set_cons_succ, xB0, xB1]
  rfl
 refine xBy (i := 17) (N := some 38) (v := ?_) (a' := ?_) #[true, true, true, true, true, true, true, true, true, true, true, true, true, true, true, true, true, true, false] rfl rfl (by kernel_rfl) (fun _ _ _ h => h) (Or.inl ⟨by rfl, ?_⟩) ?_ ?_
 rotate_left
 ·intro w'
  go_simp
  with_reducible rfl
 rotate_left
 ·simp only [Act.put, List.setIfInBounds_toArray, List.set_cons_zero, List.set_cons_succ, xB0, xB1]
  rfl
 refine xBy (i := 18) (N := some 2) (v := ?_) (a' := ?_) #[true, true, true, true, true, true, true, true, true, true, true, true, true, true, true, true, true, true, true] rfl rfl (by kernel_rfl) (fun _ _ _ h => h) (Or.inl ⟨by rfl, ?_⟩) ?_ ?_
 rotate_left
 ·intro w'
  go_simp
  with_reducible rfl
 rotate_left
 ·simp only [Act.put, List.setIfInBounds_toArray, List.set_cons_zero, List.set_cons_succ, xB0, xB1]
  rfl
 refine xEf (by kernel_rfl) ?_
 clear hHeld X4 X5 X6 X7
 go_wp2
 go_ret
 refine ⟨?_, LW8.out.bel⟩
 simp
end Go.Proofs.YtknbfhhmjbnemaaDoor.P
end
section
namespace Go.Proofs.YtknbfhhmjbnemaaDoor.Rd
open Go.RowKit
theorem kids : Kids Tryd.prog (· < Tryd.prog.types.size) := kids_rows (by kernel_rfl) (by kernel_rfl)
theorem full : ∀ t e, t < Tryd.prog.types.size → Tryd.prog.underlying t = some (.slice e) → 0 < Tryd.prog.cellsOf e := slices_full_of Tryd.prog (by kernel_rfl)
theorem xHy {H : Type} {enc : TypeId × Value → H} {P : Program} {w w' : World} {base : Nat} {spare : Nat → Bool} {held : Bool} : ∀ {ts : List TypeId} {vs : List Value} {ds : List (DataW H)} {ps : List MemPlace},
  DataW.TrodAll enc P w base spare held ts vs ds ps → (∀ p ∈ ps, w.sameAt w' p) → DataW.TrodAll enc P w' base spare held ts vs ds ps
 | [], [], [], _, h, _ => h
 | t :: ts, v :: vs, d :: ds, ps, h, hs => by
  obtain ⟨p, q, ⟨n, h1⟩, h2, rfl⟩ := h
  exact ⟨p, q, ⟨n, DataW.trod_carry n t _ _ h1 (fun x hx => hs x (List.mem_append_left _ hx))⟩, xHy h2 (fun x hx => hs x (List.mem_append_right _ hx)), rfl⟩
theorem again {H : Type} {enc : TypeId × Value → H} {W W' : World} {ts : List TypeId} {vs : List Value} {ds : List (DataW H)} {ps : List MemPlace} (hT : ∀ t ∈ ts, t < Tryd.prog.types.size)
  (h : DataW.TrodAll enc Tryd.prog W 0 (fun _ => true) true ts vs ds ps) (hb : Below W.heap.size W W') : DataW.TrodAll enc Tryd.prog W' 0 (fun b => decide (b < W.heap.size)) true ts vs ds ps := by
 have hlt := DataW.TrodAll.lt h
 exact xHy (DataW.TrodAll.respare kids full hT h (fun p hp => decide_eq_true (hlt p hp))) (fun p hp => hb.same (hlt p hp))
end Go.Proofs.YtknbfhhmjbnemaaDoor.Rd
end
section
namespace Go.Proofs.YtknbfhhmjbnemaaDoor.parsePrints
open Go.ChangeShapes Go.WideShapes Go.ChangeAt Go.RowKit
open Go.ChangeMaps (open_string shut_string)
set_option maxRecDepth 100000 in
theorem lifted (os : Os) (started : os.Started) (H : Type) (enc : TypeId × Value → H) :
  ReturnsInHanded {} Tryd.checked os 5 .any (fun w args => (Rows.parsePrintsSpec.pre enc Tryd.prog Tryd.f5 Rows.parsePrintsRow.domain false w args ∧ laidMetH Tryd.prog laid3 w) ∧ sizedMet enc Tryd.prog Tryd.f5 (OpenSpec.ofChange Rows.parsePrintsSpec) false w args)
   (Rows.parsePrintsSpec.post enc Tryd.prog Tryd.f5 false true false false) := by
 refine xEs (C := Tryd.checked) (X := fun w _ => laidMetH Tryd.prog laid3 w) (fun _ _ _ hh h => h.of_heap hh) own started (by kernel_rfl) Tryd.func5
  (ChangeSpec.witness_shaped (enc := enc) (C := Tryd.checked) (os := os) (X := fun w _ => laidMetH Tryd.prog laid3 w) false (World.doorLaid Tryd.prog 400 os) #[.agg #[.string ByteArray.empty, .string ByteArray.empty, .int .i64 0, .int .i64 0, .slice none 0 0]] 8 rfl (World.shaped_of_RefB (by kernel_rfl) (by kernel_rfl)) (by kernel_rfl) (by kernel_rfl) (by kernel_rfl) (door_met os _)) ?_
 intro W base args ds gs before hval0 hW hcnd hsz0 hL hsh _
 obtain ⟨m_, hm_⟩ := Tryd.laysM144.s1_3 W hsh
 have hsz : (DataW.weightsEach Tryd.prog (Tryd.f5.params.toList ++ Rows.parsePrintsSpec.plain.varTypes Tryd.prog) (ds ++ gs)).all (· ≤ reachBytes) = true := hsz0
 have hval : ∀ (j : Nat) t v, Tryd.f5.params[j]? = some t → args[j]? = some v → Value.okWide Tryd.prog W .any base t v := hval0
 have hW' := hW
 obtain ⟨p, q, hA0, hV, rfl, hfz, hnd⟩ := hW
 have hA : DataW.TrodAll enc Tryd.prog W 0 (fun _ => true) true Tryd.f5.params.toList args.toList ds p := hA0
 have hT : ∀ t ∈ Tryd.f5.params.toList, t < Tryd.prog.types.size := of_decide_eq_true (by kernel_rfl)
 have hAk := fun (W' : World) (hb : Below W.heap.size W W') => Rd.again hT hA hb
 rw [Tryd.params5] at hA hval hsz
 obtain ⟨v0, vs0, d0, ds0, p0, q0, hargs, rfl, rfl, h0, r0⟩ := trodAll_cons hA
 obtain ⟨rfl, rfl, rfl⟩ := trodAll_nil r0
 obtain rfl : args = #[v0] := by cases args; simp_all
 obtain ⟨rfl, rfl⟩ := trodVars_none hV
 obtain ⟨cs0, e0, _⟩ := okWide_struct Tryd.underlying25 (hval 0 25 v0 rfl rfl)
 obtain ⟨n, A, c, g0, hc, hC, hz⟩ := P.open_tree h0 (fun m hm => by
  have := List.all_eq_true.1 hsz m (DataW.weights_mem_each (j := 0) (t := 25) (d := d0) rfl rfl m hm)
  simpa using this) ⟨cs0, e0⟩
 subst g0
 clear hA0 hval0 hsz0 hsz hval e0
 refine (P.prints_calls n A c m_ W hC hc hz hm_ (xI4 hL)).mono fun e W' ⟨he, bel⟩ => ?_
 subst he
 exact ⟨_, rfl, _, _, _, [], _, [], hW', trodAll_mk1 (shut_bool Tryd.underlying4 _), hAk W' bel, rfl, bel.frame _, fun h => by cases h⟩
theorem over : Rows.ParsePrintsSaid :=
 OpenClaim.holds_of_wide 5 Tryd.f5 rfl rfl rfl rfl rfl rfl rfl ⟨rfl, rfl, rfl, rfl, rfl⟩ rfl rfl rfl rfl rfl (by kernel_rfl) Tryd.func5 (by kernel_rfl)
  (of_decide_eq_true (by kernel_rfl)) (by unfold Func.isWrapper; first | (rw [if_pos (by decide +kernel)]; kernel_rfl) | (rw [if_neg (by decide +kernel)]; exact ⟨rfl, rfl⟩))
  (fun os started H enc _ => lifted os started H enc)
end Go.Proofs.YtknbfhhmjbnemaaDoor.parsePrints
namespace Go.Proofs.YtknbfhhmjbnemaaDoor
/-- THE TIED CARD. -/
theorem parsePrints_holds : Rows.ParsePrintsCardSaid :=
 Claim7.holds_tied_plain_at .later [] [.data, .data, .data] true (true, "8cdf8f3caba360dc7b05f8e528f7f118d71880da62c48cb09c7ea98c408e307c") true
  parsePrints.over (fun _ h => by cases h) (by kernel_rfl) (fun _ h => by cases h) parsePrints_row_tie rfl ⟨rfl, rfl⟩ (by kernel_rfl) rfl
  (fun f fn hf hfn => by
   obtain rfl : f = 5 := Option.some.inj ((show Tryd.prog.funcNamed "cofferdam/cofferdamlaw11.ParsePrints" = some 5 by kernel_rfl).symm.trans hf) |>.symm
   obtain rfl : fn = Tryd.f5 := (Option.some.inj (Tryd.func5.symm.trans hfn)).symm
   exact ⟨by kernel_rfl, fun j t ht => by
    rw [Tryd.params5] at ht
    have hm : t ∈ [25] := by simpa using Array.mem_of_getElem? ht
    have hall : ([25].all fun u => !Tryd.prog.wantsStandIn u) = true := by kernel_rfl
    exact (show Tryd.prog.wantsStandIn t = false by simpa using List.all_eq_true.1 hall t hm)⟩)
  (by kernel_rfl)
end Go.Proofs.YtknbfhhmjbnemaaDoor
end
#print axioms Go.Proofs.YtknbfhhmjbnemaaDoor.parsePrints_holds
