/- Proved here, for this seat's claims: what the functions that the laws reach compute: the texts of this work, one behind the other, laid by a program of this session. Conditions: none beside the statement's own. -/
import Derived.Test.YtknbfhhmjbnemaaDoorMR1
import Derived.Recover
import Derived.Defers
import Derived.Shelf.Abstract
set_option linter.unusedVariables false
set_option linter.unusedSimpArgs false
section
namespace Go.Proofs.YtknbfhhmjbnemaaDoor.P
open Go.RowKit Go.Proofs.YtknbfhhmjbnemaaDoorW.PrintWords Go.Proofs.YtknbfhhmjbnemaaDoorW.PrintLast Go.Proofs.YtknbfhhmjbnemaaDoorW.PrintMore

theorem xDf {α β γ : Type} (x : PR α) (f : α → List S60 → PR β) (g : β → List S60 → PR γ) : pbd (pbd x f) g = pbd x (fun a T => pbd (f a T) g) := by
 unfold pbd
 rcases x with _ | x | ⟨a, T⟩ <;> rfl
theorem xEf {α β : Type} (a : α) (T : List S60) (f : α → List S60 → PR β) : pbd (some (.ok (a, T))) f = f a T := rfl
set_option maxHeartbeats 16000000 in
set_option maxRecDepth 100000 in
theorem xM5 (k : Nat) (ih : xF9 k) (ihs : ∀ k', k' ≤ k → xF9 k') (g : Nat) (t : S60) (T : List S60) (en nest : Int) (r : Except PErr (S25 × List S60)) (w0 w : World) (hS : PsS w0 w w g (t :: T) en) (hn0 : ¬ (nest < 0 ∨ nest > 100)) (hn : ¬ nest > 12) (h0 : t.f0 = 0) (h1 : xDr t.f1 = true) (h : pexprT k t T en nest = some r) :
  Calls Tryd.prog 37 #[.pointer (some ⟨g, 0, none⟩), .int .i64 nest] w (PRes w0 w g en (xD8 w) r) := by
 have hu25 := Tryd.underlying25
 have hu60 := Tryd.underlying60
 have GW := Aside0.mk hS.lt
 have WW := Aside0.mk hS.bel.size
 have IH := Aside0.mk ih
 have IHS := Aside0.mk ihs
 unfold pexprT at h
 have HH := Aside0.mk h
 have RS0 := Aside0.mk (hS.alloc (.cells #[.string (⟨#[]⟩ : ByteArray), .string (⟨#[]⟩ : ByteArray), .int .i64 0, .int .i64 0, .slice none 0 0] 25 (0, 0)))
 have HR4 := Aside0.mk (xBj w (.cells #[.string (⟨#[]⟩ : ByteArray), .string (⟨#[]⟩ : ByteArray), .int .i64 0, .int .i64 0, .slice none 0 0] 25 (0, 0)))
 clear hS ih ihs h
 have dn : decide (nest > 12) = false := decide_eq_false hn
 have dn' : decide (12 < nest) = false := decide_eq_false hn
 obtain ⟨ad, c, hbk, hc, hC, y0, y1, y2, y3⟩ := RS0.out.head
 have x0 := (xA4 hbk 0).trans rfl
 have hl : 0 < (t :: T).length := by simp
 clear hbk hC
 generalize (t :: T).length = n at *
 have d1 : (0 : Int) < (n : Int) := by omega
 have d2 : ((n : Int) == 0) = false := by simp; omega
 have e0 : (t.f0 == 0) = true := by simpa using h0
 have e0' : (t.f0 != 0) = false := by simpa using h0
 clear h0
 have HT := Aside0.mk ((xG7 t.f1).trans (by rw [h1]))
 clear h1
 go_enter Tryd.func37, Tryd.ntmps37
 go_upto_region 7 with (go_at_call 69; (with_reducible refine (xCl.calls _ true _ HT.out).mono ?_); rintro e w1 ⟨rfl, ⟨nd, rfl⟩⟩; have RS1 := Aside0.mk (RS0.out.drewN nd); have HR1 := Aside0.mk (xA7 HR4.out nd))
 clear x0 y0 y1 y2 y3 RS0 HR4 hc hl d1 d2
 generalize World.drewN (World.alloc w _) nd = w1 at *
 have RS2 := Aside0.mk RS1.out.drew
 have HR2 := Aside0.mk (xAc HR1.out)
 clear RS1 HR1
 obtain ⟨ad1, c1, hbk, hc1, hC, y0, y1, y2, y3⟩ := RS2.out.head
 have x0 := (xA4 hbk 0).trans rfl
 have hl : 0 < (t :: T).length := by simp
 clear hbk hC y0 y2 y3
 generalize hn1 : (t :: T).length = n1 at *
 have d1 : (0 : Int) < (n1 : Int) := by omega
 refine xDt (n := 12) (S := fun w' => w'.cell? ⟨g, 0, none⟩ = some (.slice (some ad1) n1 c1) ∧ w'.cell? ⟨ad1.block, ad1.off + 1, none⟩ = some (.string t.f1)) (ds := [11]) #[false, false, false, false, false, false, false, false, false, false, false, false] (by kernel_rfl) rfl rfl ?hS (fun hHeld => ?_)
 case hS => exact ⟨x0, y1⟩
 generalize World.drew w1 = w2 at *
 refine xC1 (i := 0) (N := some 42) (v := ?_) (a' := ?_) #[true, false, false, false, false, false, false, false, false, false, false, false] rfl rfl (by kernel_rfl) (fun _ _ _ h => h) (Or.inl ⟨by rfl, ?_⟩) ?_ ?_
 rotate_left
 ·intro w'
  go_simp
  with_reducible rfl
 rotate_left
 ·simp only [Act.put, List.setIfInBounds_toArray, List.set_cons_zero, List.set_cons_succ, xB1, xB2]
  rfl
 refine xC1 (i := 1) (N := some 43) (v := ?_) (a' := ?_) #[true, true, false, false, false, false, false, false, false, false, false, false] rfl rfl (by kernel_rfl) (fun _ _ _ h => h) (Or.inl ⟨by rfl, ?_⟩) ?_ ?_
 rotate_left
 ·intro w'
  go_simp
  with_reducible rfl
 rotate_left
 ·simp only [Act.put, List.setIfInBounds_toArray, List.set_cons_zero, List.set_cons_succ, xB1, xB2]
  rfl
 refine xC1 (i := 2) (N := some 44) (v := ?_) (a' := ?_) #[true, true, true, false, false, false, false, false, false, false, false, false] rfl rfl (by kernel_rfl) (fun _ _ _ h => h) (Or.inl ⟨by rfl, ?_⟩) ?_ ?_
 rotate_left
 ·intro w'
  go_simp
  with_reducible rfl
 rotate_left
 ·simp only [Act.put, List.setIfInBounds_toArray, List.set_cons_zero, List.set_cons_succ, xB1, xB2]
  rfl
 refine xDu (i := 3) (N := some 45) (v := ?_) (a' := ?_) #[true, true, true, true, false, false, false, false, false, false, false, false] rfl rfl (by kernel_rfl) (fun _ _ _ h => h) (Or.inl ⟨by rfl, ?_⟩) hHeld ?_ ?_
 rotate_left
 ·rintro w' ⟨s0, s1⟩
  go_simp
  with_reducible rfl
 rotate_left
 ·simp only [Act.put, List.setIfInBounds_toArray, List.set_cons_zero, List.set_cons_succ, xB1, xB2]
  rfl
 refine xC1 (i := 4) (N := some 46) (v := ?_) (a' := ?_) #[true, true, true, true, true, false, false, false, false, false, false, false] rfl rfl (by kernel_rfl) (fun _ _ _ h => h) (Or.inl ⟨by rfl, ?_⟩) ?_ ?_
 rotate_left
 ·intro w'
  go_simp
  with_reducible rfl
 rotate_left
 ·simp only [Act.put, List.setIfInBounds_toArray, List.set_cons_zero, List.set_cons_succ, xB1, xB2]
  rfl
 refine xC1 (i := 5) (N := some 47) (v := ?_) (a' := ?_) #[true, true, true, true, true, true, false, false, false, false, false, false] rfl rfl (by kernel_rfl) (fun _ _ _ h => h) (Or.inl ⟨by rfl, ?_⟩) ?_ ?_
 rotate_left
 ·intro w'
  go_simp
  with_reducible rfl
 rotate_left
 ·simp only [Act.put, List.setIfInBounds_toArray, List.set_cons_zero, List.set_cons_succ, xB1, xB2]
  rfl
 refine xDu (i := 6) (N := some 48) (v := ?_) (a' := ?_) #[true, true, true, true, true, true, true, false, false, false, false, false] rfl rfl (by kernel_rfl) (fun _ _ _ h => h) (Or.inl ⟨by rfl, ?_⟩) hHeld ?_ ?_
 rotate_left
 ·rintro w' ⟨s0, s1⟩
  go_simp
  with_reducible rfl
 rotate_left
 ·simp only [Act.put, List.setIfInBounds_toArray, List.set_cons_zero, List.set_cons_succ, xB1, xB2]
  rfl
 refine xC1 (i := 7) (N := some 49) (v := ?_) (a' := ?_) #[true, true, true, true, true, true, true, true, false, false, false, false] rfl rfl (by kernel_rfl) (fun _ _ _ h => h) (Or.inl ⟨by rfl, ?_⟩) ?_ ?_
 rotate_left
 ·intro w'
  go_simp
  with_reducible rfl
 rotate_left
 ·simp only [Act.put, List.setIfInBounds_toArray, List.set_cons_zero, List.set_cons_succ, xB1, xB2]
  rfl
 refine join_ (σ := Nat) 1 #[true, true, true, true, true, true, true, true, true, true, true, false] (fun bn => [(50, .int .i64 (xB4 (t :: T) en)), (51, .agg #[.string t.f1, .string ⟨#[]⟩, .int .i64 0, .int .i64 (xB4 (t :: T) en), .slice none 0 0]), (6, .pointer (some ⟨bn, 0, none⟩))]) (fun bn w' => bn = w2.heap.size ∧ w'.heap[bn]? = some (.cells #[.string (⟨#[]⟩ : ByteArray), .string (⟨#[]⟩ : ByteArray), .int .i64 0, .int .i64 0, .slice none 0 0] 25 (0, 0)) ∧ Below w2.heap.size w2 w') ?cont ?go
 case go =>
  intro hcont
  have HC := Aside0.mk hcont
  clear hcont
  refine two_ (i := 8) (j := 10) (Ni := some 50) (Nj := some 6) #[true, true, true, true, true, true, true, true, true, false, false, false] #[true, true, true, true, true, true, true, true, false, false, true, false] rfl rfl rfl rfl (by kernel_rfl) (by decide) (by decide) ?_ ?_
  ·intro K hK
   refine goes_ Tryd.func30 (by kernel_rfl) rfl #[.pointer (some ⟨g, 0, none⟩)] (by rfl) rfl rfl (by first | rfl | (simp [Act.eval]; done) | (go_simp; done)) ?_
   refine (xEe g (t :: T) en w0 w2 RS2.out.start).mono ?_
   rintro e w' ⟨rfl, rfl⟩
   refine ⟨_, rfl, ?_⟩
   try clear hHeld
   refine hK.out _ _ ⟨x0, y1⟩ (fun hHeld => ?_)
   clear hK K
   refine xCp (a' := ?_) ?_ ?_
   rotate_left
   ·simp only [Act.put, List.setIfInBounds_toArray, List.set_cons_zero, List.set_cons_succ, xB1, xB2]
    rfl
   refine xC1 (i := 9) (N := some 51) (v := ?_) (a' := ?_) #[true, true, true, true, true, true, true, true, true, true, false, false] rfl rfl (by kernel_rfl) (fun _ _ _ h => h) (Or.inl ⟨by rfl, ?_⟩) ?_ ?_
   rotate_left
   ·intro w'
    go_simp
    with_reducible rfl
   rotate_left
   ·simp only [Act.put, List.setIfInBounds_toArray, List.set_cons_zero, List.set_cons_succ, xB1, xB2]
    rfl
   refine one_ (i := 10) (N := some 6) #[true, true, true, true, true, true, true, true, true, true, true, false] rfl rfl (by kernel_rfl) (by decide) (fun K hK => ?_)
   refine xKh (by rfl) (N := 6) rfl (cs := #[.string (⟨#[]⟩ : ByteArray), .string (⟨#[]⟩ : ByteArray), .int .i64 0, .int .i64 0, .slice none 0 0]) (t := 25) ?hr ?_
   case hr => first | (go_simp; done) | (go_simp; rfl)
   intro bn hbn w3 hbox hb
   have HB3 := Aside0.mk hb
   have NB := Aside0.mk hbox
   have HG := Aside0.mk hbn
   have x0' := xAb hb x0
   have y1' := xAb hb y1
   clear hb hbox hbn
   try clear hHeld
   refine hK.out _ _ ⟨x0', y1'⟩ (fun hHeld => ?_)
   clear hK K
   refine xCp (a' := ?_) ?_ ?_
   rotate_left
   ·simp only [Act.put, List.setIfInBounds_toArray, List.set_cons_zero, List.set_cons_succ, xB1, xB2]
    rfl
   exact HC.out bn w3 ⟨HG.out, NB.out, HB3.out⟩
  ·intro K hK
   refine xKh (by rfl) (N := 6) rfl (cs := #[.string (⟨#[]⟩ : ByteArray), .string (⟨#[]⟩ : ByteArray), .int .i64 0, .int .i64 0, .slice none 0 0]) (t := 25) ?hr ?_
   case hr => first | (go_simp; done) | (go_simp; rfl)
   intro bn hbn w3 hbox hb
   have HB3 := Aside0.mk hb
   have NB := Aside0.mk hbox
   have HG := Aside0.mk hbn
   have x0' := xAb hb x0
   have y1' := xAb hb y1
   clear hb hbox hbn
   try clear hHeld
   refine hK.out _ _ ⟨x0', y1'⟩ (fun hHeld => ?_)
   clear hK K
   refine xCp (a' := ?_) ?_ ?_
   rotate_left
   ·simp only [Act.put, List.setIfInBounds_toArray, List.set_cons_zero, List.set_cons_succ, xB1, xB2]
    rfl
   refine one_ (i := 8) (N := some 50) #[true, true, true, true, true, true, true, true, true, false, true, false] rfl rfl (by kernel_rfl) (by decide) (fun K hK => ?_)
   refine goes_ Tryd.func30 (by kernel_rfl) rfl #[.pointer (some ⟨g, 0, none⟩)] (by rfl) rfl rfl (by first | rfl | (simp [Act.eval]; done) | (go_simp; done)) ?_
   refine (xEe g (t :: T) en w0 w3 (RS2.out.below HB3.out).start).mono ?_
   rintro e w' ⟨rfl, rfl⟩
   refine ⟨_, rfl, ?_⟩
   try clear hHeld
   refine hK.out _ _ ⟨x0', y1'⟩ (fun hHeld => ?_)
   clear hK K
   refine xCp (a' := ?_) ?_ ?_
   rotate_left
   ·simp only [Act.put, List.setIfInBounds_toArray, List.set_cons_zero, List.set_cons_succ, xB1, xB2]
    rfl
   refine xC1 (i := 9) (N := some 51) (v := ?_) (a' := ?_) #[true, true, true, true, true, true, true, true, true, true, true, false] rfl rfl (by kernel_rfl) (fun _ _ _ h => h) (Or.inl ⟨by rfl, ?_⟩) ?_ ?_
   rotate_left
   ·intro w'
    go_simp
    with_reducible rfl
   rotate_left
   ·simp only [Act.put, List.setIfInBounds_toArray, List.set_cons_zero, List.set_cons_succ, xB1, xB2]
    rfl
   exact HC.out bn w' ⟨HG.out, NB.out, HB3.out⟩
 case cont =>
  rintro bn w3 ⟨hbn, hbox, hb⟩
  have HB3 := Aside0.mk hb
  have NB := Aside0.mk hbox
  have HG := Aside0.mk hbn
  clear hb hbox hbn x0 y1 hHeld
  refine xCp (a' := ?_) ?_ ?_
  rotate_left
  ·simp only [xIw, Act.put, List.setIfInBounds_toArray, List.set_cons_zero, List.set_cons_succ]
   rfl
  obtain ⟨c_0, c_1, c_2, c_3, c_4, f_0, f_1, f_2, f_3, f_4⟩ := ex5 NB.out
  refine xG0 (i := 11) (N := none) #[true, true, true, true, true, true, true, true, true, true, true, true] rfl rfl (by kernel_rfl) (by decide) (fun K hK => ?_)
  refine xF3 (w1 := ?_) (by rfl) rfl ?_ ?_
  rotate_left
  ·go_simp
   rfl
  refine hK.out _ _ ?_
  clear hK K
  refine xFe (by kernel_rfl) ?_
  go_upto_region 8 with (fail)
  generalize hW : World.setCell (World.setCell (World.setCell (World.setCell (World.setCell w3 _ _) _ _) _ _) _ _) _ _ = W3
  have ES0 := Aside0.mk (show ExP w0 w W3 g (t :: T) en w.heap.size bn t.f1 ⟨#[]⟩ 0 (xB4 (t :: T) en) (.slice none 0 0) [] from by
   have hlt := xBs HR2.out
   have hge : w2.heap.size ≤ bn := Nat.le_of_eq HG.out.symm
   have hb := ((((HB3.out.setCell (p := ⟨bn, 0, none⟩) hge (.string t.f1)).setCell (p := ⟨bn, 1, none⟩) hge (.string ⟨#[]⟩)).setCell (p := ⟨bn, 2, none⟩) hge (.int .i64 0)).setCell (p := ⟨bn, 3, none⟩) hge (.int .i64 (xB4 (t :: T) en))).setCell (p := ⟨bn, 4, none⟩) hge (.slice none 0 0)
   rw [hW] at hb
   refine ⟨RS2.out.below hb, xAx HR2.out hb, ?_, Kd.N_nil _ _ _ _ _, Nat.le_refl _, by omega, by omega, GW.out, WW.out⟩
   rw [← hW]
   exact xA1 (xA1 (xA1 (xA1 (xA1 NB.out 0 _ rfl) 1 _ rfl) 2 _ rfl) 3 _ rfl) 4 _ rfl)
  clear hW HB3 NB HG RS2 HR2 c_0 c_1 c_2 c_3 c_4 f_0 f_1 f_2 f_3 f_4 hc1 hl d1 hn1
  obtain ⟨ad2, c2, hbk, hc2, hC, y0, y1, y2, y3⟩ := ES0.out.rs.head
  have x0 := (xA4 hbk 0).trans rfl
  have z0 := xA5 hbk 0
  have HX := Aside0.mk (ES0.out.rs.start.cut hbk hc2 hC)
  clear hbk hC y0 y1 y2 y3
  have hl1 : 1 ≤ (t :: T).length := by simp
  have HLT := Aside0.mk (show (t :: T).length - 1 = T.length by simp)
  generalize hn2 : (t :: T).length = n2 at hc2 x0 hl1 HLT
  have d1 : (1 : Int) ≤ (n2 : Int) := by omega
  go_upto_region 9 with (fail)
  generalize hW : World.setCell W3 _ _ = W4
  have ESi := Aside0.mk (ES0.out.call (show PsS w0 W3 W4 g T en from by rw [← hW]; have := HX.out; rw [← HLT.out] at this; exact this))
  clear hW HX x0 z0 hc2 hl1 d1 hn2 ES0
  generalize (if c2 = 1 then some ad2 else some (⟨ad2.block, ad2.off + 4, none⟩ : Addr)) = AA
  have hn1 : 0 ≤ nest := by omega
  have hn2 : nest ≤ 12 := by omega
  have HWR := Aside0.mk (show wrap64 (nest + 1) = nest + 1 from (by unfold wrap64; omega))
  have hh := HH.out
  clear HH
  rcases xBd hh with ⟨x, hx, rfl⟩ | ⟨u, T1, hx, h1⟩
  ·have HX := Aside0.mk hx
   clear hx hh
   go_wp2_with (go_at_call 36; (with_reducible refine (xBy HX.out g w0 _ ESi.out.rs.start).mono ?_); rintro e w2 ⟨rfl, h2⟩; exact ⟨rfl, ESi.out.rs.bad ⟨rfl, h2⟩⟩)
  have HX := Aside0.mk hx
  have HH := Aside0.mk h1
  clear hx h1 hh
  go_upto_region 10 with (go_at_call 36; (with_reducible refine (xC5 HX.out g w0 _ ESi.out.rs.start).mono ?_); rintro e w_1 ⟨rfl, h2⟩; have ES1 := Aside0.mk (ESi.out.call h2); clear h2)
  clear HX ESi
  refine xDt (n := 10) (S := fun w' => w'.cell? ⟨bn, 4, none⟩ = some (.slice none 0 0)) (ds := [9]) #[false, false, false, false, false, false, false, false, false, false] (by kernel_rfl) rfl rfl ?hS (fun hHeld => ?_)
  case hS => exact (xA4 (xAc ES1.out.nb) 4).trans rfl
  have ESd_2 := Aside0.mk ES1.out.drew
  clear ES1
  generalize World.drew w_1 = wd_2 at *
  have x4 := (xA4 ESd_2.out.nb 4).trans rfl
  refine xC1 (i := 0) (N := some 62) (v := ?_) (a' := ?_) #[true, false, false, false, false, false, false, false, false, false] rfl rfl (by kernel_rfl) (fun _ _ _ h => h) (Or.inl ⟨by rfl, ?_⟩) ?_ ?_
  rotate_left
  ·intro w'
   go_simp
   with_reducible rfl
  rotate_left
  ·simp only [Act.put, List.setIfInBounds_toArray, List.set_cons_zero, List.set_cons_succ, xB1, xB2]
   rfl
  refine xC1 (i := 2) (N := some 64) (v := ?_) (a' := ?_) #[true, false, true, false, false, false, false, false, false, false] rfl rfl (by kernel_rfl) (fun _ _ _ h => h) (Or.inl ⟨by rfl, ?_⟩) ?_ ?_
  rotate_left
  ·intro w'
   go_simp
   with_reducible rfl
  rotate_left
  ·simp only [Act.put, List.setIfInBounds_toArray, List.set_cons_zero, List.set_cons_succ, xB1, xB2]
   rfl
  refine xC1 (i := 3) (N := some 65) (v := ?_) (a' := ?_) #[true, false, true, true, false, false, false, false, false, false] rfl rfl (by kernel_rfl) (fun _ _ _ h => h) (Or.inl ⟨by rfl, ?_⟩) ?_ ?_
  rotate_left
  ·intro w'
   go_simp
   with_reducible rfl
  rotate_left
  ·simp only [Act.put, List.setIfInBounds_toArray, List.set_cons_zero, List.set_cons_succ, xB1, xB2]
   rfl
  refine xC1 (i := 4) (N := some 66) (v := ?_) (a' := ?_) #[true, false, true, true, true, false, false, false, false, false] rfl rfl (by kernel_rfl) (fun _ _ _ h => h) (Or.inl ⟨by rfl, ?_⟩) ?_ ?_
  rotate_left
  ·intro w'
   go_simp
   with_reducible rfl
  rotate_left
  ·simp only [Act.put, List.setIfInBounds_toArray, List.set_cons_zero, List.set_cons_succ, xB1, xB2]
   rfl
  refine xDu (i := 1) (N := some 63) (v := ?_) (a' := ?_) #[true, true, true, true, true, false, false, false, false, false] rfl rfl (by kernel_rfl) (fun _ _ _ h => h) (Or.inl ⟨by rfl, ?_⟩) hHeld ?_ ?_
  rotate_left
  ·rintro w' s0
   go_simp
   with_reducible rfl
  rotate_left
  ·simp only [Act.put, List.setIfInBounds_toArray, List.set_cons_zero, List.set_cons_succ, xB1, xB2]
   rfl
  have hh := HH.out
  clear HH
  rcases xBd hh with ⟨x, hx, rfl⟩ | ⟨a2, T2, hx, h1⟩
  ·have HX := Aside0.mk hx
   clear hx hh
   refine one_ (i := 5) (N := some 67) #[true, true, true, true, true, true, false, false, false, false] rfl rfl (by kernel_rfl) (by decide) (fun K hK => ?_)
   refine xD5 Tryd.func37 (by kernel_rfl) rfl #[.pointer (some ⟨g, 0, none⟩), .int .i64 (wrap64 (nest + 1))] (by rfl) rfl rfl (by first | rfl | (simp [Act.eval]; done) | (go_simp; done)) (R := PRes (α := S25) w0 wd_2 g en (xD8 wd_2) (.error x)) (by rw [HWR.out]; exact (IH.out).use g _ en _ _ w0 wd_2 ESd_2.out.rs.start HX.out) ?_
   rintro e w2 ⟨rfl, h2⟩
   exact .inl ⟨_, rfl, ⟨rfl, ESd_2.out.rs.bad ⟨rfl, h2⟩⟩⟩
  have HX := Aside0.mk hx
  have HH := Aside0.mk h1
  clear hx h1 hh
  refine one_ (i := 5) (N := some 67) #[true, true, true, true, true, true, false, false, false, false] rfl rfl (by kernel_rfl) (by decide) (fun K hK => ?_)
  refine xD5 Tryd.func37 (by kernel_rfl) rfl #[.pointer (some ⟨g, 0, none⟩), .int .i64 (wrap64 (nest + 1))] (by rfl) rfl rfl (by first | rfl | (simp [Act.eval]; done) | (go_simp; done)) (R := PRes (α := S25) w0 wd_2 g en (xD8 wd_2) (.ok (a2, T2))) (by rw [HWR.out]; exact (IH.out).use g _ en _ _ w0 wd_2 ESd_2.out.rs.start HX.out) ?_
  rintro e w2_2 ⟨⟨v, rfl, hN⟩, h2⟩
  obtain ⟨A_2, c_2, rfl⟩ := Kd.N_slice hN
  have ESc_2 := Aside0.mk (ESd_2.out.call h2)
  have SZ := Aside0.mk h2.kb.1
  have HV := Aside0.mk hN
  clear hN h2
  refine .inr ⟨_, rfl, ?_⟩
  try clear hHeld
  refine hK.out _ _ ((xA4 ESc_2.out.nb 4).trans rfl) (fun hHeld => ?_)
  clear hK K
  refine xCp (a' := ?_) ?_ ?_
  rotate_left
  ·show Act.put _ (some 67) _ = _
   simp only [Act.put, List.setIfInBounds_toArray, List.set_cons_zero, List.set_cons_succ, xB1, xB2]
   rfl
  refine one_ (i := 6) (N := some 68) #[true, true, true, true, true, true, true, false, false, false] rfl rfl (by kernel_rfl) (by decide) (fun K hK => ?_)
  refine Kd.N_lit_step k25 (w0 := w2_2) w2_2.heap.size 25 (by rfl) (N' := 68) rfl (xs := [a2]) (inner := [.string a2.f0, .string a2.f1, .int .i64 a2.f2, .int .i64 a2.f3, .slice A_2 a2.f4.length c_2]) (ok := (fun k => wd_2.heap.size ≤ k)) (okp := (fun k => wd_2.heap.size ≤ k)) ?hr ((Reps.none _ _).snoc (xCn HV.out) rfl) (fun _ hk => hk) ?hf (Below.refl _ _) (Nat.le_refl _) (by show 1 ≤ 9223372036854775807; decide) ?_
  case hr => first | (go_simp; done) | (go_simp; rfl)
  case hf => exact SZ.out
  intro v7 w7_2 hN7 hb7 hg7 hat7
  obtain ⟨A7, c7, rfl⟩ := Kd.N_slice hN7
  have ESp_2 := Aside0.mk (ESc_2.out.below hb7)
  have HN7 := Aside0.mk hN7
  clear hN7 hb7 hg7 hat7
  try clear hHeld
  refine hK.out _ _ ((xA4 ESp_2.out.nb 4).trans rfl) (fun hHeld => ?_)
  clear hK K
  refine xCp (a' := ?_) ?_ ?_
  rotate_left
  ·show Act.put _ (some 68) _ = _
   simp only [Act.put, List.setIfInBounds_toArray, List.set_cons_zero, List.set_cons_succ, xB1, xB2]
   rfl
  refine one_ (i := 7) (N := some 69) #[true, true, true, true, true, true, true, true, false, false] rfl rfl (by kernel_rfl) (by decide) (fun K hK => ?_)
  refine Kd.N_append_rows_step k25 (w0 := w7_2) w.heap.size (by rfl) (.tmp 63) (.tmp 68) 23 25 (.agg #[.string (⟨#[]⟩ : ByteArray), .string (⟨#[]⟩ : ByteArray), .int .i64 0, .int .i64 0, .slice none 0 0]) 72 rfl Tryd.underlying23 xDh rfl (by decide) (by decide) (.slice none 0 0) ([] : List S25) [a2] A7 1 c7 (fun k => w.heap.size ≤ k ∧ k ≠ w.heap.size ∧ k ≠ bn) (fun k => wd_2.heap.size ≤ k) rfl rfl ESp_2.out.row (Kd.N_F HN7.out) ?hokp ?hfresh (Below.refl _ _) ?hbase (by first | omega | (simp; done) | (simp; omega)) ?_
  case hokp => intro k hk; have h1 := ESd_2.out.lt.1; have h2 := ESd_2.out.lt.2.1; have h3 := ESd_2.out.rs.kb.1; exact ⟨⟨by omega, by omega, by omega⟩, fun e => by have := (ESd_2.out.lt.2.2 k e.symm).1; omega⟩
  case hfresh => intro k hk; have h1 := ESp_2.out.lt.1; have h2 := ESp_2.out.lt.2.1; have h3 := ESp_2.out.rs.kb.1; exact ⟨by omega, by omega, by omega⟩
  case hbase => exact ESp_2.out.rs.kb.1
  intro v8 w8_2 hN8 hb8 hg8 hat8
  obtain ⟨A8_2, c8_2, hv8⟩ := Kd.N_slice hN8
  rw [show (([] : List S25) ++ [a2]).length = 1 by simp] at hv8
  subst hv8
  have ESa := Aside0.mk (ESp_2.out.append hN8 hg8)
  obtain ⟨_, _, hnb8⟩ := ESp_2.out.grown hN8 hg8
  have hn4b := (xA4 hnb8 4).trans rfl
  have hf4b := xA5 hnb8 4
  clear hN8 hb8 hg8 hat8 hnb8
  try clear hHeld
  refine hK.out _ _ hn4b (fun hHeld => ?_)
  clear hK K
  refine xCp (a' := ?_) ?_ ?_
  rotate_left
  ·show Act.put _ (some 69) _ = _
   simp only [Act.put, List.setIfInBounds_toArray, List.set_cons_zero, List.set_cons_succ, xB1, xB2]
   rfl
  refine xC1 (i := 8) (N := some 70) (v := ?_) (a' := ?_) #[true, true, true, true, true, true, true, true, true, false] rfl rfl (by kernel_rfl) (fun _ _ _ h => h) (Or.inl ⟨by rfl, ?_⟩) ?_ ?_
  rotate_left
  ·intro w'
   go_simp
   with_reducible rfl
  rotate_left
  ·simp only [Act.put, List.setIfInBounds_toArray, List.set_cons_zero, List.set_cons_succ, xB1, xB2]
   rfl
  refine xG0 (i := 9) (N := none) #[true, true, true, true, true, true, true, true, true, true] rfl rfl (by kernel_rfl) (by decide) (fun K hK => ?_)
  refine xF3 (w1 := ?_) (by rfl) rfl ?_ ?_
  rotate_left
  ·go_simp
   rfl
  refine hK.out _ _ ?_
  clear hK K
  refine xFe (by kernel_rfl) ?_
  clear hHeld x4 hn4b hf4b ESd_2 ESc_2 ESp_2 HN7 HV SZ HX
  go_upto_region 11 with (fail)
  generalize hW9 : World.setCell w8_2 _ _ = W9_2
  have ESb2 := Aside0.mk (show ExP w0 w W9_2 g _ en w.heap.size bn t.f1 ⟨#[]⟩ 0 (xB4 (t :: T) en) (.slice A8_2 1 c8_2) (([] : List S25) ++ [a2]) from by rw [← hW9]; exact ESa.out)
  clear hW9 ESa
  have x0_ := (xA4 ESb2.out.nb 0).trans rfl
  go_upto_block 0 with (fail)
  clear x0_
  by_cases hq0 : t.f1.toList = ([108, 105, 110, 101, 97, 114] : List UInt8)
  ·skip
   have e0 : (t.f1.toList == ([108, 105, 110, 101, 97, 114] : List UInt8)) = true := by rw [hq0]; rfl
   have hq := HH.out
   clear HH
   rw [if_pos hq0] at hq
   have HH := Aside0.mk hq
   clear hq
   clear hq0
   have hq := HH.out
   clear HH
   simp only [xDf] at hq
   have HH := Aside0.mk hq
   clear hq
   have hh := HH.out
   clear HH
   rcases xBd hh with ⟨x, hx, rfl⟩ | ⟨u, T3, hx, h1⟩
   ·have HX := Aside0.mk hx
    clear hx hh
    go_wp2_with (go_at_call 36; (with_reducible refine (xBy HX.out g w0 _ ESb2.out.rs.start).mono ?_); rintro e w2 ⟨rfl, h2⟩; exact ⟨rfl, ESb2.out.rs.bad ⟨rfl, h2⟩⟩)
   have HX := Aside0.mk hx
   have HH := Aside0.mk h1
   clear hx h1 hh
   go_upto_region 16 with (go_at_call 36; (with_reducible refine (xC5 HX.out g w0 _ ESb2.out.rs.start).mono ?_); rintro e w_3 ⟨rfl, h2⟩; have ES3 := Aside0.mk (ESb2.out.call h2); clear h2)
   clear HX ESb2
   refine xDt (n := 8) (S := fun w' => w'.cell? ⟨bn, 4, none⟩ = some (.slice A8_2 1 c8_2)) (ds := [7]) #[false, false, false, false, false, false, false, false] (by kernel_rfl) rfl rfl ?hS (fun hHeld => ?_)
   case hS => exact (xA4 (xAc ES3.out.nb) 4).trans rfl
   have ESd_4 := Aside0.mk ES3.out.drew
   clear ES3
   generalize World.drew w_3 = wd_4 at *
   have x4 := (xA4 ESd_4.out.nb 4).trans rfl
   refine xC1 (i := 0) (N := some 88) (v := ?_) (a' := ?_) #[true, false, false, false, false, false, false, false] rfl rfl (by kernel_rfl) (fun _ _ _ h => h) (Or.inl ⟨by rfl, ?_⟩) ?_ ?_
   rotate_left
   ·intro w'
    go_simp
    with_reducible rfl
   rotate_left
   ·simp only [Act.put, List.setIfInBounds_toArray, List.set_cons_zero, List.set_cons_succ, xB1, xB2]
    rfl
   refine xC1 (i := 2) (N := some 90) (v := ?_) (a' := ?_) #[true, false, true, false, false, false, false, false] rfl rfl (by kernel_rfl) (fun _ _ _ h => h) (Or.inl ⟨by rfl, ?_⟩) ?_ ?_
   rotate_left
   ·intro w'
    go_simp
    with_reducible rfl
   rotate_left
   ·simp only [Act.put, List.setIfInBounds_toArray, List.set_cons_zero, List.set_cons_succ, xB1, xB2]
    rfl
   refine xDu (i := 1) (N := some 89) (v := ?_) (a' := ?_) #[true, true, true, false, false, false, false, false] rfl rfl (by kernel_rfl) (fun _ _ _ h => h) (Or.inl ⟨by rfl, ?_⟩) hHeld ?_ ?_
   rotate_left
   ·rintro w' s0
    go_simp
    with_reducible rfl
   rotate_left
   ·simp only [Act.put, List.setIfInBounds_toArray, List.set_cons_zero, List.set_cons_succ, xB1, xB2]
    rfl
   have hh := HH.out
   clear HH
   rcases xBd hh with ⟨x, hx, rfl⟩ | ⟨a4, T4, hx, h1⟩
   ·have HX := Aside0.mk hx
    clear hx hh
    refine one_ (i := 3) (N := some 91) #[true, true, true, true, false, false, false, false] rfl rfl (by kernel_rfl) (by decide) (fun K hK => ?_)
    refine xD5 Tryd.func34 (by kernel_rfl) rfl #[.pointer (some ⟨g, 0, none⟩)] (by rfl) rfl rfl (by first | rfl | (simp [Act.eval]; done) | (go_simp; done)) (R := PRes (α := S60) w0 wd_4 g en (fun t => xD8 wd_4 (xC8 t)) (.error x)) (xDa g _ en _ w0 wd_4 ESd_4.out.rs.start HX.out) ?_
    rintro e w2 ⟨rfl, h2⟩
    exact .inl ⟨_, rfl, ⟨rfl, ESd_4.out.rs.bad ⟨rfl, h2⟩⟩⟩
   have HX := Aside0.mk hx
   have HH := Aside0.mk h1
   clear hx h1 hh
   refine one_ (i := 3) (N := some 91) #[true, true, true, true, false, false, false, false] rfl rfl (by kernel_rfl) (by decide) (fun K hK => ?_)
   refine xD5 Tryd.func34 (by kernel_rfl) rfl #[.pointer (some ⟨g, 0, none⟩)] (by rfl) rfl rfl (by first | rfl | (simp [Act.eval]; done) | (go_simp; done)) (R := PRes (α := S60) w0 wd_4 g en (fun t => xD8 wd_4 (xC8 t)) (.ok (a4, T4))) (xDa g _ en _ w0 wd_4 ESd_4.out.rs.start HX.out) ?_
   rintro e w2_4 ⟨⟨v, rfl, hN⟩, h2⟩
   obtain ⟨A_4, c_4, rfl⟩ := Kd.N_slice hN
   have ESc_4 := Aside0.mk (ESd_4.out.call h2)
   have SZ := Aside0.mk h2.kb.1
   have HV := Aside0.mk hN
   clear hN h2
   refine .inr ⟨_, rfl, ?_⟩
   try clear hHeld
   refine hK.out _ _ ((xA4 ESc_4.out.nb 4).trans rfl) (fun hHeld => ?_)
   clear hK K
   refine xCp (a' := ?_) ?_ ?_
   rotate_left
   ·show Act.put _ (some 91) _ = _
    simp only [Act.put, List.setIfInBounds_toArray, List.set_cons_zero, List.set_cons_succ, xB1, xB2]
    rfl
   refine one_ (i := 4) (N := some 92) #[true, true, true, true, true, false, false, false] rfl rfl (by kernel_rfl) (by decide) (fun K hK => ?_)
   refine Kd.N_lit_step k25 (w0 := w2_4) w2_4.heap.size 25 (by rfl) (N' := 92) rfl (xs := [(xC8 a4)]) (inner := [.string (xC8 a4).f0, .string (xC8 a4).f1, .int .i64 (xC8 a4).f2, .int .i64 (xC8 a4).f3, .slice A_4 (xC8 a4).f4.length c_4]) (ok := (fun k => wd_4.heap.size ≤ k)) (okp := (fun k => wd_4.heap.size ≤ k)) ?hr ((Reps.none _ _).snoc (xCn HV.out) rfl) (fun _ hk => hk) ?hf (Below.refl _ _) (Nat.le_refl _) (by show 1 ≤ 9223372036854775807; decide) ?_
   case hr => first | (go_simp; done) | (go_simp; rfl)
   case hf => exact SZ.out
   intro v7 w7_4 hN7 hb7 hg7 hat7
   obtain ⟨A7, c7, rfl⟩ := Kd.N_slice hN7
   have ESp_4 := Aside0.mk (ESc_4.out.below hb7)
   have HN7 := Aside0.mk hN7
   clear hN7 hb7 hg7 hat7
   try clear hHeld
   refine hK.out _ _ ((xA4 ESp_4.out.nb 4).trans rfl) (fun hHeld => ?_)
   clear hK K
   refine xCp (a' := ?_) ?_ ?_
   rotate_left
   ·show Act.put _ (some 92) _ = _
    simp only [Act.put, List.setIfInBounds_toArray, List.set_cons_zero, List.set_cons_succ, xB1, xB2]
    rfl
   refine one_ (i := 5) (N := some 93) #[true, true, true, true, true, true, false, false] rfl rfl (by kernel_rfl) (by decide) (fun K hK => ?_)
   refine Kd.N_append_rows_step k25 (w0 := w7_4) w.heap.size (by rfl) (.tmp 89) (.tmp 92) 23 25 (.agg #[.string (⟨#[]⟩ : ByteArray), .string (⟨#[]⟩ : ByteArray), .int .i64 0, .int .i64 0, .slice none 0 0]) 72 rfl Tryd.underlying23 xDh rfl (by decide) (by decide) (.slice A8_2 1 c8_2) (([] : List S25) ++ [a2]) [(xC8 a4)] A7 1 c7 (fun k => w.heap.size ≤ k ∧ k ≠ w.heap.size ∧ k ≠ bn) (fun k => wd_4.heap.size ≤ k) rfl rfl ESp_4.out.row (Kd.N_F HN7.out) ?hokp ?hfresh (Below.refl _ _) ?hbase (by first | omega | (simp; done) | (simp; omega)) ?_
   case hokp => intro k hk; have h1 := ESd_4.out.lt.1; have h2 := ESd_4.out.lt.2.1; have h3 := ESd_4.out.rs.kb.1; exact ⟨⟨by omega, by omega, by omega⟩, fun e => by have := (ESd_4.out.lt.2.2 k e.symm).1; omega⟩
   case hfresh => intro k hk; have h1 := ESp_4.out.lt.1; have h2 := ESp_4.out.lt.2.1; have h3 := ESp_4.out.rs.kb.1; exact ⟨by omega, by omega, by omega⟩
   case hbase => exact ESp_4.out.rs.kb.1
   intro v8 w8_4 hN8 hb8 hg8 hat8
   obtain ⟨A8_4, c8_4, hv8⟩ := Kd.N_slice hN8
   rw [show ((([] : List S25) ++ [a2]) ++ [(xC8 a4)]).length = 2 by simp] at hv8
   subst hv8
   have ESa := Aside0.mk (ESp_4.out.append hN8 hg8)
   obtain ⟨_, _, hnb8⟩ := ESp_4.out.grown hN8 hg8
   have hn4b := (xA4 hnb8 4).trans rfl
   have hf4b := xA5 hnb8 4
   clear hN8 hb8 hg8 hat8 hnb8
   try clear hHeld
   refine hK.out _ _ hn4b (fun hHeld => ?_)
   clear hK K
   refine xCp (a' := ?_) ?_ ?_
   rotate_left
   ·show Act.put _ (some 93) _ = _
    simp only [Act.put, List.setIfInBounds_toArray, List.set_cons_zero, List.set_cons_succ, xB1, xB2]
    rfl
   refine xC1 (i := 6) (N := some 94) (v := ?_) (a' := ?_) #[true, true, true, true, true, true, true, false] rfl rfl (by kernel_rfl) (fun _ _ _ h => h) (Or.inl ⟨by rfl, ?_⟩) ?_ ?_
   rotate_left
   ·intro w'
    go_simp
    with_reducible rfl
   rotate_left
   ·simp only [Act.put, List.setIfInBounds_toArray, List.set_cons_zero, List.set_cons_succ, xB1, xB2]
    rfl
   refine xG0 (i := 7) (N := none) #[true, true, true, true, true, true, true, true] rfl rfl (by kernel_rfl) (by decide) (fun K hK => ?_)
   refine xF3 (w1 := ?_) (by rfl) rfl ?_ ?_
   rotate_left
   ·go_simp
    rfl
   refine hK.out _ _ ?_
   clear hK K
   refine xFe (by kernel_rfl) ?_
   clear hHeld x4 hn4b hf4b ESd_4 ESc_4 ESp_4 HN7 HV SZ HX
   go_upto_region 17 with (fail)
   generalize hW9 : World.setCell w8_4 _ _ = W9_4
   have ESb4 := Aside0.mk (show ExP w0 w W9_4 g _ en w.heap.size bn t.f1 ⟨#[]⟩ 0 (xB4 (t :: T) en) (.slice A8_4 2 c8_4) ((([] : List S25) ++ [a2]) ++ [(xC8 a4)]) from by rw [← hW9]; exact ESa.out)
   clear hW9 ESa
   have hh := HH.out
   clear HH
   rcases xBd hh with ⟨x, hx, rfl⟩ | ⟨u, T5, hx, h1⟩
   ·have HX := Aside0.mk hx
    clear hx hh
    go_wp2_with (go_at_call 36; (with_reducible refine (xBy HX.out g w0 _ ESb4.out.rs.start).mono ?_); rintro e w2 ⟨rfl, h2⟩; exact ⟨rfl, ESb4.out.rs.bad ⟨rfl, h2⟩⟩)
   have HX := Aside0.mk hx
   have HH := Aside0.mk h1
   clear hx h1 hh
   go_upto_region 18 with (go_at_call 36; (with_reducible refine (xC5 HX.out g w0 _ ESb4.out.rs.start).mono ?_); rintro e w_5 ⟨rfl, h2⟩; have ES5 := Aside0.mk (ESb4.out.call h2); clear h2)
   clear HX ESb4
   refine xDt (n := 8) (S := fun w' => w'.cell? ⟨bn, 4, none⟩ = some (.slice A8_4 2 c8_4)) (ds := [7]) #[false, false, false, false, false, false, false, false] (by kernel_rfl) rfl rfl ?hS (fun hHeld => ?_)
   case hS => exact (xA4 (xAc ES5.out.nb) 4).trans rfl
   have ESd_6 := Aside0.mk ES5.out.drew
   clear ES5
   generalize World.drew w_5 = wd_6 at *
   have x4 := (xA4 ESd_6.out.nb 4).trans rfl
   refine xC1 (i := 0) (N := some 97) (v := ?_) (a' := ?_) #[true, false, false, false, false, false, false, false] rfl rfl (by kernel_rfl) (fun _ _ _ h => h) (Or.inl ⟨by rfl, ?_⟩) ?_ ?_
   rotate_left
   ·intro w'
    go_simp
    with_reducible rfl
   rotate_left
   ·simp only [Act.put, List.setIfInBounds_toArray, List.set_cons_zero, List.set_cons_succ, xB1, xB2]
    rfl
   refine xC1 (i := 2) (N := some 99) (v := ?_) (a' := ?_) #[true, false, true, false, false, false, false, false] rfl rfl (by kernel_rfl) (fun _ _ _ h => h) (Or.inl ⟨by rfl, ?_⟩) ?_ ?_
   rotate_left
   ·intro w'
    go_simp
    with_reducible rfl
   rotate_left
   ·simp only [Act.put, List.setIfInBounds_toArray, List.set_cons_zero, List.set_cons_succ, xB1, xB2]
    rfl
   refine xDu (i := 1) (N := some 98) (v := ?_) (a' := ?_) #[true, true, true, false, false, false, false, false] rfl rfl (by kernel_rfl) (fun _ _ _ h => h) (Or.inl ⟨by rfl, ?_⟩) hHeld ?_ ?_
   rotate_left
   ·rintro w' s0
    go_simp
    with_reducible rfl
   rotate_left
   ·simp only [Act.put, List.setIfInBounds_toArray, List.set_cons_zero, List.set_cons_succ, xB1, xB2]
    rfl
   have hh := HH.out
   clear HH
   rcases xBd hh with ⟨x, hx, rfl⟩ | ⟨a6, T6, hx, h1⟩
   ·have HX := Aside0.mk hx
    clear hx hh
    refine one_ (i := 3) (N := some 100) #[true, true, true, true, false, false, false, false] rfl rfl (by kernel_rfl) (by decide) (fun K hK => ?_)
    refine xD5 Tryd.func34 (by kernel_rfl) rfl #[.pointer (some ⟨g, 0, none⟩)] (by rfl) rfl rfl (by first | rfl | (simp [Act.eval]; done) | (go_simp; done)) (R := PRes (α := S60) w0 wd_6 g en (fun t => xD8 wd_6 (xC8 t)) (.error x)) (xDa g _ en _ w0 wd_6 ESd_6.out.rs.start HX.out) ?_
    rintro e w2 ⟨rfl, h2⟩
    exact .inl ⟨_, rfl, ⟨rfl, ESd_6.out.rs.bad ⟨rfl, h2⟩⟩⟩
   have HX := Aside0.mk hx
   have HH := Aside0.mk h1
   clear hx h1 hh
   refine one_ (i := 3) (N := some 100) #[true, true, true, true, false, false, false, false] rfl rfl (by kernel_rfl) (by decide) (fun K hK => ?_)
   refine xD5 Tryd.func34 (by kernel_rfl) rfl #[.pointer (some ⟨g, 0, none⟩)] (by rfl) rfl rfl (by first | rfl | (simp [Act.eval]; done) | (go_simp; done)) (R := PRes (α := S60) w0 wd_6 g en (fun t => xD8 wd_6 (xC8 t)) (.ok (a6, T6))) (xDa g _ en _ w0 wd_6 ESd_6.out.rs.start HX.out) ?_
   rintro e w2_6 ⟨⟨v, rfl, hN⟩, h2⟩
   obtain ⟨A_6, c_6, rfl⟩ := Kd.N_slice hN
   have ESc_6 := Aside0.mk (ESd_6.out.call h2)
   have SZ := Aside0.mk h2.kb.1
   have HV := Aside0.mk hN
   clear hN h2
   refine .inr ⟨_, rfl, ?_⟩
   try clear hHeld
   refine hK.out _ _ ((xA4 ESc_6.out.nb 4).trans rfl) (fun hHeld => ?_)
   clear hK K
   refine xCp (a' := ?_) ?_ ?_
   rotate_left
   ·show Act.put _ (some 100) _ = _
    simp only [Act.put, List.setIfInBounds_toArray, List.set_cons_zero, List.set_cons_succ, xB1, xB2]
    rfl
   refine one_ (i := 4) (N := some 101) #[true, true, true, true, true, false, false, false] rfl rfl (by kernel_rfl) (by decide) (fun K hK => ?_)
   refine Kd.N_lit_step k25 (w0 := w2_6) w2_6.heap.size 25 (by rfl) (N' := 101) rfl (xs := [(xC8 a6)]) (inner := [.string (xC8 a6).f0, .string (xC8 a6).f1, .int .i64 (xC8 a6).f2, .int .i64 (xC8 a6).f3, .slice A_6 (xC8 a6).f4.length c_6]) (ok := (fun k => wd_6.heap.size ≤ k)) (okp := (fun k => wd_6.heap.size ≤ k)) ?hr ((Reps.none _ _).snoc (xCn HV.out) rfl) (fun _ hk => hk) ?hf (Below.refl _ _) (Nat.le_refl _) (by show 1 ≤ 9223372036854775807; decide) ?_
   case hr => first | (go_simp; done) | (go_simp; rfl)
   case hf => exact SZ.out
   intro v7 w7_6 hN7 hb7 hg7 hat7
   obtain ⟨A7, c7, rfl⟩ := Kd.N_slice hN7
   have ESp_6 := Aside0.mk (ESc_6.out.below hb7)
   have HN7 := Aside0.mk hN7
   clear hN7 hb7 hg7 hat7
   try clear hHeld
   refine hK.out _ _ ((xA4 ESp_6.out.nb 4).trans rfl) (fun hHeld => ?_)
   clear hK K
   refine xCp (a' := ?_) ?_ ?_
   rotate_left
   ·show Act.put _ (some 101) _ = _
    simp only [Act.put, List.setIfInBounds_toArray, List.set_cons_zero, List.set_cons_succ, xB1, xB2]
    rfl
   refine one_ (i := 5) (N := some 102) #[true, true, true, true, true, true, false, false] rfl rfl (by kernel_rfl) (by decide) (fun K hK => ?_)
   refine Kd.N_append_rows_step k25 (w0 := w7_6) w.heap.size (by rfl) (.tmp 98) (.tmp 101) 23 25 (.agg #[.string (⟨#[]⟩ : ByteArray), .string (⟨#[]⟩ : ByteArray), .int .i64 0, .int .i64 0, .slice none 0 0]) 72 rfl Tryd.underlying23 xDh rfl (by decide) (by decide) (.slice A8_4 2 c8_4) ((([] : List S25) ++ [a2]) ++ [(xC8 a4)]) [(xC8 a6)] A7 1 c7 (fun k => w.heap.size ≤ k ∧ k ≠ w.heap.size ∧ k ≠ bn) (fun k => wd_6.heap.size ≤ k) rfl rfl ESp_6.out.row (Kd.N_F HN7.out) ?hokp ?hfresh (Below.refl _ _) ?hbase (by first | omega | (simp; done) | (simp; omega)) ?_
   case hokp => intro k hk; have h1 := ESd_6.out.lt.1; have h2 := ESd_6.out.lt.2.1; have h3 := ESd_6.out.rs.kb.1; exact ⟨⟨by omega, by omega, by omega⟩, fun e => by have := (ESd_6.out.lt.2.2 k e.symm).1; omega⟩
   case hfresh => intro k hk; have h1 := ESp_6.out.lt.1; have h2 := ESp_6.out.lt.2.1; have h3 := ESp_6.out.rs.kb.1; exact ⟨by omega, by omega, by omega⟩
   case hbase => exact ESp_6.out.rs.kb.1
   intro v8 w8_6 hN8 hb8 hg8 hat8
   obtain ⟨A8_6, c8_6, hv8⟩ := Kd.N_slice hN8
   rw [show (((([] : List S25) ++ [a2]) ++ [(xC8 a4)]) ++ [(xC8 a6)]).length = 3 by simp] at hv8
   subst hv8
   have ESa := Aside0.mk (ESp_6.out.append hN8 hg8)
   obtain ⟨_, _, hnb8⟩ := ESp_6.out.grown hN8 hg8
   have hn4b := (xA4 hnb8 4).trans rfl
   have hf4b := xA5 hnb8 4
   clear hN8 hb8 hg8 hat8 hnb8
   try clear hHeld
   refine hK.out _ _ hn4b (fun hHeld => ?_)
   clear hK K
   refine xCp (a' := ?_) ?_ ?_
   rotate_left
   ·show Act.put _ (some 102) _ = _
    simp only [Act.put, List.setIfInBounds_toArray, List.set_cons_zero, List.set_cons_succ, xB1, xB2]
    rfl
   refine xC1 (i := 6) (N := some 103) (v := ?_) (a' := ?_) #[true, true, true, true, true, true, true, false] rfl rfl (by kernel_rfl) (fun _ _ _ h => h) (Or.inl ⟨by rfl, ?_⟩) ?_ ?_
   rotate_left
   ·intro w'
    go_simp
    with_reducible rfl
   rotate_left
   ·simp only [Act.put, List.setIfInBounds_toArray, List.set_cons_zero, List.set_cons_succ, xB1, xB2]
    rfl
   refine xG0 (i := 7) (N := none) #[true, true, true, true, true, true, true, true] rfl rfl (by kernel_rfl) (by decide) (fun K hK => ?_)
   refine xF3 (w1 := ?_) (by rfl) rfl ?_ ?_
   rotate_left
   ·go_simp
    rfl
   refine hK.out _ _ ?_
   clear hK K
   refine xFe (by kernel_rfl) ?_
   clear hHeld x4 hn4b hf4b ESd_6 ESc_6 ESp_6 HN7 HV SZ HX
   go_upto_region 29 with (fail)
   generalize hW9 : World.setCell w8_6 _ _ = W9_6
   have ESb6 := Aside0.mk (show ExP w0 w W9_6 g _ en w.heap.size bn t.f1 ⟨#[]⟩ 0 (xB4 (t :: T) en) (.slice A8_6 3 c8_6) (((([] : List S25) ++ [a2]) ++ [(xC8 a4)]) ++ [(xC8 a6)]) from by rw [← hW9]; exact ESa.out)
   clear hW9 ESa
   have hq := HH.out
   clear HH
   rw [xEf] at hq
   have HH := Aside0.mk hq
   clear hq
   have hh := HH.out
   clear HH
   rcases xBd hh with ⟨x, hx, rfl⟩ | ⟨u, T7, hx, h1⟩
   ·have HX := Aside0.mk hx
    clear hx hh
    go_wp2_with (go_at_call 36; (with_reducible refine (xBy HX.out g w0 _ ESb6.out.rs.start).mono ?_); rintro e w2 ⟨rfl, h2⟩; exact ⟨rfl, ESb6.out.rs.bad ⟨rfl, h2⟩⟩)
   have HX := Aside0.mk hx
   have HH := Aside0.mk h1
   clear hx h1 hh
   go_upto_region 30 with (go_at_call 36; (with_reducible refine (xC5 HX.out g w0 _ ESb6.out.rs.start).mono ?_); rintro e w_7 ⟨rfl, h2⟩; have ES7 := Aside0.mk (ESb6.out.call h2); clear h2)
   clear HX ESb6
   have hh := HH.out
   clear HH
   simp only [Option.some.injEq] at hh
   subst hh
   obtain ⟨hn0, hn1, hn2, hn3, hn4⟩ := ey5 ES7.out.nb
   obtain ⟨hr0, hr1, hr2, hr3, hr4, hf0, hf1, hf2, hf3, hf4⟩ := ex5 ES7.out.r4
   go_wp2
   have RSz := ((((((((((ES7.out.rs).far (b := w.heap.size) (j := 0) (Nat.ne_of_lt GW.out) (Nat.le_refl _) WW.out (.string t.f1))).far (b := w.heap.size) (j := 1) (Nat.ne_of_lt GW.out) (Nat.le_refl _) WW.out (.string ⟨#[]⟩))).far (b := w.heap.size) (j := 2) (Nat.ne_of_lt GW.out) (Nat.le_refl _) WW.out (.int .i64 0))).far (b := w.heap.size) (j := 3) (Nat.ne_of_lt GW.out) (Nat.le_refl _) WW.out (.int .i64 (xB4 (t :: T) en)))).far (b := w.heap.size) (j := 4) (Nat.ne_of_lt GW.out) (Nat.le_refl _) WW.out (.slice A8_6 3 c8_6))
   have hNz := Kd.N_far (p := ⟨w.heap.size, 4, none⟩) (Kd.N_far (p := ⟨w.heap.size, 3, none⟩) (Kd.N_far (p := ⟨w.heap.size, 2, none⟩) (Kd.N_far (p := ⟨w.heap.size, 1, none⟩) (Kd.N_far (p := ⟨w.heap.size, 0, none⟩) ES7.out.row (fun k hk => hk.2.1) (.string t.f1)) (fun k hk => hk.2.1) (.string ⟨#[]⟩)) (fun k hk => hk.2.1) (.int .i64 0)) (fun k hk => hk.2.1) (.int .i64 (xB4 (t :: T) en))) (fun k hk => hk.2.1) (.slice A8_6 3 c8_6)
   refine bodyPost_ret (results_cell_row rfl _ _ w.heap.size 25 #[.string t.f1, .string ⟨#[]⟩, .int .i64 0, .int .i64 (xB4 (t :: T) en), .slice A8_6 3 c8_6] (0, 0) _ rfl (xA1 (xA1 (xA1 (xA1 (xA1 ES7.out.r4 0 (.string t.f1) rfl) 1 (.string ⟨#[]⟩) rfl) 2 (.int .i64 0) rfl) 3 (.int .i64 (xB4 (t :: T) en)) rfl) 4 (.slice A8_6 3 c8_6) rfl) Tryd.underlying25 rfl (by kernel_rfl)) rfl ?_
   exact ⟨⟨_, rfl, Kd.N_mono hNz (fun k hk => hk.1)⟩, RSz⟩
  have e0 : (t.f1.toList == ([108, 105, 110, 101, 97, 114] : List UInt8)) = false := beq_eq_false_iff_ne.2 hq0
  have hq := HH.out
  clear HH
  rw [if_neg hq0] at hq
  have HH := Aside0.mk hq
  clear hq
  clear hq0
  by_cases hq1 : t.f1.toList = ([115, 110, 97, 112, 115, 104, 111, 116] : List UInt8)
  ·skip
   have e1 : (t.f1.toList == ([115, 110, 97, 112, 115, 104, 111, 116] : List UInt8)) = true := by rw [hq1]; rfl
   have hq := HH.out
   clear HH
   rw [if_pos hq1] at hq
   have HH := Aside0.mk hq
   clear hq
   clear hq1
   have hq := HH.out
   clear HH
   simp only [xDf] at hq
   have HH := Aside0.mk hq
   clear hq
   have hh := HH.out
   clear HH
   rcases xBd hh with ⟨x, hx, rfl⟩ | ⟨u, T8, hx, h1⟩
   ·have HX := Aside0.mk hx
    clear hx hh
    go_wp2_with (go_at_call 36; (with_reducible refine (xBy HX.out g w0 _ ESb2.out.rs.start).mono ?_); rintro e w2 ⟨rfl, h2⟩; exact ⟨rfl, ESb2.out.rs.bad ⟨rfl, h2⟩⟩)
   have HX := Aside0.mk hx
   have HH := Aside0.mk h1
   clear hx h1 hh
   go_upto_region 21 with (go_at_call 36; (with_reducible refine (xC5 HX.out g w0 _ ESb2.out.rs.start).mono ?_); rintro e w_8 ⟨rfl, h2⟩; have ES8 := Aside0.mk (ESb2.out.call h2); clear h2)
   clear HX ESb2
   refine xDt (n := 10) (S := fun w' => w'.cell? ⟨bn, 4, none⟩ = some (.slice A8_2 1 c8_2)) (ds := [9]) #[false, false, false, false, false, false, false, false, false, false] (by kernel_rfl) rfl rfl ?hS (fun hHeld => ?_)
   case hS => exact (xA4 (xAc ES8.out.nb) 4).trans rfl
   have ESd_9 := Aside0.mk ES8.out.drew
   clear ES8
   generalize World.drew w_8 = wd_9 at *
   have x4 := (xA4 ESd_9.out.nb 4).trans rfl
   refine xC1 (i := 0) (N := some 108) (v := ?_) (a' := ?_) #[true, false, false, false, false, false, false, false, false, false] rfl rfl (by kernel_rfl) (fun _ _ _ h => h) (Or.inl ⟨by rfl, ?_⟩) ?_ ?_
   rotate_left
   ·intro w'
    go_simp
    with_reducible rfl
   rotate_left
   ·simp only [Act.put, List.setIfInBounds_toArray, List.set_cons_zero, List.set_cons_succ, xB1, xB2]
    rfl
   refine xC1 (i := 2) (N := some 110) (v := ?_) (a' := ?_) #[true, false, true, false, false, false, false, false, false, false] rfl rfl (by kernel_rfl) (fun _ _ _ h => h) (Or.inl ⟨by rfl, ?_⟩) ?_ ?_
   rotate_left
   ·intro w'
    go_simp
    with_reducible rfl
   rotate_left
   ·simp only [Act.put, List.setIfInBounds_toArray, List.set_cons_zero, List.set_cons_succ, xB1, xB2]
    rfl
   refine xC1 (i := 3) (N := some 111) (v := ?_) (a' := ?_) #[true, false, true, true, false, false, false, false, false, false] rfl rfl (by kernel_rfl) (fun _ _ _ h => h) (Or.inl ⟨by rfl, ?_⟩) ?_ ?_
   rotate_left
   ·intro w'
    go_simp
    with_reducible rfl
   rotate_left
   ·simp only [Act.put, List.setIfInBounds_toArray, List.set_cons_zero, List.set_cons_succ, xB1, xB2]
    rfl
   refine xC1 (i := 4) (N := some 112) (v := ?_) (a' := ?_) #[true, false, true, true, true, false, false, false, false, false] rfl rfl (by kernel_rfl) (fun _ _ _ h => h) (Or.inl ⟨by rfl, ?_⟩) ?_ ?_
   rotate_left
   ·intro w'
    go_simp
    with_reducible rfl
   rotate_left
   ·simp only [Act.put, List.setIfInBounds_toArray, List.set_cons_zero, List.set_cons_succ, xB1, xB2]
    rfl
   refine xDu (i := 1) (N := some 109) (v := ?_) (a' := ?_) #[true, true, true, true, true, false, false, false, false, false] rfl rfl (by kernel_rfl) (fun _ _ _ h => h) (Or.inl ⟨by rfl, ?_⟩) hHeld ?_ ?_
   rotate_left
   ·rintro w' s0
    go_simp
    with_reducible rfl
   rotate_left
   ·simp only [Act.put, List.setIfInBounds_toArray, List.set_cons_zero, List.set_cons_succ, xB1, xB2]
    rfl
   have hh := HH.out
   clear HH
   rcases xBd hh with ⟨x, hx, rfl⟩ | ⟨a9, T9, hx, h1⟩
   ·have HX := Aside0.mk hx
    clear hx hh
    refine one_ (i := 5) (N := some 113) #[true, true, true, true, true, true, false, false, false, false] rfl rfl (by kernel_rfl) (by decide) (fun K hK => ?_)
    refine xD5 Tryd.func37 (by kernel_rfl) rfl #[.pointer (some ⟨g, 0, none⟩), .int .i64 (wrap64 (nest + 1))] (by rfl) rfl rfl (by first | rfl | (simp [Act.eval]; done) | (go_simp; done)) (R := PRes (α := S25) w0 wd_9 g en (xD8 wd_9) (.error x)) (by rw [HWR.out]; exact (IH.out).use g _ en _ _ w0 wd_9 ESd_9.out.rs.start HX.out) ?_
    rintro e w2 ⟨rfl, h2⟩
    exact .inl ⟨_, rfl, ⟨rfl, ESd_9.out.rs.bad ⟨rfl, h2⟩⟩⟩
   have HX := Aside0.mk hx
   have HH := Aside0.mk h1
   clear hx h1 hh
   refine one_ (i := 5) (N := some 113) #[true, true, true, true, true, true, false, false, false, false] rfl rfl (by kernel_rfl) (by decide) (fun K hK => ?_)
   refine xD5 Tryd.func37 (by kernel_rfl) rfl #[.pointer (some ⟨g, 0, none⟩), .int .i64 (wrap64 (nest + 1))] (by rfl) rfl rfl (by first | rfl | (simp [Act.eval]; done) | (go_simp; done)) (R := PRes (α := S25) w0 wd_9 g en (xD8 wd_9) (.ok (a9, T9))) (by rw [HWR.out]; exact (IH.out).use g _ en _ _ w0 wd_9 ESd_9.out.rs.start HX.out) ?_
   rintro e w2_9 ⟨⟨v, rfl, hN⟩, h2⟩
   obtain ⟨A_9, c_9, rfl⟩ := Kd.N_slice hN
   have ESc_9 := Aside0.mk (ESd_9.out.call h2)
   have SZ := Aside0.mk h2.kb.1
   have HV := Aside0.mk hN
   clear hN h2
   refine .inr ⟨_, rfl, ?_⟩
   try clear hHeld
   refine hK.out _ _ ((xA4 ESc_9.out.nb 4).trans rfl) (fun hHeld => ?_)
   clear hK K
   refine xCp (a' := ?_) ?_ ?_
   rotate_left
   ·show Act.put _ (some 113) _ = _
    simp only [Act.put, List.setIfInBounds_toArray, List.set_cons_zero, List.set_cons_succ, xB1, xB2]
    rfl
   refine one_ (i := 6) (N := some 114) #[true, true, true, true, true, true, true, false, false, false] rfl rfl (by kernel_rfl) (by decide) (fun K hK => ?_)
   refine Kd.N_lit_step k25 (w0 := w2_9) w2_9.heap.size 25 (by rfl) (N' := 114) rfl (xs := [a9]) (inner := [.string a9.f0, .string a9.f1, .int .i64 a9.f2, .int .i64 a9.f3, .slice A_9 a9.f4.length c_9]) (ok := (fun k => wd_9.heap.size ≤ k)) (okp := (fun k => wd_9.heap.size ≤ k)) ?hr ((Reps.none _ _).snoc (xCn HV.out) rfl) (fun _ hk => hk) ?hf (Below.refl _ _) (Nat.le_refl _) (by show 1 ≤ 9223372036854775807; decide) ?_
   case hr => first | (go_simp; done) | (go_simp; rfl)
   case hf => exact SZ.out
   intro v7 w7_9 hN7 hb7 hg7 hat7
   obtain ⟨A7, c7, rfl⟩ := Kd.N_slice hN7
   have ESp_9 := Aside0.mk (ESc_9.out.below hb7)
   have HN7 := Aside0.mk hN7
   clear hN7 hb7 hg7 hat7
   try clear hHeld
   refine hK.out _ _ ((xA4 ESp_9.out.nb 4).trans rfl) (fun hHeld => ?_)
   clear hK K
   refine xCp (a' := ?_) ?_ ?_
   rotate_left
   ·show Act.put _ (some 114) _ = _
    simp only [Act.put, List.setIfInBounds_toArray, List.set_cons_zero, List.set_cons_succ, xB1, xB2]
    rfl
   refine one_ (i := 7) (N := some 115) #[true, true, true, true, true, true, true, true, false, false] rfl rfl (by kernel_rfl) (by decide) (fun K hK => ?_)
   refine Kd.N_append_rows_step k25 (w0 := w7_9) w.heap.size (by rfl) (.tmp 109) (.tmp 114) 23 25 (.agg #[.string (⟨#[]⟩ : ByteArray), .string (⟨#[]⟩ : ByteArray), .int .i64 0, .int .i64 0, .slice none 0 0]) 72 rfl Tryd.underlying23 xDh rfl (by decide) (by decide) (.slice A8_2 1 c8_2) (([] : List S25) ++ [a2]) [a9] A7 1 c7 (fun k => w.heap.size ≤ k ∧ k ≠ w.heap.size ∧ k ≠ bn) (fun k => wd_9.heap.size ≤ k) rfl rfl ESp_9.out.row (Kd.N_F HN7.out) ?hokp ?hfresh (Below.refl _ _) ?hbase (by first | omega | (simp; done) | (simp; omega)) ?_
   case hokp => intro k hk; have h1 := ESd_9.out.lt.1; have h2 := ESd_9.out.lt.2.1; have h3 := ESd_9.out.rs.kb.1; exact ⟨⟨by omega, by omega, by omega⟩, fun e => by have := (ESd_9.out.lt.2.2 k e.symm).1; omega⟩
   case hfresh => intro k hk; have h1 := ESp_9.out.lt.1; have h2 := ESp_9.out.lt.2.1; have h3 := ESp_9.out.rs.kb.1; exact ⟨by omega, by omega, by omega⟩
   case hbase => exact ESp_9.out.rs.kb.1
   intro v8 w8_9 hN8 hb8 hg8 hat8
   obtain ⟨A8_9, c8_9, hv8⟩ := Kd.N_slice hN8
   rw [show ((([] : List S25) ++ [a2]) ++ [a9]).length = 2 by simp] at hv8
   subst hv8
   have ESa := Aside0.mk (ESp_9.out.append hN8 hg8)
   obtain ⟨_, _, hnb8⟩ := ESp_9.out.grown hN8 hg8
   have hn4b := (xA4 hnb8 4).trans rfl
   have hf4b := xA5 hnb8 4
   clear hN8 hb8 hg8 hat8 hnb8
   try clear hHeld
   refine hK.out _ _ hn4b (fun hHeld => ?_)
   clear hK K
   refine xCp (a' := ?_) ?_ ?_
   rotate_left
   ·show Act.put _ (some 115) _ = _
    simp only [Act.put, List.setIfInBounds_toArray, List.set_cons_zero, List.set_cons_succ, xB1, xB2]
    rfl
   refine xC1 (i := 8) (N := some 116) (v := ?_) (a' := ?_) #[true, true, true, true, true, true, true, true, true, false] rfl rfl (by kernel_rfl) (fun _ _ _ h => h) (Or.inl ⟨by rfl, ?_⟩) ?_ ?_
   rotate_left
   ·intro w'
    go_simp
    with_reducible rfl
   rotate_left
   ·simp only [Act.put, List.setIfInBounds_toArray, List.set_cons_zero, List.set_cons_succ, xB1, xB2]
    rfl
   refine xG0 (i := 9) (N := none) #[true, true, true, true, true, true, true, true, true, true] rfl rfl (by kernel_rfl) (by decide) (fun K hK => ?_)
   refine xF3 (w1 := ?_) (by rfl) rfl ?_ ?_
   rotate_left
   ·go_simp
    rfl
   refine hK.out _ _ ?_
   clear hK K
   refine xFe (by kernel_rfl) ?_
   clear hHeld x4 hn4b hf4b ESd_9 ESc_9 ESp_9 HN7 HV SZ HX
   go_upto_region 22 with (fail)
   generalize hW9 : World.setCell w8_9 _ _ = W9_9
   have ESb9 := Aside0.mk (show ExP w0 w W9_9 g _ en w.heap.size bn t.f1 ⟨#[]⟩ 0 (xB4 (t :: T) en) (.slice A8_9 2 c8_9) ((([] : List S25) ++ [a2]) ++ [a9]) from by rw [← hW9]; exact ESa.out)
   clear hW9 ESa
   have hh := HH.out
   clear HH
   rcases xBd hh with ⟨x, hx, rfl⟩ | ⟨u, T10, hx, h1⟩
   ·have HX := Aside0.mk hx
    clear hx hh
    go_wp2_with (go_at_call 36; (with_reducible refine (xBy HX.out g w0 _ ESb9.out.rs.start).mono ?_); rintro e w2 ⟨rfl, h2⟩; exact ⟨rfl, ESb9.out.rs.bad ⟨rfl, h2⟩⟩)
   have HX := Aside0.mk hx
   have HH := Aside0.mk h1
   clear hx h1 hh
   go_upto_region 23 with (go_at_call 36; (with_reducible refine (xC5 HX.out g w0 _ ESb9.out.rs.start).mono ?_); rintro e w_10 ⟨rfl, h2⟩; have ES10 := Aside0.mk (ESb9.out.call h2); clear h2)
   clear HX ESb9
   refine xDt (n := 8) (S := fun w' => w'.cell? ⟨bn, 4, none⟩ = some (.slice A8_9 2 c8_9)) (ds := [7]) #[false, false, false, false, false, false, false, false] (by kernel_rfl) rfl rfl ?hS (fun hHeld => ?_)
   case hS => exact (xA4 (xAc ES10.out.nb) 4).trans rfl
   have ESd_11 := Aside0.mk ES10.out.drew
   clear ES10
   generalize World.drew w_10 = wd_11 at *
   have x4 := (xA4 ESd_11.out.nb 4).trans rfl
   refine xC1 (i := 0) (N := some 119) (v := ?_) (a' := ?_) #[true, false, false, false, false, false, false, false] rfl rfl (by kernel_rfl) (fun _ _ _ h => h) (Or.inl ⟨by rfl, ?_⟩) ?_ ?_
   rotate_left
   ·intro w'
    go_simp
    with_reducible rfl
   rotate_left
   ·simp only [Act.put, List.setIfInBounds_toArray, List.set_cons_zero, List.set_cons_succ, xB1, xB2]
    rfl
   refine xC1 (i := 2) (N := some 121) (v := ?_) (a' := ?_) #[true, false, true, false, false, false, false, false] rfl rfl (by kernel_rfl) (fun _ _ _ h => h) (Or.inl ⟨by rfl, ?_⟩) ?_ ?_
   rotate_left
   ·intro w'
    go_simp
    with_reducible rfl
   rotate_left
   ·simp only [Act.put, List.setIfInBounds_toArray, List.set_cons_zero, List.set_cons_succ, xB1, xB2]
    rfl
   refine xDu (i := 1) (N := some 120) (v := ?_) (a' := ?_) #[true, true, true, false, false, false, false, false] rfl rfl (by kernel_rfl) (fun _ _ _ h => h) (Or.inl ⟨by rfl, ?_⟩) hHeld ?_ ?_
   rotate_left
   ·rintro w' s0
    go_simp
    with_reducible rfl
   rotate_left
   ·simp only [Act.put, List.setIfInBounds_toArray, List.set_cons_zero, List.set_cons_succ, xB1, xB2]
    rfl
   have hh := HH.out
   clear HH
   rcases xBd hh with ⟨x, hx, rfl⟩ | ⟨a11, T11, hx, h1⟩
   ·have HX := Aside0.mk hx
    clear hx hh
    refine one_ (i := 3) (N := some 122) #[true, true, true, true, false, false, false, false] rfl rfl (by kernel_rfl) (by decide) (fun K hK => ?_)
    refine xD5 Tryd.func34 (by kernel_rfl) rfl #[.pointer (some ⟨g, 0, none⟩)] (by rfl) rfl rfl (by first | rfl | (simp [Act.eval]; done) | (go_simp; done)) (R := PRes (α := S60) w0 wd_11 g en (fun t => xD8 wd_11 (xC8 t)) (.error x)) (xDa g _ en _ w0 wd_11 ESd_11.out.rs.start HX.out) ?_
    rintro e w2 ⟨rfl, h2⟩
    exact .inl ⟨_, rfl, ⟨rfl, ESd_11.out.rs.bad ⟨rfl, h2⟩⟩⟩
   have HX := Aside0.mk hx
   have HH := Aside0.mk h1
   clear hx h1 hh
   refine one_ (i := 3) (N := some 122) #[true, true, true, true, false, false, false, false] rfl rfl (by kernel_rfl) (by decide) (fun K hK => ?_)
   refine xD5 Tryd.func34 (by kernel_rfl) rfl #[.pointer (some ⟨g, 0, none⟩)] (by rfl) rfl rfl (by first | rfl | (simp [Act.eval]; done) | (go_simp; done)) (R := PRes (α := S60) w0 wd_11 g en (fun t => xD8 wd_11 (xC8 t)) (.ok (a11, T11))) (xDa g _ en _ w0 wd_11 ESd_11.out.rs.start HX.out) ?_
   rintro e w2_11 ⟨⟨v, rfl, hN⟩, h2⟩
   obtain ⟨A_11, c_11, rfl⟩ := Kd.N_slice hN
   have ESc_11 := Aside0.mk (ESd_11.out.call h2)
   have SZ := Aside0.mk h2.kb.1
   have HV := Aside0.mk hN
   clear hN h2
   refine .inr ⟨_, rfl, ?_⟩
   try clear hHeld
   refine hK.out _ _ ((xA4 ESc_11.out.nb 4).trans rfl) (fun hHeld => ?_)
   clear hK K
   refine xCp (a' := ?_) ?_ ?_
   rotate_left
   ·show Act.put _ (some 122) _ = _
    simp only [Act.put, List.setIfInBounds_toArray, List.set_cons_zero, List.set_cons_succ, xB1, xB2]
    rfl
   refine one_ (i := 4) (N := some 123) #[true, true, true, true, true, false, false, false] rfl rfl (by kernel_rfl) (by decide) (fun K hK => ?_)
   refine Kd.N_lit_step k25 (w0 := w2_11) w2_11.heap.size 25 (by rfl) (N' := 123) rfl (xs := [(xC8 a11)]) (inner := [.string (xC8 a11).f0, .string (xC8 a11).f1, .int .i64 (xC8 a11).f2, .int .i64 (xC8 a11).f3, .slice A_11 (xC8 a11).f4.length c_11]) (ok := (fun k => wd_11.heap.size ≤ k)) (okp := (fun k => wd_11.heap.size ≤ k)) ?hr ((Reps.none _ _).snoc (xCn HV.out) rfl) (fun _ hk => hk) ?hf (Below.refl _ _) (Nat.le_refl _) (by show 1 ≤ 9223372036854775807; decide) ?_
   case hr => first | (go_simp; done) | (go_simp; rfl)
   case hf => exact SZ.out
   intro v7 w7_11 hN7 hb7 hg7 hat7
   obtain ⟨A7, c7, rfl⟩ := Kd.N_slice hN7
   have ESp_11 := Aside0.mk (ESc_11.out.below hb7)
   have HN7 := Aside0.mk hN7
   clear hN7 hb7 hg7 hat7
   try clear hHeld
   refine hK.out _ _ ((xA4 ESp_11.out.nb 4).trans rfl) (fun hHeld => ?_)
   clear hK K
   refine xCp (a' := ?_) ?_ ?_
   rotate_left
   ·show Act.put _ (some 123) _ = _
    simp only [Act.put, List.setIfInBounds_toArray, List.set_cons_zero, List.set_cons_succ, xB1, xB2]
    rfl
   refine one_ (i := 5) (N := some 124) #[true, true, true, true, true, true, false, false] rfl rfl (by kernel_rfl) (by decide) (fun K hK => ?_)
   refine Kd.N_append_rows_step k25 (w0 := w7_11) w.heap.size (by rfl) (.tmp 120) (.tmp 123) 23 25 (.agg #[.string (⟨#[]⟩ : ByteArray), .string (⟨#[]⟩ : ByteArray), .int .i64 0, .int .i64 0, .slice none 0 0]) 72 rfl Tryd.underlying23 xDh rfl (by decide) (by decide) (.slice A8_9 2 c8_9) ((([] : List S25) ++ [a2]) ++ [a9]) [(xC8 a11)] A7 1 c7 (fun k => w.heap.size ≤ k ∧ k ≠ w.heap.size ∧ k ≠ bn) (fun k => wd_11.heap.size ≤ k) rfl rfl ESp_11.out.row (Kd.N_F HN7.out) ?hokp ?hfresh (Below.refl _ _) ?hbase (by first | omega | (simp; done) | (simp; omega)) ?_
   case hokp => intro k hk; have h1 := ESd_11.out.lt.1; have h2 := ESd_11.out.lt.2.1; have h3 := ESd_11.out.rs.kb.1; exact ⟨⟨by omega, by omega, by omega⟩, fun e => by have := (ESd_11.out.lt.2.2 k e.symm).1; omega⟩
   case hfresh => intro k hk; have h1 := ESp_11.out.lt.1; have h2 := ESp_11.out.lt.2.1; have h3 := ESp_11.out.rs.kb.1; exact ⟨by omega, by omega, by omega⟩
   case hbase => exact ESp_11.out.rs.kb.1
   intro v8 w8_11 hN8 hb8 hg8 hat8
   obtain ⟨A8_11, c8_11, hv8⟩ := Kd.N_slice hN8
   rw [show (((([] : List S25) ++ [a2]) ++ [a9]) ++ [(xC8 a11)]).length = 3 by simp] at hv8
   subst hv8
   have ESa := Aside0.mk (ESp_11.out.append hN8 hg8)
   obtain ⟨_, _, hnb8⟩ := ESp_11.out.grown hN8 hg8
   have hn4b := (xA4 hnb8 4).trans rfl
   have hf4b := xA5 hnb8 4
   clear hN8 hb8 hg8 hat8 hnb8
   try clear hHeld
   refine hK.out _ _ hn4b (fun hHeld => ?_)
   clear hK K
   refine xCp (a' := ?_) ?_ ?_
   rotate_left
   ·show Act.put _ (some 124) _ = _
    simp only [Act.put, List.setIfInBounds_toArray, List.set_cons_zero, List.set_cons_succ, xB1, xB2]
    rfl
   refine xC1 (i := 6) (N := some 125) (v := ?_) (a' := ?_) #[true, true, true, true, true, true, true, false] rfl rfl (by kernel_rfl) (fun _ _ _ h => h) (Or.inl ⟨by rfl, ?_⟩) ?_ ?_
   rotate_left
   ·intro w'
    go_simp
    with_reducible rfl
   rotate_left
   ·simp only [Act.put, List.setIfInBounds_toArray, List.set_cons_zero, List.set_cons_succ, xB1, xB2]
    rfl
   refine xG0 (i := 7) (N := none) #[true, true, true, true, true, true, true, true] rfl rfl (by kernel_rfl) (by decide) (fun K hK => ?_)
   refine xF3 (w1 := ?_) (by rfl) rfl ?_ ?_
   rotate_left
   ·go_simp
    rfl
   refine hK.out _ _ ?_
   clear hK K
   refine xFe (by kernel_rfl) ?_
   clear hHeld x4 hn4b hf4b ESd_11 ESc_11 ESp_11 HN7 HV SZ HX
   go_upto_region 29 with (fail)
   generalize hW9 : World.setCell w8_11 _ _ = W9_11
   have ESb11 := Aside0.mk (show ExP w0 w W9_11 g _ en w.heap.size bn t.f1 ⟨#[]⟩ 0 (xB4 (t :: T) en) (.slice A8_11 3 c8_11) (((([] : List S25) ++ [a2]) ++ [a9]) ++ [(xC8 a11)]) from by rw [← hW9]; exact ESa.out)
   clear hW9 ESa
   have hq := HH.out
   clear HH
   rw [xEf] at hq
   have HH := Aside0.mk hq
   clear hq
   have hh := HH.out
   clear HH
   rcases xBd hh with ⟨x, hx, rfl⟩ | ⟨u, T12, hx, h1⟩
   ·have HX := Aside0.mk hx
    clear hx hh
    go_wp2_with (go_at_call 36; (with_reducible refine (xBy HX.out g w0 _ ESb11.out.rs.start).mono ?_); rintro e w2 ⟨rfl, h2⟩; exact ⟨rfl, ESb11.out.rs.bad ⟨rfl, h2⟩⟩)
   have HX := Aside0.mk hx
   have HH := Aside0.mk h1
   clear hx h1 hh
   go_upto_region 30 with (go_at_call 36; (with_reducible refine (xC5 HX.out g w0 _ ESb11.out.rs.start).mono ?_); rintro e w_12 ⟨rfl, h2⟩; have ES12 := Aside0.mk (ESb11.out.call h2); clear h2)
   clear HX ESb11
   have hh := HH.out
   clear HH
   simp only [Option.some.injEq] at hh
   subst hh
   obtain ⟨hn0, hn1, hn2, hn3, hn4⟩ := ey5 ES12.out.nb
   obtain ⟨hr0, hr1, hr2, hr3, hr4, hf0, hf1, hf2, hf3, hf4⟩ := ex5 ES12.out.r4
   go_wp2
   have RSz := ((((((((((ES12.out.rs).far (b := w.heap.size) (j := 0) (Nat.ne_of_lt GW.out) (Nat.le_refl _) WW.out (.string t.f1))).far (b := w.heap.size) (j := 1) (Nat.ne_of_lt GW.out) (Nat.le_refl _) WW.out (.string ⟨#[]⟩))).far (b := w.heap.size) (j := 2) (Nat.ne_of_lt GW.out) (Nat.le_refl _) WW.out (.int .i64 0))).far (b := w.heap.size) (j := 3) (Nat.ne_of_lt GW.out) (Nat.le_refl _) WW.out (.int .i64 (xB4 (t :: T) en)))).far (b := w.heap.size) (j := 4) (Nat.ne_of_lt GW.out) (Nat.le_refl _) WW.out (.slice A8_11 3 c8_11))
   have hNz := Kd.N_far (p := ⟨w.heap.size, 4, none⟩) (Kd.N_far (p := ⟨w.heap.size, 3, none⟩) (Kd.N_far (p := ⟨w.heap.size, 2, none⟩) (Kd.N_far (p := ⟨w.heap.size, 1, none⟩) (Kd.N_far (p := ⟨w.heap.size, 0, none⟩) ES12.out.row (fun k hk => hk.2.1) (.string t.f1)) (fun k hk => hk.2.1) (.string ⟨#[]⟩)) (fun k hk => hk.2.1) (.int .i64 0)) (fun k hk => hk.2.1) (.int .i64 (xB4 (t :: T) en))) (fun k hk => hk.2.1) (.slice A8_11 3 c8_11)
   refine bodyPost_ret (results_cell_row rfl _ _ w.heap.size 25 #[.string t.f1, .string ⟨#[]⟩, .int .i64 0, .int .i64 (xB4 (t :: T) en), .slice A8_11 3 c8_11] (0, 0) _ rfl (xA1 (xA1 (xA1 (xA1 (xA1 ES12.out.r4 0 (.string t.f1) rfl) 1 (.string ⟨#[]⟩) rfl) 2 (.int .i64 0) rfl) 3 (.int .i64 (xB4 (t :: T) en)) rfl) 4 (.slice A8_11 3 c8_11) rfl) Tryd.underlying25 rfl (by kernel_rfl)) rfl ?_
   exact ⟨⟨_, rfl, Kd.N_mono hNz (fun k hk => hk.1)⟩, RSz⟩
  have e1 : (t.f1.toList == ([115, 110, 97, 112, 115, 104, 111, 116] : List UInt8)) = false := beq_eq_false_iff_ne.2 hq1
  have hq := HH.out
  clear HH
  rw [if_neg hq1] at hq
  have HH := Aside0.mk hq
  clear hq
  clear hq1
  by_cases hq2 : t.f1.toList = ([99, 114, 121, 112, 116] : List UInt8) ∨ t.f1.toList = ([105, 110, 116, 101, 103, 114, 105, 116, 121] : List UInt8) ∨ t.f1.toList = ([118, 101, 114, 105, 116, 121] : List UInt8)
  ·skip
   have hq := HH.out
   clear HH
   rw [if_pos hq2] at hq
   have HH := Aside0.mk hq
   clear hq
   have hq := HH.out
   clear HH
   simp only [xDf] at hq
   have HH := Aside0.mk hq
   clear hq
   by_cases hq3 : t.f1.toList = ([99, 114, 121, 112, 116] : List UInt8)
   ·skip
    have e2 : (t.f1.toList == ([99, 114, 121, 112, 116] : List UInt8)) = true := by rw [hq3]; rfl
    clear hq2 hq3
    have hh := HH.out
    clear HH
    rcases xBd hh with ⟨x, hx, rfl⟩ | ⟨u, T13, hx, h1⟩
    ·have HX := Aside0.mk hx
     clear hx hh
     go_wp2_with (go_at_call 36; (with_reducible refine (xBy HX.out g w0 _ ESb2.out.rs.start).mono ?_); rintro e w2 ⟨rfl, h2⟩; exact ⟨rfl, ESb2.out.rs.bad ⟨rfl, h2⟩⟩)
    have HX := Aside0.mk hx
    have HH := Aside0.mk h1
    clear hx h1 hh
    go_upto_region 28 with (go_at_call 36; (with_reducible refine (xC5 HX.out g w0 _ ESb2.out.rs.start).mono ?_); rintro e w_13 ⟨rfl, h2⟩; have ES13 := Aside0.mk (ESb2.out.call h2); clear h2)
    clear HX ESb2
    refine xDt (n := 8) (S := fun w' => w'.cell? ⟨bn, 4, none⟩ = some (.slice A8_2 1 c8_2)) (ds := [7]) #[false, false, false, false, false, false, false, false] (by kernel_rfl) rfl rfl ?hS (fun hHeld => ?_)
    case hS => exact (xA4 (xAc ES13.out.nb) 4).trans rfl
    have ESd_14 := Aside0.mk ES13.out.drew
    clear ES13
    generalize World.drew w_13 = wd_14 at *
    have x4 := (xA4 ESd_14.out.nb 4).trans rfl
    refine xC1 (i := 0) (N := some 132) (v := ?_) (a' := ?_) #[true, false, false, false, false, false, false, false] rfl rfl (by kernel_rfl) (fun _ _ _ h => h) (Or.inl ⟨by rfl, ?_⟩) ?_ ?_
    rotate_left
    ·intro w'
     go_simp
     with_reducible rfl
    rotate_left
    ·simp only [Act.put, List.setIfInBounds_toArray, List.set_cons_zero, List.set_cons_succ, xB1, xB2]
     rfl
    refine xC1 (i := 2) (N := some 134) (v := ?_) (a' := ?_) #[true, false, true, false, false, false, false, false] rfl rfl (by kernel_rfl) (fun _ _ _ h => h) (Or.inl ⟨by rfl, ?_⟩) ?_ ?_
    rotate_left
    ·intro w'
     go_simp
     with_reducible rfl
    rotate_left
    ·simp only [Act.put, List.setIfInBounds_toArray, List.set_cons_zero, List.set_cons_succ, xB1, xB2]
     rfl
    refine xDu (i := 1) (N := some 133) (v := ?_) (a' := ?_) #[true, true, true, false, false, false, false, false] rfl rfl (by kernel_rfl) (fun _ _ _ h => h) (Or.inl ⟨by rfl, ?_⟩) hHeld ?_ ?_
    rotate_left
    ·rintro w' s0
     go_simp
     with_reducible rfl
    rotate_left
    ·simp only [Act.put, List.setIfInBounds_toArray, List.set_cons_zero, List.set_cons_succ, xB1, xB2]
     rfl
    have hh := HH.out
    clear HH
    rcases xBd hh with ⟨x, hx, rfl⟩ | ⟨a14, T14, hx, h1⟩
    ·have HX := Aside0.mk hx
     clear hx hh
     refine one_ (i := 3) (N := some 135) #[true, true, true, true, false, false, false, false] rfl rfl (by kernel_rfl) (by decide) (fun K hK => ?_)
     refine xD5 Tryd.func33 (by kernel_rfl) rfl #[.pointer (some ⟨g, 0, none⟩)] (by rfl) rfl rfl (by first | rfl | (simp [Act.eval]; done) | (go_simp; done)) (R := PRes (α := S60) w0 wd_14 g en (fun t => xD8 wd_14 (xBu t)) (.error x)) (xDy g _ en _ w0 wd_14 ESd_14.out.rs.start HX.out) ?_
     rintro e w2 ⟨rfl, h2⟩
     exact .inl ⟨_, rfl, ⟨rfl, ESd_14.out.rs.bad ⟨rfl, h2⟩⟩⟩
    have HX := Aside0.mk hx
    have HH := Aside0.mk h1
    clear hx h1 hh
    refine one_ (i := 3) (N := some 135) #[true, true, true, true, false, false, false, false] rfl rfl (by kernel_rfl) (by decide) (fun K hK => ?_)
    refine xD5 Tryd.func33 (by kernel_rfl) rfl #[.pointer (some ⟨g, 0, none⟩)] (by rfl) rfl rfl (by first | rfl | (simp [Act.eval]; done) | (go_simp; done)) (R := PRes (α := S60) w0 wd_14 g en (fun t => xD8 wd_14 (xBu t)) (.ok (a14, T14))) (xDy g _ en _ w0 wd_14 ESd_14.out.rs.start HX.out) ?_
    rintro e w2_14 ⟨⟨v, rfl, hN⟩, h2⟩
    obtain ⟨A_14, c_14, rfl⟩ := Kd.N_slice hN
    have ESc_14 := Aside0.mk (ESd_14.out.call h2)
    have SZ := Aside0.mk h2.kb.1
    have HV := Aside0.mk hN
    clear hN h2
    refine .inr ⟨_, rfl, ?_⟩
    try clear hHeld
    refine hK.out _ _ ((xA4 ESc_14.out.nb 4).trans rfl) (fun hHeld => ?_)
    clear hK K
    refine xCp (a' := ?_) ?_ ?_
    rotate_left
    ·show Act.put _ (some 135) _ = _
     simp only [Act.put, List.setIfInBounds_toArray, List.set_cons_zero, List.set_cons_succ, xB1, xB2]
     rfl
    refine one_ (i := 4) (N := some 136) #[true, true, true, true, true, false, false, false] rfl rfl (by kernel_rfl) (by decide) (fun K hK => ?_)
    refine Kd.N_lit_step k25 (w0 := w2_14) w2_14.heap.size 25 (by rfl) (N' := 136) rfl (xs := [(xBu a14)]) (inner := [.string (xBu a14).f0, .string (xBu a14).f1, .int .i64 (xBu a14).f2, .int .i64 (xBu a14).f3, .slice A_14 (xBu a14).f4.length c_14]) (ok := (fun k => wd_14.heap.size ≤ k)) (okp := (fun k => wd_14.heap.size ≤ k)) ?hr ((Reps.none _ _).snoc (xCn HV.out) rfl) (fun _ hk => hk) ?hf (Below.refl _ _) (Nat.le_refl _) (by show 1 ≤ 9223372036854775807; decide) ?_
    case hr => first | (go_simp; done) | (go_simp; rfl)
    case hf => exact SZ.out
    intro v7 w7_14 hN7 hb7 hg7 hat7
    obtain ⟨A7, c7, rfl⟩ := Kd.N_slice hN7
    have ESp_14 := Aside0.mk (ESc_14.out.below hb7)
    have HN7 := Aside0.mk hN7
    clear hN7 hb7 hg7 hat7
    try clear hHeld
    refine hK.out _ _ ((xA4 ESp_14.out.nb 4).trans rfl) (fun hHeld => ?_)
    clear hK K
    refine xCp (a' := ?_) ?_ ?_
    rotate_left
    ·show Act.put _ (some 136) _ = _
     simp only [Act.put, List.setIfInBounds_toArray, List.set_cons_zero, List.set_cons_succ, xB1, xB2]
     rfl
    refine one_ (i := 5) (N := some 137) #[true, true, true, true, true, true, false, false] rfl rfl (by kernel_rfl) (by decide) (fun K hK => ?_)
    refine Kd.N_append_rows_step k25 (w0 := w7_14) w.heap.size (by rfl) (.tmp 133) (.tmp 136) 23 25 (.agg #[.string (⟨#[]⟩ : ByteArray), .string (⟨#[]⟩ : ByteArray), .int .i64 0, .int .i64 0, .slice none 0 0]) 72 rfl Tryd.underlying23 xDh rfl (by decide) (by decide) (.slice A8_2 1 c8_2) (([] : List S25) ++ [a2]) [(xBu a14)] A7 1 c7 (fun k => w.heap.size ≤ k ∧ k ≠ w.heap.size ∧ k ≠ bn) (fun k => wd_14.heap.size ≤ k) rfl rfl ESp_14.out.row (Kd.N_F HN7.out) ?hokp ?hfresh (Below.refl _ _) ?hbase (by first | omega | (simp; done) | (simp; omega)) ?_
    case hokp => intro k hk; have h1 := ESd_14.out.lt.1; have h2 := ESd_14.out.lt.2.1; have h3 := ESd_14.out.rs.kb.1; exact ⟨⟨by omega, by omega, by omega⟩, fun e => by have := (ESd_14.out.lt.2.2 k e.symm).1; omega⟩
    case hfresh => intro k hk; have h1 := ESp_14.out.lt.1; have h2 := ESp_14.out.lt.2.1; have h3 := ESp_14.out.rs.kb.1; exact ⟨by omega, by omega, by omega⟩
    case hbase => exact ESp_14.out.rs.kb.1
    intro v8 w8_14 hN8 hb8 hg8 hat8
    obtain ⟨A8_14, c8_14, hv8⟩ := Kd.N_slice hN8
    rw [show ((([] : List S25) ++ [a2]) ++ [(xBu a14)]).length = 2 by simp] at hv8
    subst hv8
    have ESa := Aside0.mk (ESp_14.out.append hN8 hg8)
    obtain ⟨_, _, hnb8⟩ := ESp_14.out.grown hN8 hg8
    have hn4b := (xA4 hnb8 4).trans rfl
    have hf4b := xA5 hnb8 4
    clear hN8 hb8 hg8 hat8 hnb8
    try clear hHeld
    refine hK.out _ _ hn4b (fun hHeld => ?_)
    clear hK K
    refine xCp (a' := ?_) ?_ ?_
    rotate_left
    ·show Act.put _ (some 137) _ = _
     simp only [Act.put, List.setIfInBounds_toArray, List.set_cons_zero, List.set_cons_succ, xB1, xB2]
     rfl
    refine xC1 (i := 6) (N := some 138) (v := ?_) (a' := ?_) #[true, true, true, true, true, true, true, false] rfl rfl (by kernel_rfl) (fun _ _ _ h => h) (Or.inl ⟨by rfl, ?_⟩) ?_ ?_
    rotate_left
    ·intro w'
     go_simp
     with_reducible rfl
    rotate_left
    ·simp only [Act.put, List.setIfInBounds_toArray, List.set_cons_zero, List.set_cons_succ, xB1, xB2]
     rfl
    refine xG0 (i := 7) (N := none) #[true, true, true, true, true, true, true, true] rfl rfl (by kernel_rfl) (by decide) (fun K hK => ?_)
    refine xF3 (w1 := ?_) (by rfl) rfl ?_ ?_
    rotate_left
    ·go_simp
     rfl
    refine hK.out _ _ ?_
    clear hK K
    refine xFe (by kernel_rfl) ?_
    clear hHeld x4 hn4b hf4b ESd_14 ESc_14 ESp_14 HN7 HV SZ HX
    go_upto_region 29 with (fail)
    generalize hW9 : World.setCell w8_14 _ _ = W9_14
    have ESb14 := Aside0.mk (show ExP w0 w W9_14 g _ en w.heap.size bn t.f1 ⟨#[]⟩ 0 (xB4 (t :: T) en) (.slice A8_14 2 c8_14) ((([] : List S25) ++ [a2]) ++ [(xBu a14)]) from by rw [← hW9]; exact ESa.out)
    clear hW9 ESa
    have hq := HH.out
    clear HH
    rw [xEf] at hq
    have HH := Aside0.mk hq
    clear hq
    have hh := HH.out
    clear HH
    rcases xBd hh with ⟨x, hx, rfl⟩ | ⟨u, T15, hx, h1⟩
    ·have HX := Aside0.mk hx
     clear hx hh
     go_wp2_with (go_at_call 36; (with_reducible refine (xBy HX.out g w0 _ ESb14.out.rs.start).mono ?_); rintro e w2 ⟨rfl, h2⟩; exact ⟨rfl, ESb14.out.rs.bad ⟨rfl, h2⟩⟩)
    have HX := Aside0.mk hx
    have HH := Aside0.mk h1
    clear hx h1 hh
    go_upto_region 30 with (go_at_call 36; (with_reducible refine (xC5 HX.out g w0 _ ESb14.out.rs.start).mono ?_); rintro e w_15 ⟨rfl, h2⟩; have ES15 := Aside0.mk (ESb14.out.call h2); clear h2)
    clear HX ESb14
    have hh := HH.out
    clear HH
    simp only [Option.some.injEq] at hh
    subst hh
    obtain ⟨hn0, hn1, hn2, hn3, hn4⟩ := ey5 ES15.out.nb
    obtain ⟨hr0, hr1, hr2, hr3, hr4, hf0, hf1, hf2, hf3, hf4⟩ := ex5 ES15.out.r4
    go_wp2
    have RSz := ((((((((((ES15.out.rs).far (b := w.heap.size) (j := 0) (Nat.ne_of_lt GW.out) (Nat.le_refl _) WW.out (.string t.f1))).far (b := w.heap.size) (j := 1) (Nat.ne_of_lt GW.out) (Nat.le_refl _) WW.out (.string ⟨#[]⟩))).far (b := w.heap.size) (j := 2) (Nat.ne_of_lt GW.out) (Nat.le_refl _) WW.out (.int .i64 0))).far (b := w.heap.size) (j := 3) (Nat.ne_of_lt GW.out) (Nat.le_refl _) WW.out (.int .i64 (xB4 (t :: T) en)))).far (b := w.heap.size) (j := 4) (Nat.ne_of_lt GW.out) (Nat.le_refl _) WW.out (.slice A8_14 2 c8_14))
    have hNz := Kd.N_far (p := ⟨w.heap.size, 4, none⟩) (Kd.N_far (p := ⟨w.heap.size, 3, none⟩) (Kd.N_far (p := ⟨w.heap.size, 2, none⟩) (Kd.N_far (p := ⟨w.heap.size, 1, none⟩) (Kd.N_far (p := ⟨w.heap.size, 0, none⟩) ES15.out.row (fun k hk => hk.2.1) (.string t.f1)) (fun k hk => hk.2.1) (.string ⟨#[]⟩)) (fun k hk => hk.2.1) (.int .i64 0)) (fun k hk => hk.2.1) (.int .i64 (xB4 (t :: T) en))) (fun k hk => hk.2.1) (.slice A8_14 2 c8_14)
    refine bodyPost_ret (results_cell_row rfl _ _ w.heap.size 25 #[.string t.f1, .string ⟨#[]⟩, .int .i64 0, .int .i64 (xB4 (t :: T) en), .slice A8_14 2 c8_14] (0, 0) _ rfl (xA1 (xA1 (xA1 (xA1 (xA1 ES15.out.r4 0 (.string t.f1) rfl) 1 (.string ⟨#[]⟩) rfl) 2 (.int .i64 0) rfl) 3 (.int .i64 (xB4 (t :: T) en)) rfl) 4 (.slice A8_14 2 c8_14) rfl) Tryd.underlying25 rfl (by kernel_rfl)) rfl ?_
    exact ⟨⟨_, rfl, Kd.N_mono hNz (fun k hk => hk.1)⟩, RSz⟩
   have e2 : (t.f1.toList == ([99, 114, 121, 112, 116] : List UInt8)) = false := beq_eq_false_iff_ne.2 hq3
   by_cases hq4 : t.f1.toList = ([105, 110, 116, 101, 103, 114, 105, 116, 121] : List UInt8)
   ·skip
    have e3 : (t.f1.toList == ([105, 110, 116, 101, 103, 114, 105, 116, 121] : List UInt8)) = true := by rw [hq4]; rfl
    clear hq2 hq3 hq4
    have hh := HH.out
    clear HH
    rcases xBd hh with ⟨x, hx, rfl⟩ | ⟨u, T16, hx, h1⟩
    ·have HX := Aside0.mk hx
     clear hx hh
     go_wp2_with (go_at_call 36; (with_reducible refine (xBy HX.out g w0 _ ESb2.out.rs.start).mono ?_); rintro e w2 ⟨rfl, h2⟩; exact ⟨rfl, ESb2.out.rs.bad ⟨rfl, h2⟩⟩)
    have HX := Aside0.mk hx
    have HH := Aside0.mk h1
    clear hx h1 hh
    go_upto_region 28 with (go_at_call 36; (with_reducible refine (xC5 HX.out g w0 _ ESb2.out.rs.start).mono ?_); rintro e w_16 ⟨rfl, h2⟩; have ES16 := Aside0.mk (ESb2.out.call h2); clear h2)
    clear HX ESb2
    refine xDt (n := 8) (S := fun w' => w'.cell? ⟨bn, 4, none⟩ = some (.slice A8_2 1 c8_2)) (ds := [7]) #[false, false, false, false, false, false, false, false] (by kernel_rfl) rfl rfl ?hS (fun hHeld => ?_)
    case hS => exact (xA4 (xAc ES16.out.nb) 4).trans rfl
    have ESd_17 := Aside0.mk ES16.out.drew
    clear ES16
    generalize World.drew w_16 = wd_17 at *
    have x4 := (xA4 ESd_17.out.nb 4).trans rfl
    refine xC1 (i := 0) (N := some 132) (v := ?_) (a' := ?_) #[true, false, false, false, false, false, false, false] rfl rfl (by kernel_rfl) (fun _ _ _ h => h) (Or.inl ⟨by rfl, ?_⟩) ?_ ?_
    rotate_left
    ·intro w'
     go_simp
     with_reducible rfl
    rotate_left
    ·simp only [Act.put, List.setIfInBounds_toArray, List.set_cons_zero, List.set_cons_succ, xB1, xB2]
     rfl
    refine xC1 (i := 2) (N := some 134) (v := ?_) (a' := ?_) #[true, false, true, false, false, false, false, false] rfl rfl (by kernel_rfl) (fun _ _ _ h => h) (Or.inl ⟨by rfl, ?_⟩) ?_ ?_
    rotate_left
    ·intro w'
     go_simp
     with_reducible rfl
    rotate_left
    ·simp only [Act.put, List.setIfInBounds_toArray, List.set_cons_zero, List.set_cons_succ, xB1, xB2]
     rfl
    refine xDu (i := 1) (N := some 133) (v := ?_) (a' := ?_) #[true, true, true, false, false, false, false, false] rfl rfl (by kernel_rfl) (fun _ _ _ h => h) (Or.inl ⟨by rfl, ?_⟩) hHeld ?_ ?_
    rotate_left
    ·rintro w' s0
     go_simp
     with_reducible rfl
    rotate_left
    ·simp only [Act.put, List.setIfInBounds_toArray, List.set_cons_zero, List.set_cons_succ, xB1, xB2]
     rfl
    have hh := HH.out
    clear HH
    rcases xBd hh with ⟨x, hx, rfl⟩ | ⟨a17, T17, hx, h1⟩
    ·have HX := Aside0.mk hx
     clear hx hh
     refine one_ (i := 3) (N := some 135) #[true, true, true, true, false, false, false, false] rfl rfl (by kernel_rfl) (by decide) (fun K hK => ?_)
     refine xD5 Tryd.func33 (by kernel_rfl) rfl #[.pointer (some ⟨g, 0, none⟩)] (by rfl) rfl rfl (by first | rfl | (simp [Act.eval]; done) | (go_simp; done)) (R := PRes (α := S60) w0 wd_17 g en (fun t => xD8 wd_17 (xBu t)) (.error x)) (xDy g _ en _ w0 wd_17 ESd_17.out.rs.start HX.out) ?_
     rintro e w2 ⟨rfl, h2⟩
     exact .inl ⟨_, rfl, ⟨rfl, ESd_17.out.rs.bad ⟨rfl, h2⟩⟩⟩
    have HX := Aside0.mk hx
    have HH := Aside0.mk h1
    clear hx h1 hh
    refine one_ (i := 3) (N := some 135) #[true, true, true, true, false, false, false, false] rfl rfl (by kernel_rfl) (by decide) (fun K hK => ?_)
    refine xD5 Tryd.func33 (by kernel_rfl) rfl #[.pointer (some ⟨g, 0, none⟩)] (by rfl) rfl rfl (by first | rfl | (simp [Act.eval]; done) | (go_simp; done)) (R := PRes (α := S60) w0 wd_17 g en (fun t => xD8 wd_17 (xBu t)) (.ok (a17, T17))) (xDy g _ en _ w0 wd_17 ESd_17.out.rs.start HX.out) ?_
    rintro e w2_17 ⟨⟨v, rfl, hN⟩, h2⟩
    obtain ⟨A_17, c_17, rfl⟩ := Kd.N_slice hN
    have ESc_17 := Aside0.mk (ESd_17.out.call h2)
    have SZ := Aside0.mk h2.kb.1
    have HV := Aside0.mk hN
    clear hN h2
    refine .inr ⟨_, rfl, ?_⟩
    try clear hHeld
    refine hK.out _ _ ((xA4 ESc_17.out.nb 4).trans rfl) (fun hHeld => ?_)
    clear hK K
    refine xCp (a' := ?_) ?_ ?_
    rotate_left
    ·show Act.put _ (some 135) _ = _
     simp only [Act.put, List.setIfInBounds_toArray, List.set_cons_zero, List.set_cons_succ, xB1, xB2]
     rfl
    refine one_ (i := 4) (N := some 136) #[true, true, true, true, true, false, false, false] rfl rfl (by kernel_rfl) (by decide) (fun K hK => ?_)
    refine Kd.N_lit_step k25 (w0 := w2_17) w2_17.heap.size 25 (by rfl) (N' := 136) rfl (xs := [(xBu a17)]) (inner := [.string (xBu a17).f0, .string (xBu a17).f1, .int .i64 (xBu a17).f2, .int .i64 (xBu a17).f3, .slice A_17 (xBu a17).f4.length c_17]) (ok := (fun k => wd_17.heap.size ≤ k)) (okp := (fun k => wd_17.heap.size ≤ k)) ?hr ((Reps.none _ _).snoc (xCn HV.out) rfl) (fun _ hk => hk) ?hf (Below.refl _ _) (Nat.le_refl _) (by show 1 ≤ 9223372036854775807; decide) ?_
    case hr => first | (go_simp; done) | (go_simp; rfl)
    case hf => exact SZ.out
    intro v7 w7_17 hN7 hb7 hg7 hat7
    obtain ⟨A7, c7, rfl⟩ := Kd.N_slice hN7
    have ESp_17 := Aside0.mk (ESc_17.out.below hb7)
    have HN7 := Aside0.mk hN7
    clear hN7 hb7 hg7 hat7
    try clear hHeld
    refine hK.out _ _ ((xA4 ESp_17.out.nb 4).trans rfl) (fun hHeld => ?_)
    clear hK K
    refine xCp (a' := ?_) ?_ ?_
    rotate_left
    ·show Act.put _ (some 136) _ = _
     simp only [Act.put, List.setIfInBounds_toArray, List.set_cons_zero, List.set_cons_succ, xB1, xB2]
     rfl
    refine one_ (i := 5) (N := some 137) #[true, true, true, true, true, true, false, false] rfl rfl (by kernel_rfl) (by decide) (fun K hK => ?_)
    refine Kd.N_append_rows_step k25 (w0 := w7_17) w.heap.size (by rfl) (.tmp 133) (.tmp 136) 23 25 (.agg #[.string (⟨#[]⟩ : ByteArray), .string (⟨#[]⟩ : ByteArray), .int .i64 0, .int .i64 0, .slice none 0 0]) 72 rfl Tryd.underlying23 xDh rfl (by decide) (by decide) (.slice A8_2 1 c8_2) (([] : List S25) ++ [a2]) [(xBu a17)] A7 1 c7 (fun k => w.heap.size ≤ k ∧ k ≠ w.heap.size ∧ k ≠ bn) (fun k => wd_17.heap.size ≤ k) rfl rfl ESp_17.out.row (Kd.N_F HN7.out) ?hokp ?hfresh (Below.refl _ _) ?hbase (by first | omega | (simp; done) | (simp; omega)) ?_
    case hokp => intro k hk; have h1 := ESd_17.out.lt.1; have h2 := ESd_17.out.lt.2.1; have h3 := ESd_17.out.rs.kb.1; exact ⟨⟨by omega, by omega, by omega⟩, fun e => by have := (ESd_17.out.lt.2.2 k e.symm).1; omega⟩
    case hfresh => intro k hk; have h1 := ESp_17.out.lt.1; have h2 := ESp_17.out.lt.2.1; have h3 := ESp_17.out.rs.kb.1; exact ⟨by omega, by omega, by omega⟩
    case hbase => exact ESp_17.out.rs.kb.1
    intro v8 w8_17 hN8 hb8 hg8 hat8
    obtain ⟨A8_17, c8_17, hv8⟩ := Kd.N_slice hN8
    rw [show ((([] : List S25) ++ [a2]) ++ [(xBu a17)]).length = 2 by simp] at hv8
    subst hv8
    have ESa := Aside0.mk (ESp_17.out.append hN8 hg8)
    obtain ⟨_, _, hnb8⟩ := ESp_17.out.grown hN8 hg8
    have hn4b := (xA4 hnb8 4).trans rfl
    have hf4b := xA5 hnb8 4
    clear hN8 hb8 hg8 hat8 hnb8
    try clear hHeld
    refine hK.out _ _ hn4b (fun hHeld => ?_)
    clear hK K
    refine xCp (a' := ?_) ?_ ?_
    rotate_left
    ·show Act.put _ (some 137) _ = _
     simp only [Act.put, List.setIfInBounds_toArray, List.set_cons_zero, List.set_cons_succ, xB1, xB2]
     rfl
    refine xC1 (i := 6) (N := some 138) (v := ?_) (a' := ?_) #[true, true, true, true, true, true, true, false] rfl rfl (by kernel_rfl) (fun _ _ _ h => h) (Or.inl ⟨by rfl, ?_⟩) ?_ ?_
    rotate_left
    ·intro w'
     go_simp
     with_reducible rfl
    rotate_left
    ·simp only [Act.put, List.setIfInBounds_toArray, List.set_cons_zero, List.set_cons_succ, xB1, xB2]
     rfl
    refine xG0 (i := 7) (N := none) #[true, true, true, true, true, true, true, true] rfl rfl (by kernel_rfl) (by decide) (fun K hK => ?_)
    refine xF3 (w1 := ?_) (by rfl) rfl ?_ ?_
    rotate_left
    ·go_simp
     rfl
    refine hK.out _ _ ?_
    clear hK K
    refine xFe (by kernel_rfl) ?_
    clear hHeld x4 hn4b hf4b ESd_17 ESc_17 ESp_17 HN7 HV SZ HX
    go_upto_region 29 with (fail)
    generalize hW9 : World.setCell w8_17 _ _ = W9_17
    have ESb17 := Aside0.mk (show ExP w0 w W9_17 g _ en w.heap.size bn t.f1 ⟨#[]⟩ 0 (xB4 (t :: T) en) (.slice A8_17 2 c8_17) ((([] : List S25) ++ [a2]) ++ [(xBu a17)]) from by rw [← hW9]; exact ESa.out)
    clear hW9 ESa
    have hq := HH.out
    clear HH
    rw [xEf] at hq
    have HH := Aside0.mk hq
    clear hq
    have hh := HH.out
    clear HH
    rcases xBd hh with ⟨x, hx, rfl⟩ | ⟨u, T18, hx, h1⟩
    ·have HX := Aside0.mk hx
     clear hx hh
     go_wp2_with (go_at_call 36; (with_reducible refine (xBy HX.out g w0 _ ESb17.out.rs.start).mono ?_); rintro e w2 ⟨rfl, h2⟩; exact ⟨rfl, ESb17.out.rs.bad ⟨rfl, h2⟩⟩)
    have HX := Aside0.mk hx
    have HH := Aside0.mk h1
    clear hx h1 hh
    go_upto_region 30 with (go_at_call 36; (with_reducible refine (xC5 HX.out g w0 _ ESb17.out.rs.start).mono ?_); rintro e w_18 ⟨rfl, h2⟩; have ES18 := Aside0.mk (ESb17.out.call h2); clear h2)
    clear HX ESb17
    have hh := HH.out
    clear HH
    simp only [Option.some.injEq] at hh
    subst hh
    obtain ⟨hn0, hn1, hn2, hn3, hn4⟩ := ey5 ES18.out.nb
    obtain ⟨hr0, hr1, hr2, hr3, hr4, hf0, hf1, hf2, hf3, hf4⟩ := ex5 ES18.out.r4
    go_wp2
    have RSz := ((((((((((ES18.out.rs).far (b := w.heap.size) (j := 0) (Nat.ne_of_lt GW.out) (Nat.le_refl _) WW.out (.string t.f1))).far (b := w.heap.size) (j := 1) (Nat.ne_of_lt GW.out) (Nat.le_refl _) WW.out (.string ⟨#[]⟩))).far (b := w.heap.size) (j := 2) (Nat.ne_of_lt GW.out) (Nat.le_refl _) WW.out (.int .i64 0))).far (b := w.heap.size) (j := 3) (Nat.ne_of_lt GW.out) (Nat.le_refl _) WW.out (.int .i64 (xB4 (t :: T) en)))).far (b := w.heap.size) (j := 4) (Nat.ne_of_lt GW.out) (Nat.le_refl _) WW.out (.slice A8_17 2 c8_17))
    have hNz := Kd.N_far (p := ⟨w.heap.size, 4, none⟩) (Kd.N_far (p := ⟨w.heap.size, 3, none⟩) (Kd.N_far (p := ⟨w.heap.size, 2, none⟩) (Kd.N_far (p := ⟨w.heap.size, 1, none⟩) (Kd.N_far (p := ⟨w.heap.size, 0, none⟩) ES18.out.row (fun k hk => hk.2.1) (.string t.f1)) (fun k hk => hk.2.1) (.string ⟨#[]⟩)) (fun k hk => hk.2.1) (.int .i64 0)) (fun k hk => hk.2.1) (.int .i64 (xB4 (t :: T) en))) (fun k hk => hk.2.1) (.slice A8_17 2 c8_17)
    refine bodyPost_ret (results_cell_row rfl _ _ w.heap.size 25 #[.string t.f1, .string ⟨#[]⟩, .int .i64 0, .int .i64 (xB4 (t :: T) en), .slice A8_17 2 c8_17] (0, 0) _ rfl (xA1 (xA1 (xA1 (xA1 (xA1 ES18.out.r4 0 (.string t.f1) rfl) 1 (.string ⟨#[]⟩) rfl) 2 (.int .i64 0) rfl) 3 (.int .i64 (xB4 (t :: T) en)) rfl) 4 (.slice A8_17 2 c8_17) rfl) Tryd.underlying25 rfl (by kernel_rfl)) rfl ?_
    exact ⟨⟨_, rfl, Kd.N_mono hNz (fun k hk => hk.1)⟩, RSz⟩
   have e3 : (t.f1.toList == ([105, 110, 116, 101, 103, 114, 105, 116, 121] : List UInt8)) = false := beq_eq_false_iff_ne.2 hq4
   have hq5 : t.f1.toList = ([118, 101, 114, 105, 116, 121] : List UInt8) := by simpa [hq3, hq4] using hq2
   have e4 : (t.f1.toList == ([118, 101, 114, 105, 116, 121] : List UInt8)) = true := by rw [hq5]; rfl
   clear hq2 hq3 hq4 hq5
   have hh := HH.out
   clear HH
   rcases xBd hh with ⟨x, hx, rfl⟩ | ⟨u, T19, hx, h1⟩
   ·have HX := Aside0.mk hx
    clear hx hh
    go_wp2_with (go_at_call 36; (with_reducible refine (xBy HX.out g w0 _ ESb2.out.rs.start).mono ?_); rintro e w2 ⟨rfl, h2⟩; exact ⟨rfl, ESb2.out.rs.bad ⟨rfl, h2⟩⟩)
   have HX := Aside0.mk hx
   have HH := Aside0.mk h1
   clear hx h1 hh
   go_upto_region 28 with (go_at_call 36; (with_reducible refine (xC5 HX.out g w0 _ ESb2.out.rs.start).mono ?_); rintro e w_19 ⟨rfl, h2⟩; have ES19 := Aside0.mk (ESb2.out.call h2); clear h2)
   clear HX ESb2
   refine xDt (n := 8) (S := fun w' => w'.cell? ⟨bn, 4, none⟩ = some (.slice A8_2 1 c8_2)) (ds := [7]) #[false, false, false, false, false, false, false, false] (by kernel_rfl) rfl rfl ?hS (fun hHeld => ?_)
   case hS => exact (xA4 (xAc ES19.out.nb) 4).trans rfl
   have ESd_20 := Aside0.mk ES19.out.drew
   clear ES19
   generalize World.drew w_19 = wd_20 at *
   have x4 := (xA4 ESd_20.out.nb 4).trans rfl
   refine xC1 (i := 0) (N := some 132) (v := ?_) (a' := ?_) #[true, false, false, false, false, false, false, false] rfl rfl (by kernel_rfl) (fun _ _ _ h => h) (Or.inl ⟨by rfl, ?_⟩) ?_ ?_
   rotate_left
   ·intro w'
    go_simp
    with_reducible rfl
   rotate_left
   ·simp only [Act.put, List.setIfInBounds_toArray, List.set_cons_zero, List.set_cons_succ, xB1, xB2]
    rfl
   refine xC1 (i := 2) (N := some 134) (v := ?_) (a' := ?_) #[true, false, true, false, false, false, false, false] rfl rfl (by kernel_rfl) (fun _ _ _ h => h) (Or.inl ⟨by rfl, ?_⟩) ?_ ?_
   rotate_left
   ·intro w'
    go_simp
    with_reducible rfl
   rotate_left
   ·simp only [Act.put, List.setIfInBounds_toArray, List.set_cons_zero, List.set_cons_succ, xB1, xB2]
    rfl
   refine xDu (i := 1) (N := some 133) (v := ?_) (a' := ?_) #[true, true, true, false, false, false, false, false] rfl rfl (by kernel_rfl) (fun _ _ _ h => h) (Or.inl ⟨by rfl, ?_⟩) hHeld ?_ ?_
   rotate_left
   ·rintro w' s0
    go_simp
    with_reducible rfl
   rotate_left
   ·simp only [Act.put, List.setIfInBounds_toArray, List.set_cons_zero, List.set_cons_succ, xB1, xB2]
    rfl
   have hh := HH.out
   clear HH
   rcases xBd hh with ⟨x, hx, rfl⟩ | ⟨a20, T20, hx, h1⟩
   ·have HX := Aside0.mk hx
    clear hx hh
    refine one_ (i := 3) (N := some 135) #[true, true, true, true, false, false, false, false] rfl rfl (by kernel_rfl) (by decide) (fun K hK => ?_)
    refine xD5 Tryd.func33 (by kernel_rfl) rfl #[.pointer (some ⟨g, 0, none⟩)] (by rfl) rfl rfl (by first | rfl | (simp [Act.eval]; done) | (go_simp; done)) (R := PRes (α := S60) w0 wd_20 g en (fun t => xD8 wd_20 (xBu t)) (.error x)) (xDy g _ en _ w0 wd_20 ESd_20.out.rs.start HX.out) ?_
    rintro e w2 ⟨rfl, h2⟩
    exact .inl ⟨_, rfl, ⟨rfl, ESd_20.out.rs.bad ⟨rfl, h2⟩⟩⟩
   have HX := Aside0.mk hx
   have HH := Aside0.mk h1
   clear hx h1 hh
   refine one_ (i := 3) (N := some 135) #[true, true, true, true, false, false, false, false] rfl rfl (by kernel_rfl) (by decide) (fun K hK => ?_)
   refine xD5 Tryd.func33 (by kernel_rfl) rfl #[.pointer (some ⟨g, 0, none⟩)] (by rfl) rfl rfl (by first | rfl | (simp [Act.eval]; done) | (go_simp; done)) (R := PRes (α := S60) w0 wd_20 g en (fun t => xD8 wd_20 (xBu t)) (.ok (a20, T20))) (xDy g _ en _ w0 wd_20 ESd_20.out.rs.start HX.out) ?_
   rintro e w2_20 ⟨⟨v, rfl, hN⟩, h2⟩
   obtain ⟨A_20, c_20, rfl⟩ := Kd.N_slice hN
   have ESc_20 := Aside0.mk (ESd_20.out.call h2)
   have SZ := Aside0.mk h2.kb.1
   have HV := Aside0.mk hN
   clear hN h2
   refine .inr ⟨_, rfl, ?_⟩
   try clear hHeld
   refine hK.out _ _ ((xA4 ESc_20.out.nb 4).trans rfl) (fun hHeld => ?_)
   clear hK K
   refine xCp (a' := ?_) ?_ ?_
   rotate_left
   ·show Act.put _ (some 135) _ = _
    simp only [Act.put, List.setIfInBounds_toArray, List.set_cons_zero, List.set_cons_succ, xB1, xB2]
    rfl
   refine one_ (i := 4) (N := some 136) #[true, true, true, true, true, false, false, false] rfl rfl (by kernel_rfl) (by decide) (fun K hK => ?_)
   refine Kd.N_lit_step k25 (w0 := w2_20) w2_20.heap.size 25 (by rfl) (N' := 136) rfl (xs := [(xBu a20)]) (inner := [.string (xBu a20).f0, .string (xBu a20).f1, .int .i64 (xBu a20).f2, .int .i64 (xBu a20).f3, .slice A_20 (xBu a20).f4.length c_20]) (ok := (fun k => wd_20.heap.size ≤ k)) (okp := (fun k => wd_20.heap.size ≤ k)) ?hr ((Reps.none _ _).snoc (xCn HV.out) rfl) (fun _ hk => hk) ?hf (Below.refl _ _) (Nat.le_refl _) (by show 1 ≤ 9223372036854775807; decide) ?_
   case hr => first | (go_simp; done) | (go_simp; rfl)
   case hf => exact SZ.out
   intro v7 w7_20 hN7 hb7 hg7 hat7
   obtain ⟨A7, c7, rfl⟩ := Kd.N_slice hN7
   have ESp_20 := Aside0.mk (ESc_20.out.below hb7)
   have HN7 := Aside0.mk hN7
   clear hN7 hb7 hg7 hat7
   try clear hHeld
   refine hK.out _ _ ((xA4 ESp_20.out.nb 4).trans rfl) (fun hHeld => ?_)
   clear hK K
   refine xCp (a' := ?_) ?_ ?_
   rotate_left
   ·show Act.put _ (some 136) _ = _
    simp only [Act.put, List.setIfInBounds_toArray, List.set_cons_zero, List.set_cons_succ, xB1, xB2]
    rfl
   refine one_ (i := 5) (N := some 137) #[true, true, true, true, true, true, false, false] rfl rfl (by kernel_rfl) (by decide) (fun K hK => ?_)
   refine Kd.N_append_rows_step k25 (w0 := w7_20) w.heap.size (by rfl) (.tmp 133) (.tmp 136) 23 25 (.agg #[.string (⟨#[]⟩ : ByteArray), .string (⟨#[]⟩ : ByteArray), .int .i64 0, .int .i64 0, .slice none 0 0]) 72 rfl Tryd.underlying23 xDh rfl (by decide) (by decide) (.slice A8_2 1 c8_2) (([] : List S25) ++ [a2]) [(xBu a20)] A7 1 c7 (fun k => w.heap.size ≤ k ∧ k ≠ w.heap.size ∧ k ≠ bn) (fun k => wd_20.heap.size ≤ k) rfl rfl ESp_20.out.row (Kd.N_F HN7.out) ?hokp ?hfresh (Below.refl _ _) ?hbase (by first | omega | (simp; done) | (simp; omega)) ?_
   case hokp => intro k hk; have h1 := ESd_20.out.lt.1; have h2 := ESd_20.out.lt.2.1; have h3 := ESd_20.out.rs.kb.1; exact ⟨⟨by omega, by omega, by omega⟩, fun e => by have := (ESd_20.out.lt.2.2 k e.symm).1; omega⟩
   case hfresh => intro k hk; have h1 := ESp_20.out.lt.1; have h2 := ESp_20.out.lt.2.1; have h3 := ESp_20.out.rs.kb.1; exact ⟨by omega, by omega, by omega⟩
   case hbase => exact ESp_20.out.rs.kb.1
   intro v8 w8_20 hN8 hb8 hg8 hat8
   obtain ⟨A8_20, c8_20, hv8⟩ := Kd.N_slice hN8
   rw [show ((([] : List S25) ++ [a2]) ++ [(xBu a20)]).length = 2 by simp] at hv8
   subst hv8
   have ESa := Aside0.mk (ESp_20.out.append hN8 hg8)
   obtain ⟨_, _, hnb8⟩ := ESp_20.out.grown hN8 hg8
   have hn4b := (xA4 hnb8 4).trans rfl
   have hf4b := xA5 hnb8 4
   clear hN8 hb8 hg8 hat8 hnb8
   try clear hHeld
   refine hK.out _ _ hn4b (fun hHeld => ?_)
   clear hK K
   refine xCp (a' := ?_) ?_ ?_
   rotate_left
   ·show Act.put _ (some 137) _ = _
    simp only [Act.put, List.setIfInBounds_toArray, List.set_cons_zero, List.set_cons_succ, xB1, xB2]
    rfl
   refine xC1 (i := 6) (N := some 138) (v := ?_) (a' := ?_) #[true, true, true, true, true, true, true, false] rfl rfl (by kernel_rfl) (fun _ _ _ h => h) (Or.inl ⟨by rfl, ?_⟩) ?_ ?_
   rotate_left
   ·intro w'
    go_simp
    with_reducible rfl
   rotate_left
   ·simp only [Act.put, List.setIfInBounds_toArray, List.set_cons_zero, List.set_cons_succ, xB1, xB2]
    rfl
   refine xG0 (i := 7) (N := none) #[true, true, true, true, true, true, true, true] rfl rfl (by kernel_rfl) (by decide) (fun K hK => ?_)
   refine xF3 (w1 := ?_) (by rfl) rfl ?_ ?_
   rotate_left
   ·go_simp
    rfl
   refine hK.out _ _ ?_
   clear hK K
   refine xFe (by kernel_rfl) ?_
   clear hHeld x4 hn4b hf4b ESd_20 ESc_20 ESp_20 HN7 HV SZ HX
   go_upto_region 29 with (fail)
   generalize hW9 : World.setCell w8_20 _ _ = W9_20
   have ESb20 := Aside0.mk (show ExP w0 w W9_20 g _ en w.heap.size bn t.f1 ⟨#[]⟩ 0 (xB4 (t :: T) en) (.slice A8_20 2 c8_20) ((([] : List S25) ++ [a2]) ++ [(xBu a20)]) from by rw [← hW9]; exact ESa.out)
   clear hW9 ESa
   have hq := HH.out
   clear HH
   rw [xEf] at hq
   have HH := Aside0.mk hq
   clear hq
   have hh := HH.out
   clear HH
   rcases xBd hh with ⟨x, hx, rfl⟩ | ⟨u, T21, hx, h1⟩
   ·have HX := Aside0.mk hx
    clear hx hh
    go_wp2_with (go_at_call 36; (with_reducible refine (xBy HX.out g w0 _ ESb20.out.rs.start).mono ?_); rintro e w2 ⟨rfl, h2⟩; exact ⟨rfl, ESb20.out.rs.bad ⟨rfl, h2⟩⟩)
   have HX := Aside0.mk hx
   have HH := Aside0.mk h1
   clear hx h1 hh
   go_upto_region 30 with (go_at_call 36; (with_reducible refine (xC5 HX.out g w0 _ ESb20.out.rs.start).mono ?_); rintro e w_21 ⟨rfl, h2⟩; have ES21 := Aside0.mk (ESb20.out.call h2); clear h2)
   clear HX ESb20
   have hh := HH.out
   clear HH
   simp only [Option.some.injEq] at hh
   subst hh
   obtain ⟨hn0, hn1, hn2, hn3, hn4⟩ := ey5 ES21.out.nb
   obtain ⟨hr0, hr1, hr2, hr3, hr4, hf0, hf1, hf2, hf3, hf4⟩ := ex5 ES21.out.r4
   go_wp2
   have RSz := ((((((((((ES21.out.rs).far (b := w.heap.size) (j := 0) (Nat.ne_of_lt GW.out) (Nat.le_refl _) WW.out (.string t.f1))).far (b := w.heap.size) (j := 1) (Nat.ne_of_lt GW.out) (Nat.le_refl _) WW.out (.string ⟨#[]⟩))).far (b := w.heap.size) (j := 2) (Nat.ne_of_lt GW.out) (Nat.le_refl _) WW.out (.int .i64 0))).far (b := w.heap.size) (j := 3) (Nat.ne_of_lt GW.out) (Nat.le_refl _) WW.out (.int .i64 (xB4 (t :: T) en)))).far (b := w.heap.size) (j := 4) (Nat.ne_of_lt GW.out) (Nat.le_refl _) WW.out (.slice A8_20 2 c8_20))
   have hNz := Kd.N_far (p := ⟨w.heap.size, 4, none⟩) (Kd.N_far (p := ⟨w.heap.size, 3, none⟩) (Kd.N_far (p := ⟨w.heap.size, 2, none⟩) (Kd.N_far (p := ⟨w.heap.size, 1, none⟩) (Kd.N_far (p := ⟨w.heap.size, 0, none⟩) ES21.out.row (fun k hk => hk.2.1) (.string t.f1)) (fun k hk => hk.2.1) (.string ⟨#[]⟩)) (fun k hk => hk.2.1) (.int .i64 0)) (fun k hk => hk.2.1) (.int .i64 (xB4 (t :: T) en))) (fun k hk => hk.2.1) (.slice A8_20 2 c8_20)
   refine bodyPost_ret (results_cell_row rfl _ _ w.heap.size 25 #[.string t.f1, .string ⟨#[]⟩, .int .i64 0, .int .i64 (xB4 (t :: T) en), .slice A8_20 2 c8_20] (0, 0) _ rfl (xA1 (xA1 (xA1 (xA1 (xA1 ES21.out.r4 0 (.string t.f1) rfl) 1 (.string ⟨#[]⟩) rfl) 2 (.int .i64 0) rfl) 3 (.int .i64 (xB4 (t :: T) en)) rfl) 4 (.slice A8_20 2 c8_20) rfl) Tryd.underlying25 rfl (by kernel_rfl)) rfl ?_
   exact ⟨⟨_, rfl, Kd.N_mono hNz (fun k hk => hk.1)⟩, RSz⟩
  obtain ⟨hq3, hq4, hq5⟩ : ¬ t.f1.toList = ([99, 114, 121, 112, 116] : List UInt8) ∧ ¬ t.f1.toList = ([105, 110, 116, 101, 103, 114, 105, 116, 121] : List UInt8) ∧ ¬ t.f1.toList = ([118, 101, 114, 105, 116, 121] : List UInt8) := ⟨fun h => hq2 (.inl h), fun h => hq2 (.inr (.inl h)), fun h => hq2 (.inr (.inr h))⟩
  have hq := HH.out
  clear HH
  rw [if_neg hq2] at hq
  have HH := Aside0.mk hq
  clear hq
  have e2 : (t.f1.toList == ([99, 114, 121, 112, 116] : List UInt8)) = false := beq_eq_false_iff_ne.2 hq3
  have e3 : (t.f1.toList == ([105, 110, 116, 101, 103, 114, 105, 116, 121] : List UInt8)) = false := beq_eq_false_iff_ne.2 hq4
  have e4 : (t.f1.toList == ([118, 101, 114, 105, 116, 121] : List UInt8)) = false := beq_eq_false_iff_ne.2 hq5
  clear hq2 hq3 hq4 hq5
  go_upto_block 1 with (fail)
  go_wp2_with (fail)
  go_loopg [] k (fun kx wr => ∃ (kk : Nat) (TT : List S60) (acc : List S25) (Lv : Value), kk ≤ kx ∧ kk ≤ k ∧ Aside0 (ExP w0 w wr g TT en w.heap.size bn t.f1 ⟨#[]⟩ 0 (xB4 (t :: T) en) Lv acc) ∧ Aside0 (pbd (pexprs kk TT en nest acc) (fun L T3 => pbd (some (xDl T3 en RP)) fun _ T4 => some (.ok ((⟨t.f1, ⟨#[]⟩, 0, t.f3, L⟩ : S25), T4))) = some r))
  case atStart => exact ⟨k, _, _, _, Nat.le_refl _, Nat.le_refl _, ESb2, HH⟩
  case round =>
   clear HH ESb2
   obtain ⟨kk, TT, acc, Lv, hk1, hk2, EL, HH⟩ := hrel
   cases kk with
   | zero => exact absurd HH.out (by rw [pexprs]; simp [pbd])
   | succ kk =>
    have hl := HH.out
    clear HH
    rw [pexprs] at hl
    obtain ⟨AL, cL, rfl⟩ := Kd.N_slice EL.out.row
    by_cases hb : acc.length ≤ 1000000
    case neg => rw [if_neg hb] at hl; cases hl
    rw [if_pos hb] at hl
    cases hp : pis TT CM with
    | false =>
     rw [hp, if_neg (by decide)] at hl
     have HH := Aside0.mk hl
     have HP := Aside0.mk hp
     clear hl hp
     go_upto_region 29 with (go_at_call 38; (with_reducible refine (xEn g _ en _ w0 _ EL.out.rs.start).mono ?_); rintro e w_l ⟨rfl, h2⟩; rw [HP.out] at h2 ⊢; have ESl := Aside0.mk (EL.out.call h2); clear h2)
     have hq := HH.out
     clear HH
     rw [xEf] at hq
     have HH := Aside0.mk hq
     clear hq
     have hh := HH.out
     clear HH
     rcases xBd hh with ⟨x, hx, rfl⟩ | ⟨u, T22, hx, h1⟩
     ·have HX := Aside0.mk hx
      clear hx hh
      go_wp2_with (go_at_call 36; (with_reducible refine (xBy HX.out g w0 _ ESl.out.rs.start).mono ?_); rintro e w2 ⟨rfl, h2⟩; exact ⟨rfl, ESl.out.rs.bad ⟨rfl, h2⟩⟩)
     have HX := Aside0.mk hx
     have HH := Aside0.mk h1
     clear hx h1 hh
     go_upto_region 30 with (go_at_call 36; (with_reducible refine (xC5 HX.out g w0 _ ESl.out.rs.start).mono ?_); rintro e w_22 ⟨rfl, h2⟩; have ES22 := Aside0.mk (ESl.out.call h2); clear h2)
     clear HX ESl
     have hh := HH.out
     clear HH
     simp only [Option.some.injEq] at hh
     subst hh
     obtain ⟨hn0, hn1, hn2, hn3, hn4⟩ := ey5 ES22.out.nb
     obtain ⟨hr0, hr1, hr2, hr3, hr4, hf0, hf1, hf2, hf3, hf4⟩ := ex5 ES22.out.r4
     go_wp2
     have RSz := ((((((((((ES22.out.rs).far (b := w.heap.size) (j := 0) (Nat.ne_of_lt GW.out) (Nat.le_refl _) WW.out (.string t.f1))).far (b := w.heap.size) (j := 1) (Nat.ne_of_lt GW.out) (Nat.le_refl _) WW.out (.string ⟨#[]⟩))).far (b := w.heap.size) (j := 2) (Nat.ne_of_lt GW.out) (Nat.le_refl _) WW.out (.int .i64 0))).far (b := w.heap.size) (j := 3) (Nat.ne_of_lt GW.out) (Nat.le_refl _) WW.out (.int .i64 (xB4 (t :: T) en)))).far (b := w.heap.size) (j := 4) (Nat.ne_of_lt GW.out) (Nat.le_refl _) WW.out (.slice AL acc.length cL))
     have hNz := Kd.N_far (p := ⟨w.heap.size, 4, none⟩) (Kd.N_far (p := ⟨w.heap.size, 3, none⟩) (Kd.N_far (p := ⟨w.heap.size, 2, none⟩) (Kd.N_far (p := ⟨w.heap.size, 1, none⟩) (Kd.N_far (p := ⟨w.heap.size, 0, none⟩) ES22.out.row (fun k hk => hk.2.1) (.string t.f1)) (fun k hk => hk.2.1) (.string ⟨#[]⟩)) (fun k hk => hk.2.1) (.int .i64 0)) (fun k hk => hk.2.1) (.int .i64 (xB4 (t :: T) en))) (fun k hk => hk.2.1) (.slice AL acc.length cL)
     refine bodyPost_ret (results_cell_row rfl _ _ w.heap.size 25 #[.string t.f1, .string ⟨#[]⟩, .int .i64 0, .int .i64 (xB4 (t :: T) en), .slice AL acc.length cL] (0, 0) _ rfl (xA1 (xA1 (xA1 (xA1 (xA1 ES22.out.r4 0 (.string t.f1) rfl) 1 (.string ⟨#[]⟩) rfl) 2 (.int .i64 0) rfl) 3 (.int .i64 (xB4 (t :: T) en)) rfl) 4 (.slice AL acc.length cL) rfl) Tryd.underlying25 rfl (by kernel_rfl)) rfl ?_
     exact ⟨⟨_, rfl, Kd.N_mono hNz (fun k hk => hk.1)⟩, RSz⟩
    | true =>
     rw [hp, if_pos rfl] at hl
     have HH := Aside0.mk hl
     have HP := Aside0.mk hp
     clear hl hp
     have hq := HH.out
     clear HH
     simp only [xDf] at hq
     have HH := Aside0.mk hq
     clear hq
     go_upto_region 13 with (go_at_call 38; (with_reducible refine (xEn g _ en _ w0 _ EL.out.rs.start).mono ?_); rintro e w_l ⟨rfl, h2⟩; rw [HP.out] at h2 ⊢; have ESl := Aside0.mk (EL.out.call h2); clear h2)
     refine xDt (n := 10) (S := fun w' => w'.cell? ⟨bn, 4, none⟩ = some (.slice AL acc.length cL)) (ds := [9]) #[false, false, false, false, false, false, false, false, false, false] (by kernel_rfl) rfl rfl ?hS (fun hHeld => ?_)
     case hS => exact (xA4 (xAc ESl.out.nb) 4).trans rfl
     have ESd_23 := Aside0.mk ESl.out.drew
     clear ESl
     generalize World.drew w_l = wd_23 at *
     have x4 := (xA4 ESd_23.out.nb 4).trans rfl
     refine xC1 (i := 0) (N := some 75) (v := ?_) (a' := ?_) #[true, false, false, false, false, false, false, false, false, false] rfl rfl (by kernel_rfl) (fun _ _ _ h => h) (Or.inl ⟨by rfl, ?_⟩) ?_ ?_
     rotate_left
     ·intro w'
      go_simp
      with_reducible rfl
     rotate_left
     ·simp only [Act.put, List.setIfInBounds_toArray, List.set_cons_zero, List.set_cons_succ, xB1, xB2]
      rfl
     refine xC1 (i := 2) (N := some 77) (v := ?_) (a' := ?_) #[true, false, true, false, false, false, false, false, false, false] rfl rfl (by kernel_rfl) (fun _ _ _ h => h) (Or.inl ⟨by rfl, ?_⟩) ?_ ?_
     rotate_left
     ·intro w'
      go_simp
      with_reducible rfl
     rotate_left
     ·simp only [Act.put, List.setIfInBounds_toArray, List.set_cons_zero, List.set_cons_succ, xB1, xB2]
      rfl
     refine xC1 (i := 3) (N := some 78) (v := ?_) (a' := ?_) #[true, false, true, true, false, false, false, false, false, false] rfl rfl (by kernel_rfl) (fun _ _ _ h => h) (Or.inl ⟨by rfl, ?_⟩) ?_ ?_
     rotate_left
     ·intro w'
      go_simp
      with_reducible rfl
     rotate_left
     ·simp only [Act.put, List.setIfInBounds_toArray, List.set_cons_zero, List.set_cons_succ, xB1, xB2]
      rfl
     refine xC1 (i := 4) (N := some 79) (v := ?_) (a' := ?_) #[true, false, true, true, true, false, false, false, false, false] rfl rfl (by kernel_rfl) (fun _ _ _ h => h) (Or.inl ⟨by rfl, ?_⟩) ?_ ?_
     rotate_left
     ·intro w'
      go_simp
      with_reducible rfl
     rotate_left
     ·simp only [Act.put, List.setIfInBounds_toArray, List.set_cons_zero, List.set_cons_succ, xB1, xB2]
      rfl
     refine xDu (i := 1) (N := some 76) (v := ?_) (a' := ?_) #[true, true, true, true, true, false, false, false, false, false] rfl rfl (by kernel_rfl) (fun _ _ _ h => h) (Or.inl ⟨by rfl, ?_⟩) hHeld ?_ ?_
     rotate_left
     ·rintro w' s0
      go_simp
      with_reducible rfl
     rotate_left
     ·simp only [Act.put, List.setIfInBounds_toArray, List.set_cons_zero, List.set_cons_succ, xB1, xB2]
      rfl
     have hh := HH.out
     clear HH
     rcases xBd hh with ⟨x, hx, rfl⟩ | ⟨a23, T23, hx, h1⟩
     ·have HX := Aside0.mk hx
      clear hx hh
      refine one_ (i := 5) (N := some 80) #[true, true, true, true, true, true, false, false, false, false] rfl rfl (by kernel_rfl) (by decide) (fun K hK => ?_)
      refine xD5 Tryd.func37 (by kernel_rfl) rfl #[.pointer (some ⟨g, 0, none⟩), .int .i64 (wrap64 (nest + 1))] (by rfl) rfl rfl (by first | rfl | (simp [Act.eval]; done) | (go_simp; done)) (R := PRes (α := S25) w0 wd_23 g en (xD8 wd_23) (.error x)) (by rw [HWR.out]; exact (IHS.out kk (Nat.le_of_succ_le hk2)).use g _ en _ _ w0 wd_23 ESd_23.out.rs.start HX.out) ?_
      rintro e w2 ⟨rfl, h2⟩
      exact .inl ⟨_, rfl, ⟨rfl, ESd_23.out.rs.bad ⟨rfl, h2⟩⟩⟩
     have HX := Aside0.mk hx
     have HH := Aside0.mk h1
     clear hx h1 hh
     refine one_ (i := 5) (N := some 80) #[true, true, true, true, true, true, false, false, false, false] rfl rfl (by kernel_rfl) (by decide) (fun K hK => ?_)
     refine xD5 Tryd.func37 (by kernel_rfl) rfl #[.pointer (some ⟨g, 0, none⟩), .int .i64 (wrap64 (nest + 1))] (by rfl) rfl rfl (by first | rfl | (simp [Act.eval]; done) | (go_simp; done)) (R := PRes (α := S25) w0 wd_23 g en (xD8 wd_23) (.ok (a23, T23))) (by rw [HWR.out]; exact (IHS.out kk (Nat.le_of_succ_le hk2)).use g _ en _ _ w0 wd_23 ESd_23.out.rs.start HX.out) ?_
     rintro e w2_23 ⟨⟨v, rfl, hN⟩, h2⟩
     obtain ⟨A_23, c_23, rfl⟩ := Kd.N_slice hN
     have ESc_23 := Aside0.mk (ESd_23.out.call h2)
     have SZ := Aside0.mk h2.kb.1
     have HV := Aside0.mk hN
     clear hN h2
     refine .inr ⟨_, rfl, ?_⟩
     try clear hHeld
     refine hK.out _ _ ((xA4 ESc_23.out.nb 4).trans rfl) (fun hHeld => ?_)
     clear hK K
     refine xCp (a' := ?_) ?_ ?_
     rotate_left
     ·show Act.put _ (some 80) _ = _
      simp only [Act.put, List.setIfInBounds_toArray, List.set_cons_zero, List.set_cons_succ, xB1, xB2]
      rfl
     refine one_ (i := 6) (N := some 81) #[true, true, true, true, true, true, true, false, false, false] rfl rfl (by kernel_rfl) (by decide) (fun K hK => ?_)
     refine Kd.N_lit_step k25 (w0 := w2_23) w2_23.heap.size 25 (by rfl) (N' := 81) rfl (xs := [a23]) (inner := [.string a23.f0, .string a23.f1, .int .i64 a23.f2, .int .i64 a23.f3, .slice A_23 a23.f4.length c_23]) (ok := (fun k => wd_23.heap.size ≤ k)) (okp := (fun k => wd_23.heap.size ≤ k)) ?hr ((Reps.none _ _).snoc (xCn HV.out) rfl) (fun _ hk => hk) ?hf (Below.refl _ _) (Nat.le_refl _) (by show 1 ≤ 9223372036854775807; decide) ?_
     case hr => first | (go_simp; done) | (go_simp; rfl)
     case hf => exact SZ.out
     intro v7 w7_23 hN7 hb7 hg7 hat7
     obtain ⟨A7, c7, rfl⟩ := Kd.N_slice hN7
     have ESp_23 := Aside0.mk (ESc_23.out.below hb7)
     have HN7 := Aside0.mk hN7
     clear hN7 hb7 hg7 hat7
     try clear hHeld
     refine hK.out _ _ ((xA4 ESp_23.out.nb 4).trans rfl) (fun hHeld => ?_)
     clear hK K
     refine xCp (a' := ?_) ?_ ?_
     rotate_left
     ·show Act.put _ (some 81) _ = _
      simp only [Act.put, List.setIfInBounds_toArray, List.set_cons_zero, List.set_cons_succ, xB1, xB2]
      rfl
     refine one_ (i := 7) (N := some 82) #[true, true, true, true, true, true, true, true, false, false] rfl rfl (by kernel_rfl) (by decide) (fun K hK => ?_)
     refine Kd.N_append_rows_step k25 (w0 := w7_23) w.heap.size (by rfl) (.tmp 76) (.tmp 81) 23 25 (.agg #[.string (⟨#[]⟩ : ByteArray), .string (⟨#[]⟩ : ByteArray), .int .i64 0, .int .i64 0, .slice none 0 0]) 72 rfl Tryd.underlying23 xDh rfl (by decide) (by decide) (.slice AL acc.length cL) acc [a23] A7 1 c7 (fun k => w.heap.size ≤ k ∧ k ≠ w.heap.size ∧ k ≠ bn) (fun k => wd_23.heap.size ≤ k) rfl rfl ESp_23.out.row (Kd.N_F HN7.out) ?hokp ?hfresh (Below.refl _ _) ?hbase (by first | omega | (simp; done) | (simp; omega)) ?_
     case hokp => intro k hk; have h1 := ESd_23.out.lt.1; have h2 := ESd_23.out.lt.2.1; have h3 := ESd_23.out.rs.kb.1; exact ⟨⟨by omega, by omega, by omega⟩, fun e => by have := (ESd_23.out.lt.2.2 k e.symm).1; omega⟩
     case hfresh => intro k hk; have h1 := ESp_23.out.lt.1; have h2 := ESp_23.out.lt.2.1; have h3 := ESp_23.out.rs.kb.1; exact ⟨by omega, by omega, by omega⟩
     case hbase => exact ESp_23.out.rs.kb.1
     intro v8 w8_23 hN8 hb8 hg8 hat8
     obtain ⟨A8_23, c8_23, hv8⟩ := Kd.N_slice hN8
     rw [show (acc ++ [a23]).length = (acc.length + 1) by simp] at hv8
     subst hv8
     have ESa := Aside0.mk (ESp_23.out.append hN8 hg8)
     obtain ⟨_, _, hnb8⟩ := ESp_23.out.grown hN8 hg8
     have hn4b := (xA4 hnb8 4).trans rfl
     have hf4b := xA5 hnb8 4
     clear hN8 hb8 hg8 hat8 hnb8
     try clear hHeld
     refine hK.out _ _ hn4b (fun hHeld => ?_)
     clear hK K
     refine xCp (a' := ?_) ?_ ?_
     rotate_left
     ·show Act.put _ (some 82) _ = _
      simp only [Act.put, List.setIfInBounds_toArray, List.set_cons_zero, List.set_cons_succ, xB1, xB2]
      rfl
     refine xC1 (i := 8) (N := some 83) (v := ?_) (a' := ?_) #[true, true, true, true, true, true, true, true, true, false] rfl rfl (by kernel_rfl) (fun _ _ _ h => h) (Or.inl ⟨by rfl, ?_⟩) ?_ ?_
     rotate_left
     ·intro w'
      go_simp
      with_reducible rfl
     rotate_left
     ·simp only [Act.put, List.setIfInBounds_toArray, List.set_cons_zero, List.set_cons_succ, xB1, xB2]
      rfl
     refine xG0 (i := 9) (N := none) #[true, true, true, true, true, true, true, true, true, true] rfl rfl (by kernel_rfl) (by decide) (fun K hK => ?_)
     refine xF3 (w1 := ?_) (by rfl) rfl ?_ ?_
     rotate_left
     ·go_simp
      rfl
     refine hK.out _ _ ?_
     clear hK K
     refine xFe (by kernel_rfl) ?_
     clear hHeld x4 hn4b hf4b ESd_23 ESc_23 ESp_23 HN7 HV SZ HX
     generalize hW9 : World.setCell w8_23 _ _ = W9_23
     have ESb23 := Aside0.mk (show ExP w0 w W9_23 g _ en w.heap.size bn t.f1 ⟨#[]⟩ 0 (xB4 (t :: T) en) (.slice A8_23 (acc.length + 1) c8_23) (acc ++ [a23]) from by rw [← hW9]; exact ESa.out)
     clear hW9 ESa
     go_wp2
     go_roundg kk
     case rel => exact ⟨kk, _, _, _, Nat.le_refl _, Nat.le_of_succ_le hk2, ESb23, HH⟩
     case measure => omega

theorem xL2 (k : Nat) (ih : ∀ k', k' ≤ k → xF9 k') : xF9 (k + 1) := by
 intro g T en nest r w0 w hS h
 rw [pexpr] at h
 by_cases hn0 : nest < 0 ∨ nest > 100
 ·rw [if_pos hn0] at h
  cases h
 rw [if_neg hn0] at h
 by_cases hn : nest > 12
 ·rw [if_pos hn] at h
  exact xL3 g T en nest r w0 w hS hn0 hn (Option.some.inj h).symm
 rw [if_neg hn] at h
 by_cases ht : ptgt T = true
 ·rw [if_pos ht] at h
  obtain ⟨t, T, rfl, h0, h1⟩ := xM1 ht
  exact xM5 k (ih k (Nat.le_refl k)) ih g t T en nest r w0 w hS hn0 hn h0 h1 h
 ·rw [if_neg ht] at h
  rcases xKw ht with rfl | ⟨t, T, rfl, h0 | ⟨h0, h1⟩⟩
  ·exact xL1 g en nest r w0 w hS hn0 hn h
  ·exact xL0 g t T en nest r w0 w hS hn0 hn h0 h
  ·exact xKz g t T en nest r w0 w hS hn0 hn h0 h1 h
theorem xG8 : ∀ k k', k' ≤ k → xF9 k'
 | 0, k', hk => by
  obtain rfl : k' = 0 := by omega
  intro g T en nest r w0 w hS h
  simp [pexpr] at h
 | k + 1, k', hk => by
  rcases Nat.lt_or_ge k' (k + 1) with h | h
  ·exact xG8 k k' (by omega)
  ·obtain rfl : k' = k + 1 := by omega
   exact xL2 k (xG8 k)
theorem xM6 (k : Nat) : xF9 k := xG8 k k (Nat.le_refl k)

/-- A statement's word. -/
def pstw (t : S60) : Bool := ((t.f1.toList == ([100, 101, 118, 105, 99, 101] : List UInt8)) || (t.f1.toList == ([106, 111, 117, 114, 110, 97, 108] : List UInt8)) || (t.f1.toList == ([107, 101, 121] : List UInt8)) || (t.f1.toList == ([114, 111, 111, 116] : List UInt8)) || (t.f1.toList == ([118, 111, 108, 117, 109, 101] : List UInt8)) || (t.f1.toList == ([101, 120, 112, 111, 114, 116] : List UInt8))) && (t.f0 == 0)
set_option maxHeartbeats 4000000 in
set_option maxRecDepth 100000 in
theorem xIl (t : S60) (w : World) : Calls Tryd.prog 32 #[tokV t] w fun e w' => e = .returned (.bool (pstw t)) ∧ Below w.heap.size w w' := by
 unfold tokV pstw
 have hu60 := Tryd.underlying60
 cases h1 : (t.f1.toList == ([100, 101, 118, 105, 99, 101] : List UInt8)) with
 | true =>
  go_enter Tryd.func32, Tryd.ntmps32
  go_wp2
  go_ret
  exact ⟨by simp, xA2 (Below.refl _ _) _⟩
 | false =>
  cases h2 : (t.f1.toList == ([106, 111, 117, 114, 110, 97, 108] : List UInt8)) with
  | true =>
   go_enter Tryd.func32, Tryd.ntmps32
   go_wp2
   go_ret
   exact ⟨by simp, xA2 (Below.refl _ _) _⟩
  | false =>
   cases h3 : (t.f1.toList == ([107, 101, 121] : List UInt8)) with
   | true =>
    go_enter Tryd.func32, Tryd.ntmps32
    go_wp2
    go_ret
    exact ⟨by simp, xA2 (Below.refl _ _) _⟩
   | false =>
    cases h4 : (t.f1.toList == ([114, 111, 111, 116] : List UInt8)) with
    | true =>
     go_enter Tryd.func32, Tryd.ntmps32
     go_wp2
     go_ret
     exact ⟨by simp, xA2 (Below.refl _ _) _⟩
    | false =>
     cases h5 : (t.f1.toList == ([118, 111, 108, 117, 109, 101] : List UInt8)) with
     | true =>
      go_enter Tryd.func32, Tryd.ntmps32
      go_wp2
      go_ret
      exact ⟨by simp, xA2 (Below.refl _ _) _⟩
     | false =>
      cases h6 : (t.f1.toList == ([101, 120, 112, 111, 114, 116] : List UInt8)) with
      | true =>
       go_enter Tryd.func32, Tryd.ntmps32
       go_wp2
       go_ret
       exact ⟨by simp, xA2 (Below.refl _ _) _⟩
      | false =>
       go_enter Tryd.func32, Tryd.ntmps32
       go_wp2
       go_ret
       exact ⟨by simp, xA2 (Below.refl _ _) _⟩
abbrev EQ : ByteArray := ⟨#[61]⟩
abbrev SC : ByteArray := ⟨#[59]⟩
abbrev RO : ByteArray := ⟨#[114, 101, 97, 100, 111, 110, 108, 121]⟩
def xFu (t : S60) : S25 := ⟨⟨#[104, 101, 120]⟩, t.f1, 0, t.f3, []⟩
/-- A statement, behind its word and its name. -/
def xM2 (k : Nat) (t nm : S60) (pl : Int) (T2 : List S60) (en : Int) : PR S25 :=
 pbd (if t.f1.toList = ([100, 101, 118, 105, 99, 101] : List UInt8) ∨ t.f1.toList = ([106, 111, 117, 114, 110, 97, 108] : List UInt8) then
   pbd (pof T2 en 1) fun a T3 => some (.ok ((a.f2, ([] : List S25)), T3))
  else if t.f1.toList = ([107, 101, 121] : List UInt8) ∨ t.f1.toList = ([114, 111, 111, 116] : List UInt8) then
   pbd (pof T2 en 2) fun a T3 => some (.ok ((0, [xFu a]), T3))
  else if t.f1.toList = ([118, 111, 108, 117, 109, 101] : List UInt8) then
   pbd (some (xDl T2 en EQ)) fun _ T3 => pbd (pexpr k T3 en 1) fun a T4 => some (.ok ((0, [a]), T4))
  else if t.f1.toList = ([101, 120, 112, 111, 114, 116] : List UInt8) then
   (if pis T2 RO = true then some (.ok ((1, []), T2.tail)) else some (.ok ((0, []), T2)))
  else some (.ok ((0, []), T2))) fun nl T3 =>
 pbd (some (xDl T3 en SC)) fun _ T4 => some (.ok (⟨t.f1, nm.f1, nl.1, pl, nl.2⟩, T4))
def xIx (k : Nat) (T : List S60) (en : Int) : PR S25 :=
 pbd (xEu (fun t => some (pstw t)) T en) fun t T1 =>
 pbd (pof T1 en 0) fun nm T2 => xM2 k t nm (xB4 T en) T2 en
theorem xHq (k : Nat) (T : List S60) (en : Int) : LeO (xIx k T en) (xIx (k + 1) T en) := by
 unfold xIx xM2
 repeat' first
  | (with_reducible exact (xHr k).1 _ _ _)
  | (with_reducible exact LeO.refl _)
  | (with_reducible refine LeO.ite ?_ ?_)
  | (with_reducible refine LeO.pbd ?_ (fun _ _ => ?_))

theorem ExP.made {w0 w W W1 : World} {g b4 bn : Nat} {T : List S60} {en nn pl : Int} {op ss : ByteArray} {Lv : Value} {L : List S25} (h : ExP w0 w W g T en b4 bn op ss nn pl Lv L) (hg : W.grownBy W1 none) : ExP w0 w W1 g T en b4 bn op ss nn pl Lv L :=
 h.call (h.rs.start.grown hg (by simp) (fun k hk => by cases hk))
theorem xMl (a b : ByteArray) (c d : Int) (e : Value) (w : World) : (Instr.field 25 (.agg #[.string a, .string b, .int .i64 c, .int .i64 d, e]) 1).run Tryd.prog w = .ok (.string b) w := by
 have h1 := Tryd.underlying25
 unfold Instr.field
 simp [go_sem, h1, part, asAgg]
theorem xMk (a b : ByteArray) (c d : Int) (e : Value) (w : World) : (Instr.field 25 (.agg #[.string a, .string b, .int .i64 c, .int .i64 d, e]) 2).run Tryd.prog w = .ok (.int .i64 c) w := by
 have h1 := Tryd.underlying25
 unfold Instr.field
 simp [go_sem, h1, part, asAgg]
set_option maxHeartbeats 16000000 in
set_option maxRecDepth 100000 in
theorem xEw (k : Nat) (g : Nat) (T : List S60) (en : Int) (r : Except PErr (S25 × List S60)) (w0 w : World) (hS : PsS w0 w w g T en) (h : xIx k T en = some r) :
    Calls Tryd.prog 19 #[.pointer (some ⟨g, 0, none⟩)] w (PRes w0 w g en (xD8 w) r) := by
  have hu25 := Tryd.underlying25
  have hu60 := Tryd.underlying60
  have hF1 := xMl
  have hF2 := xMk
  have GW := Aside0.mk hS.lt
  have WW := Aside0.mk hS.bel.size
  have IH := Aside0.mk (xM6 k)
  unfold xIx at h
  have HH := Aside0.mk h
  have RS0 := Aside0.mk (hS.alloc (.cells #[.string (⟨#[]⟩ : ByteArray), .string (⟨#[]⟩ : ByteArray), .int .i64 0, .int .i64 0, .slice none 0 0] 25 (0, 0)))
  have HR4 := Aside0.mk (xBj w (.cells #[.string (⟨#[]⟩ : ByteArray), .string (⟨#[]⟩ : ByteArray), .int .i64 0, .int .i64 0, .slice none 0 0] 25 (0, 0)))
  have EG := Aside0.mk (show Enters Tryd.prog 32 from enters_of Tryd.func32 (by kernel_rfl) rfl)
  clear hS h
  go_enter Tryd.func19, Tryd.ntmps19
  go_upto_region 2 with (go_at_call 30; (with_reducible refine (xEe g _ en w0 _ RS0.out.start).mono ?_); rintro e w' ⟨rfl, rfl⟩)
  generalize World.alloc w _ = w1 at *
  have hh := HH.out
  clear HH
  rcases xBd hh with ⟨x, hx, rfl⟩ | ⟨t, T1, hx, h1⟩
  · have HX := Aside0.mk hx
    clear hx hh
    go_wp2_with (go_at_call 31; (with_reducible refine (xFn g 32 #[] (fun t => some (pstw t)) _ en _ w0 _ EG.out RS0.out.start (fun t b w1 hb hB => by cases hb; simpa using xIl t w1) HX.out).mono ?_); rintro e w2 ⟨rfl, h2⟩; exact ⟨rfl, RS0.out.bad ⟨rfl, h2⟩⟩)
  have HX := Aside0.mk hx
  have HH := Aside0.mk h1
  clear hx h1 hh
  go_upto_region 4 with (go_at_call 31; (with_reducible refine (xFn g 32 #[] (fun t => some (pstw t)) _ en _ w0 _ EG.out RS0.out.start (fun t b w1 hb hB => by cases hb; simpa using xIl t w1) HX.out).mono ?_); rintro e w2 ⟨rfl, h2⟩; unfold tokV; have RS2 := Aside0.mk (RS0.out.call h2); have HR2 := Aside0.mk (h2.kb.blk HR4.out (Nat.ne_of_gt GW.out) (by simp)); have hne : w.heap.size ≠ w2.heap.size := Nat.ne_of_lt (xBs HR2.out); have hne' := hne.symm; clear h2)
  generalize hW : World.alloc (World.alloc w2 _) _ = W3
  clear RS0 HR4 HX
  have HBN := Aside0.mk (Nat.ne_of_lt (Nat.lt_succ_of_lt (xBs HR2.out)))
  have ES0 := Aside0.mk (show ExP w0 w W3 g T1 en w.heap.size (w2.heap.size + 1) t.f1 ⟨#[]⟩ 0 (xB4 T en) (.slice none 0 0) [] from by
    have h1 := xBs HR2.out
    rw [← hW]
    refine ⟨(RS2.out.alloc _).alloc _, xA6 (xA6 HR2.out _) _, ?_, Kd.N_nil _ _ _ _ _, Nat.le_refl _, by omega, by omega, GW.out, WW.out⟩
    have h2 := xBj (World.alloc w2 (.cells #[.int .i64 t.f0, .string t.f1, .int .i64 t.f2, .int .i64 t.f3] 60 (0, 0))) (.cells #[.string t.f1, .string ⟨#[]⟩, .int .i64 0, .int .i64 (xB4 T en), .slice none 0 0] 25 (0, 0))
    rw [World.size_alloc] at h2
    exact h2)
  generalize hbn : w2.heap.size + 1 = bn at *
  clear hW RS2 HR2 hne hne' HBN
  have hh := HH.out
  clear HH
  rcases xBd hh with ⟨x, hx, rfl⟩ | ⟨nm, T2, hx, h1⟩
  · have HX := Aside0.mk hx
    clear hx hh
    go_wp2_with (go_at_call 33; (with_reducible refine (xCs g _ en _ w0 _ ES0.out.rs.start HX.out).mono ?_); rintro e w4 ⟨rfl, h2⟩; exact ⟨rfl, ES0.out.rs.bad ⟨rfl, h2⟩⟩)
  have HX := Aside0.mk hx
  have HH := Aside0.mk h1
  clear hx h1 hh
  go_upto_region 5 with (go_at_call 33; (with_reducible refine (xCs g _ en _ w0 _ ES0.out.rs.start HX.out).mono ?_); rintro e w4 ⟨rfl, h2⟩; unfold xJ2 xBu; have ES1 := Aside0.mk (ES0.out.call h2); have hn1 := (xA4 ES1.out.nb 1).trans rfl; have hf1 := xA5 ES1.out.nb 1; clear h2)
  generalize hW : World.setCell w4 _ _ = W5
  have ES2 := Aside0.mk (show ExP w0 w W5 g T2 en w.heap.size bn t.f1 nm.f1 0 (xB4 T en) (.slice none 0 0) [] from by rw [← hW]; exact ES1.out.set_ 1 _ rfl)
  clear hW ES0 ES1 hn1 hf1 HX
  have x0_ := (xA4 ES2.out.nb 0).trans rfl
  go_upto_block 0 with (fail)
  clear x0_
  have hq := HH.out
  clear HH
  unfold xM2 at hq
  have HH := Aside0.mk hq
  clear hq
  by_cases hq0 : t.f1.toList = ([100, 101, 118, 105, 99, 101] : List UInt8) ∨ t.f1.toList = ([106, 111, 117, 114, 110, 97, 108] : List UInt8)
  · skip
    have hq := HH.out
    clear HH
    rw [if_pos hq0] at hq
    have HH := Aside0.mk hq
    clear hq
    by_cases hq1 : t.f1.toList = ([100, 101, 118, 105, 99, 101] : List UInt8)
    · skip
      have e0 : (t.f1.toList == ([100, 101, 118, 105, 99, 101] : List UInt8)) = true := by rw [hq1]; rfl
      clear hq0 hq1
      have hq := HH.out
      clear HH
      simp only [xDf] at hq
      have HH := Aside0.mk hq
      clear hq
      have hh := HH.out
      clear HH
      rcases xBd hh with ⟨x, hx, rfl⟩ | ⟨a, T3, hx, h1⟩
      · have HX := Aside0.mk hx
        clear hx hh
        go_wp2_with (go_at_call 34; (with_reducible refine (xDe g _ en _ w0 _ ES2.out.rs.start HX.out).mono ?_); rintro e w6 ⟨rfl, h2⟩; exact ⟨rfl, ES2.out.rs.bad ⟨rfl, h2⟩⟩)
      have HX := Aside0.mk hx
      have HH := Aside0.mk h1
      clear hx h1 hh
      go_upto_region 19 with (go_at_call 34; (with_reducible refine (xDe g _ en _ w0 _ ES2.out.rs.start HX.out).mono ?_); rintro e w6 ⟨rfl, h2⟩; unfold xJ2 xC8; have ES3 := Aside0.mk (ES2.out.call h2); have hn2 := (xA4 ES3.out.nb 2).trans rfl; have hf2 := xA5 ES3.out.nb 2; clear h2)
      generalize hW : World.setCell w6 _ _ = W7
      have ES4 := Aside0.mk (show ExP w0 w W7 g T3 en w.heap.size bn t.f1 nm.f1 a.f2 (xB4 T en) (.slice none 0 0) [] from by rw [← hW]; exact ES3.out.set_ 2 _ rfl)
      clear hW ES2 ES3 hn2 hf2 HX
      have hq := HH.out
      clear HH
      rw [xEf] at hq
      have HH := Aside0.mk hq
      clear hq
      have hh := HH.out
      clear HH
      rcases xBd hh with ⟨x, hx, rfl⟩ | ⟨u, T_ESf, hx, h1⟩
      · have HX := Aside0.mk hx
        clear hx hh
        go_wp2_with (go_at_call 36; (with_reducible refine (xBy HX.out g w0 _ ES4.out.rs.start).mono ?_); rintro e w2 ⟨rfl, h2⟩; exact ⟨rfl, ES4.out.rs.bad ⟨rfl, h2⟩⟩)
      have HX := Aside0.mk hx
      have HH := Aside0.mk h1
      clear hx h1 hh
      go_upto_region 20 with (go_at_call 36; (with_reducible refine (xC5 HX.out g w0 _ ES4.out.rs.start).mono ?_); rintro e wf ⟨rfl, h2⟩; have ESf := Aside0.mk (ES4.out.call h2); clear h2)
      clear HX ES4
      have hh := HH.out
      clear HH
      simp only [Option.some.injEq] at hh
      subst hh
      obtain ⟨hn0, hn1, hn2, hn3, hn4⟩ := ey5 ESf.out.nb
      obtain ⟨hr0, hr1, hr2, hr3, hr4, hf0, hf1, hf2, hf3, hf4⟩ := ex5 ESf.out.r4
      go_wp2
      have RSz := ((((((((((ESf.out.rs).far (b := w.heap.size) (j := 0) (Nat.ne_of_lt GW.out) (Nat.le_refl _) WW.out (.string t.f1))).far (b := w.heap.size) (j := 1) (Nat.ne_of_lt GW.out) (Nat.le_refl _) WW.out (.string nm.f1))).far (b := w.heap.size) (j := 2) (Nat.ne_of_lt GW.out) (Nat.le_refl _) WW.out (.int .i64 a.f2))).far (b := w.heap.size) (j := 3) (Nat.ne_of_lt GW.out) (Nat.le_refl _) WW.out (.int .i64 (xB4 T en)))).far (b := w.heap.size) (j := 4) (Nat.ne_of_lt GW.out) (Nat.le_refl _) WW.out (.slice none 0 0))
      have hNz := Kd.N_far (p := ⟨w.heap.size, 4, none⟩) (Kd.N_far (p := ⟨w.heap.size, 3, none⟩) (Kd.N_far (p := ⟨w.heap.size, 2, none⟩) (Kd.N_far (p := ⟨w.heap.size, 1, none⟩) (Kd.N_far (p := ⟨w.heap.size, 0, none⟩) ESf.out.row (fun k hk => hk.2.1) (.string t.f1)) (fun k hk => hk.2.1) (.string nm.f1)) (fun k hk => hk.2.1) (.int .i64 a.f2)) (fun k hk => hk.2.1) (.int .i64 (xB4 T en))) (fun k hk => hk.2.1) (.slice none 0 0)
      refine bodyPost_ret (results_cell_row rfl _ _ w.heap.size 25 #[.string t.f1, .string nm.f1, .int .i64 a.f2, .int .i64 (xB4 T en), .slice none 0 0] (0, 0) _ rfl (xA1 (xA1 (xA1 (xA1 (xA1 ESf.out.r4 0 (.string t.f1) rfl) 1 (.string nm.f1) rfl) 2 (.int .i64 a.f2) rfl) 3 (.int .i64 (xB4 T en)) rfl) 4 (.slice none 0 0) rfl) Tryd.underlying25 rfl (by kernel_rfl)) rfl ?_
      exact ⟨⟨_, rfl, Kd.N_mono hNz (fun k hk => hk.1)⟩, RSz⟩
    have hq2 : t.f1.toList = ([106, 111, 117, 114, 110, 97, 108] : List UInt8) := by simpa [hq1] using hq0
    have e0 : (t.f1.toList == ([100, 101, 118, 105, 99, 101] : List UInt8)) = false := beq_eq_false_iff_ne.2 hq1
    have e1 : (t.f1.toList == ([106, 111, 117, 114, 110, 97, 108] : List UInt8)) = true := by rw [hq2]; rfl
    clear hq0 hq1 hq2
    have hq := HH.out
    clear HH
    simp only [xDf] at hq
    have HH := Aside0.mk hq
    clear hq
    have hh := HH.out
    clear HH
    rcases xBd hh with ⟨x, hx, rfl⟩ | ⟨a, T3, hx, h1⟩
    · have HX := Aside0.mk hx
      clear hx hh
      go_wp2_with (go_at_call 34; (with_reducible refine (xDe g _ en _ w0 _ ES2.out.rs.start HX.out).mono ?_); rintro e w6 ⟨rfl, h2⟩; exact ⟨rfl, ES2.out.rs.bad ⟨rfl, h2⟩⟩)
    have HX := Aside0.mk hx
    have HH := Aside0.mk h1
    clear hx h1 hh
    go_upto_region 19 with (go_at_call 34; (with_reducible refine (xDe g _ en _ w0 _ ES2.out.rs.start HX.out).mono ?_); rintro e w6 ⟨rfl, h2⟩; unfold xJ2 xC8; have ES3 := Aside0.mk (ES2.out.call h2); have hn2 := (xA4 ES3.out.nb 2).trans rfl; have hf2 := xA5 ES3.out.nb 2; clear h2)
    generalize hW : World.setCell w6 _ _ = W7
    have ES4 := Aside0.mk (show ExP w0 w W7 g T3 en w.heap.size bn t.f1 nm.f1 a.f2 (xB4 T en) (.slice none 0 0) [] from by rw [← hW]; exact ES3.out.set_ 2 _ rfl)
    clear hW ES2 ES3 hn2 hf2 HX
    have hq := HH.out
    clear HH
    rw [xEf] at hq
    have HH := Aside0.mk hq
    clear hq
    have hh := HH.out
    clear HH
    rcases xBd hh with ⟨x, hx, rfl⟩ | ⟨u, T_ESf, hx, h1⟩
    · have HX := Aside0.mk hx
      clear hx hh
      go_wp2_with (go_at_call 36; (with_reducible refine (xBy HX.out g w0 _ ES4.out.rs.start).mono ?_); rintro e w2 ⟨rfl, h2⟩; exact ⟨rfl, ES4.out.rs.bad ⟨rfl, h2⟩⟩)
    have HX := Aside0.mk hx
    have HH := Aside0.mk h1
    clear hx h1 hh
    go_upto_region 20 with (go_at_call 36; (with_reducible refine (xC5 HX.out g w0 _ ES4.out.rs.start).mono ?_); rintro e wf ⟨rfl, h2⟩; have ESf := Aside0.mk (ES4.out.call h2); clear h2)
    clear HX ES4
    have hh := HH.out
    clear HH
    simp only [Option.some.injEq] at hh
    subst hh
    obtain ⟨hn0, hn1, hn2, hn3, hn4⟩ := ey5 ESf.out.nb
    obtain ⟨hr0, hr1, hr2, hr3, hr4, hf0, hf1, hf2, hf3, hf4⟩ := ex5 ESf.out.r4
    go_wp2
    have RSz := ((((((((((ESf.out.rs).far (b := w.heap.size) (j := 0) (Nat.ne_of_lt GW.out) (Nat.le_refl _) WW.out (.string t.f1))).far (b := w.heap.size) (j := 1) (Nat.ne_of_lt GW.out) (Nat.le_refl _) WW.out (.string nm.f1))).far (b := w.heap.size) (j := 2) (Nat.ne_of_lt GW.out) (Nat.le_refl _) WW.out (.int .i64 a.f2))).far (b := w.heap.size) (j := 3) (Nat.ne_of_lt GW.out) (Nat.le_refl _) WW.out (.int .i64 (xB4 T en)))).far (b := w.heap.size) (j := 4) (Nat.ne_of_lt GW.out) (Nat.le_refl _) WW.out (.slice none 0 0))
    have hNz := Kd.N_far (p := ⟨w.heap.size, 4, none⟩) (Kd.N_far (p := ⟨w.heap.size, 3, none⟩) (Kd.N_far (p := ⟨w.heap.size, 2, none⟩) (Kd.N_far (p := ⟨w.heap.size, 1, none⟩) (Kd.N_far (p := ⟨w.heap.size, 0, none⟩) ESf.out.row (fun k hk => hk.2.1) (.string t.f1)) (fun k hk => hk.2.1) (.string nm.f1)) (fun k hk => hk.2.1) (.int .i64 a.f2)) (fun k hk => hk.2.1) (.int .i64 (xB4 T en))) (fun k hk => hk.2.1) (.slice none 0 0)
    refine bodyPost_ret (results_cell_row rfl _ _ w.heap.size 25 #[.string t.f1, .string nm.f1, .int .i64 a.f2, .int .i64 (xB4 T en), .slice none 0 0] (0, 0) _ rfl (xA1 (xA1 (xA1 (xA1 (xA1 ESf.out.r4 0 (.string t.f1) rfl) 1 (.string nm.f1) rfl) 2 (.int .i64 a.f2) rfl) 3 (.int .i64 (xB4 T en)) rfl) 4 (.slice none 0 0) rfl) Tryd.underlying25 rfl (by kernel_rfl)) rfl ?_
    exact ⟨⟨_, rfl, Kd.N_mono hNz (fun k hk => hk.1)⟩, RSz⟩
  have hq := HH.out
  clear HH
  rw [if_neg hq0] at hq
  have HH := Aside0.mk hq
  clear hq
  obtain ⟨ha, hb⟩ : ¬ t.f1.toList = ([100, 101, 118, 105, 99, 101] : List UInt8) ∧ ¬ t.f1.toList = ([106, 111, 117, 114, 110, 97, 108] : List UInt8) := ⟨fun h => hq0 (.inl h), fun h => hq0 (.inr h)⟩
  have e0 : (t.f1.toList == ([100, 101, 118, 105, 99, 101] : List UInt8)) = false := beq_eq_false_iff_ne.2 ha
  have e1 : (t.f1.toList == ([106, 111, 117, 114, 110, 97, 108] : List UInt8)) = false := beq_eq_false_iff_ne.2 hb
  clear hq0 ha hb
  by_cases hq0 : t.f1.toList = ([107, 101, 121] : List UInt8) ∨ t.f1.toList = ([114, 111, 111, 116] : List UInt8)
  · skip
    have hq := HH.out
    clear HH
    rw [if_pos hq0] at hq
    have HH := Aside0.mk hq
    clear hq
    by_cases hq1 : t.f1.toList = ([107, 101, 121] : List UInt8)
    · skip
      have e2 : (t.f1.toList == ([107, 101, 121] : List UInt8)) = true := by rw [hq1]; rfl
      clear hq0 hq1
      have hq := HH.out
      clear HH
      simp only [xDf] at hq
      have HH := Aside0.mk hq
      clear hq
      have hh := HH.out
      clear HH
      rcases xBd hh with ⟨x, hx, rfl⟩ | ⟨a, T3, hx, h1⟩
      · have HX := Aside0.mk hx
        clear hx hh
        go_wp2_with (go_at_call 35; (with_reducible refine (xEm g _ en 2 _ w0 _ ES2.out.rs.start HX.out).mono ?_); rintro e w6 ⟨rfl, h2⟩; exact ⟨rfl, ES2.out.rs.bad ⟨rfl, h2⟩⟩)
      have HX := Aside0.mk hx
      have HH := Aside0.mk h1
      clear hx h1 hh
      go_upto_region 12 with (go_at_call 35; (with_reducible refine (xEm g _ en 2 _ w0 _ ES2.out.rs.start HX.out).mono ?_); rintro e w6 ⟨rfl, h2⟩; unfold tokV; have ES3 := Aside0.mk (ES2.out.call h2); clear h2)
      generalize hW : World.alloc w6 _ = W7
      have ES4 := Aside0.mk (show ExP w0 w W7 g T3 en w.heap.size bn t.f1 nm.f1 0 (xB4 T en) (.slice none 0 0) [] from by rw [← hW]; exact ES3.out.below (xA2 (Below.refl _ _) _))
      have HB := Aside0.mk (show W7.heap[w6.heap.size]? = some (.cells #[.int .i64 a.f0, .string a.f1, .int .i64 a.f2, .int .i64 a.f3] 60 (0, 0)) from by rw [← hW]; exact xBj _ _)
      clear hW ES2 ES3 HX
      generalize w6.heap.size = bt at *
      have t1 := (xA4 HB.out 1).trans rfl
      have t3 := (xA4 HB.out 3).trans rfl
      have FKx := Aside0.mk (show Kd.FK k25 W7 (fun k => w.heap.size ≤ k ∧ k ≠ w.heap.size ∧ k ≠ bn) (xFu a) [.string (⟨#[104, 101, 120]⟩ : ByteArray), .string a.f1, .int .i64 0, .int .i64 a.f3, .slice none 0 0] from xCn (x := xFu a) (A := none) (c := 0) (Kd.N_nil _ _ _ w.heap.size _))
      go_upto_region 19 with (((with_reducible refine xB0 (N := 38) rfl ?_); refine Kd.N_lit k25 (w0 := W7) w.heap.size 25 rfl (N' := 38) rfl (xs := [xFu a]) (inner := [.string (⟨#[104, 101, 120]⟩ : ByteArray), .string a.f1, .int .i64 0, .int .i64 a.f3, .slice none 0 0]) (ok := (fun k => w.heap.size ≤ k ∧ k ≠ w.heap.size ∧ k ≠ bn)) (okp := (fun k => w.heap.size ≤ k ∧ k ≠ w.heap.size ∧ k ≠ bn)) ?hr ((Reps.none _ _).snoc FKx.out rfl) (fun _ hk => hk) ?hf (Below.refl _ _) ?hz (by show 1 ≤ 9223372036854775807; decide) ?_; (case hr => first | (go_simp; done) | (go_simp; rfl)); (case hf => have h1 := ES4.out.lt; have h2 := ES4.out.rs.kb.1; exact ⟨h2, by omega, by omega⟩); (case hz => exact ES4.out.rs.kb.1); intro v7 w7 hN7 hb7 hg7 hat7; obtain ⟨A7, c7, rfl⟩ := Kd.N_slice hN7; have ESo := Aside0.mk (ES4.out.made hg7); have HN7 := Aside0.mk hN7; have hn4 := (xA4 ESo.out.nb 4).trans rfl; have hf4 := xA5 ESo.out.nb 4; clear hN7 hb7 hg7 hat7))
      clear t1 t3 HB FKx
      generalize hW : World.setCell w7 _ _ = W9
      have ESl := Aside0.mk (show ExP w0 w W9 g _ en w.heap.size bn t.f1 nm.f1 0 (xB4 T en) (.slice A7 1 c7) [xFu a] from by rw [← hW]; exact ESo.out.setL HN7.out)
      clear hW ESo HN7 hn4 hf4
      clear ES4
      have hq := HH.out
      clear HH
      rw [xEf] at hq
      have HH := Aside0.mk hq
      clear hq
      have hh := HH.out
      clear HH
      rcases xBd hh with ⟨x, hx, rfl⟩ | ⟨u, T_ESf, hx, h1⟩
      · have HX := Aside0.mk hx
        clear hx hh
        go_wp2_with (go_at_call 36; (with_reducible refine (xBy HX.out g w0 _ ESl.out.rs.start).mono ?_); rintro e w2 ⟨rfl, h2⟩; exact ⟨rfl, ESl.out.rs.bad ⟨rfl, h2⟩⟩)
      have HX := Aside0.mk hx
      have HH := Aside0.mk h1
      clear hx h1 hh
      go_upto_region 20 with (go_at_call 36; (with_reducible refine (xC5 HX.out g w0 _ ESl.out.rs.start).mono ?_); rintro e wf ⟨rfl, h2⟩; have ESf := Aside0.mk (ESl.out.call h2); clear h2)
      clear HX ESl
      have hh := HH.out
      clear HH
      simp only [Option.some.injEq] at hh
      subst hh
      obtain ⟨hn0, hn1, hn2, hn3, hn4⟩ := ey5 ESf.out.nb
      obtain ⟨hr0, hr1, hr2, hr3, hr4, hf0, hf1, hf2, hf3, hf4⟩ := ex5 ESf.out.r4
      go_wp2
      have RSz := ((((((((((ESf.out.rs).far (b := w.heap.size) (j := 0) (Nat.ne_of_lt GW.out) (Nat.le_refl _) WW.out (.string t.f1))).far (b := w.heap.size) (j := 1) (Nat.ne_of_lt GW.out) (Nat.le_refl _) WW.out (.string nm.f1))).far (b := w.heap.size) (j := 2) (Nat.ne_of_lt GW.out) (Nat.le_refl _) WW.out (.int .i64 0))).far (b := w.heap.size) (j := 3) (Nat.ne_of_lt GW.out) (Nat.le_refl _) WW.out (.int .i64 (xB4 T en)))).far (b := w.heap.size) (j := 4) (Nat.ne_of_lt GW.out) (Nat.le_refl _) WW.out (.slice A7 1 c7))
      have hNz := Kd.N_far (p := ⟨w.heap.size, 4, none⟩) (Kd.N_far (p := ⟨w.heap.size, 3, none⟩) (Kd.N_far (p := ⟨w.heap.size, 2, none⟩) (Kd.N_far (p := ⟨w.heap.size, 1, none⟩) (Kd.N_far (p := ⟨w.heap.size, 0, none⟩) ESf.out.row (fun k hk => hk.2.1) (.string t.f1)) (fun k hk => hk.2.1) (.string nm.f1)) (fun k hk => hk.2.1) (.int .i64 0)) (fun k hk => hk.2.1) (.int .i64 (xB4 T en))) (fun k hk => hk.2.1) (.slice A7 1 c7)
      refine bodyPost_ret (results_cell_row rfl _ _ w.heap.size 25 #[.string t.f1, .string nm.f1, .int .i64 0, .int .i64 (xB4 T en), .slice A7 1 c7] (0, 0) _ rfl (xA1 (xA1 (xA1 (xA1 (xA1 ESf.out.r4 0 (.string t.f1) rfl) 1 (.string nm.f1) rfl) 2 (.int .i64 0) rfl) 3 (.int .i64 (xB4 T en)) rfl) 4 (.slice A7 1 c7) rfl) Tryd.underlying25 rfl (by kernel_rfl)) rfl ?_
      exact ⟨⟨_, rfl, Kd.N_mono hNz (fun k hk => hk.1)⟩, RSz⟩
    have hq2 : t.f1.toList = ([114, 111, 111, 116] : List UInt8) := by simpa [hq1] using hq0
    have e2 : (t.f1.toList == ([107, 101, 121] : List UInt8)) = false := beq_eq_false_iff_ne.2 hq1
    have e3 : (t.f1.toList == ([114, 111, 111, 116] : List UInt8)) = true := by rw [hq2]; rfl
    clear hq0 hq1 hq2
    have hq := HH.out
    clear HH
    simp only [xDf] at hq
    have HH := Aside0.mk hq
    clear hq
    have hh := HH.out
    clear HH
    rcases xBd hh with ⟨x, hx, rfl⟩ | ⟨a, T3, hx, h1⟩
    · have HX := Aside0.mk hx
      clear hx hh
      go_wp2_with (go_at_call 35; (with_reducible refine (xEm g _ en 2 _ w0 _ ES2.out.rs.start HX.out).mono ?_); rintro e w6 ⟨rfl, h2⟩; exact ⟨rfl, ES2.out.rs.bad ⟨rfl, h2⟩⟩)
    have HX := Aside0.mk hx
    have HH := Aside0.mk h1
    clear hx h1 hh
    go_upto_region 12 with (go_at_call 35; (with_reducible refine (xEm g _ en 2 _ w0 _ ES2.out.rs.start HX.out).mono ?_); rintro e w6 ⟨rfl, h2⟩; unfold tokV; have ES3 := Aside0.mk (ES2.out.call h2); clear h2)
    generalize hW : World.alloc w6 _ = W7
    have ES4 := Aside0.mk (show ExP w0 w W7 g T3 en w.heap.size bn t.f1 nm.f1 0 (xB4 T en) (.slice none 0 0) [] from by rw [← hW]; exact ES3.out.below (xA2 (Below.refl _ _) _))
    have HB := Aside0.mk (show W7.heap[w6.heap.size]? = some (.cells #[.int .i64 a.f0, .string a.f1, .int .i64 a.f2, .int .i64 a.f3] 60 (0, 0)) from by rw [← hW]; exact xBj _ _)
    clear hW ES2 ES3 HX
    generalize w6.heap.size = bt at *
    have t1 := (xA4 HB.out 1).trans rfl
    have t3 := (xA4 HB.out 3).trans rfl
    have FKx := Aside0.mk (show Kd.FK k25 W7 (fun k => w.heap.size ≤ k ∧ k ≠ w.heap.size ∧ k ≠ bn) (xFu a) [.string (⟨#[104, 101, 120]⟩ : ByteArray), .string a.f1, .int .i64 0, .int .i64 a.f3, .slice none 0 0] from xCn (x := xFu a) (A := none) (c := 0) (Kd.N_nil _ _ _ w.heap.size _))
    go_upto_region 19 with (((with_reducible refine xB0 (N := 38) rfl ?_); refine Kd.N_lit k25 (w0 := W7) w.heap.size 25 rfl (N' := 38) rfl (xs := [xFu a]) (inner := [.string (⟨#[104, 101, 120]⟩ : ByteArray), .string a.f1, .int .i64 0, .int .i64 a.f3, .slice none 0 0]) (ok := (fun k => w.heap.size ≤ k ∧ k ≠ w.heap.size ∧ k ≠ bn)) (okp := (fun k => w.heap.size ≤ k ∧ k ≠ w.heap.size ∧ k ≠ bn)) ?hr ((Reps.none _ _).snoc FKx.out rfl) (fun _ hk => hk) ?hf (Below.refl _ _) ?hz (by show 1 ≤ 9223372036854775807; decide) ?_; (case hr => first | (go_simp; done) | (go_simp; rfl)); (case hf => have h1 := ES4.out.lt; have h2 := ES4.out.rs.kb.1; exact ⟨h2, by omega, by omega⟩); (case hz => exact ES4.out.rs.kb.1); intro v7 w7 hN7 hb7 hg7 hat7; obtain ⟨A7, c7, rfl⟩ := Kd.N_slice hN7; have ESo := Aside0.mk (ES4.out.made hg7); have HN7 := Aside0.mk hN7; have hn4 := (xA4 ESo.out.nb 4).trans rfl; have hf4 := xA5 ESo.out.nb 4; clear hN7 hb7 hg7 hat7))
    clear t1 t3 HB FKx
    generalize hW : World.setCell w7 _ _ = W9
    have ESl := Aside0.mk (show ExP w0 w W9 g _ en w.heap.size bn t.f1 nm.f1 0 (xB4 T en) (.slice A7 1 c7) [xFu a] from by rw [← hW]; exact ESo.out.setL HN7.out)
    clear hW ESo HN7 hn4 hf4
    clear ES4
    have hq := HH.out
    clear HH
    rw [xEf] at hq
    have HH := Aside0.mk hq
    clear hq
    have hh := HH.out
    clear HH
    rcases xBd hh with ⟨x, hx, rfl⟩ | ⟨u, T_ESf, hx, h1⟩
    · have HX := Aside0.mk hx
      clear hx hh
      go_wp2_with (go_at_call 36; (with_reducible refine (xBy HX.out g w0 _ ESl.out.rs.start).mono ?_); rintro e w2 ⟨rfl, h2⟩; exact ⟨rfl, ESl.out.rs.bad ⟨rfl, h2⟩⟩)
    have HX := Aside0.mk hx
    have HH := Aside0.mk h1
    clear hx h1 hh
    go_upto_region 20 with (go_at_call 36; (with_reducible refine (xC5 HX.out g w0 _ ESl.out.rs.start).mono ?_); rintro e wf ⟨rfl, h2⟩; have ESf := Aside0.mk (ESl.out.call h2); clear h2)
    clear HX ESl
    have hh := HH.out
    clear HH
    simp only [Option.some.injEq] at hh
    subst hh
    obtain ⟨hn0, hn1, hn2, hn3, hn4⟩ := ey5 ESf.out.nb
    obtain ⟨hr0, hr1, hr2, hr3, hr4, hf0, hf1, hf2, hf3, hf4⟩ := ex5 ESf.out.r4
    go_wp2
    have RSz := ((((((((((ESf.out.rs).far (b := w.heap.size) (j := 0) (Nat.ne_of_lt GW.out) (Nat.le_refl _) WW.out (.string t.f1))).far (b := w.heap.size) (j := 1) (Nat.ne_of_lt GW.out) (Nat.le_refl _) WW.out (.string nm.f1))).far (b := w.heap.size) (j := 2) (Nat.ne_of_lt GW.out) (Nat.le_refl _) WW.out (.int .i64 0))).far (b := w.heap.size) (j := 3) (Nat.ne_of_lt GW.out) (Nat.le_refl _) WW.out (.int .i64 (xB4 T en)))).far (b := w.heap.size) (j := 4) (Nat.ne_of_lt GW.out) (Nat.le_refl _) WW.out (.slice A7 1 c7))
    have hNz := Kd.N_far (p := ⟨w.heap.size, 4, none⟩) (Kd.N_far (p := ⟨w.heap.size, 3, none⟩) (Kd.N_far (p := ⟨w.heap.size, 2, none⟩) (Kd.N_far (p := ⟨w.heap.size, 1, none⟩) (Kd.N_far (p := ⟨w.heap.size, 0, none⟩) ESf.out.row (fun k hk => hk.2.1) (.string t.f1)) (fun k hk => hk.2.1) (.string nm.f1)) (fun k hk => hk.2.1) (.int .i64 0)) (fun k hk => hk.2.1) (.int .i64 (xB4 T en))) (fun k hk => hk.2.1) (.slice A7 1 c7)
    refine bodyPost_ret (results_cell_row rfl _ _ w.heap.size 25 #[.string t.f1, .string nm.f1, .int .i64 0, .int .i64 (xB4 T en), .slice A7 1 c7] (0, 0) _ rfl (xA1 (xA1 (xA1 (xA1 (xA1 ESf.out.r4 0 (.string t.f1) rfl) 1 (.string nm.f1) rfl) 2 (.int .i64 0) rfl) 3 (.int .i64 (xB4 T en)) rfl) 4 (.slice A7 1 c7) rfl) Tryd.underlying25 rfl (by kernel_rfl)) rfl ?_
    exact ⟨⟨_, rfl, Kd.N_mono hNz (fun k hk => hk.1)⟩, RSz⟩
  have hq := HH.out
  clear HH
  rw [if_neg hq0] at hq
  have HH := Aside0.mk hq
  clear hq
  obtain ⟨ha, hb⟩ : ¬ t.f1.toList = ([107, 101, 121] : List UInt8) ∧ ¬ t.f1.toList = ([114, 111, 111, 116] : List UInt8) := ⟨fun h => hq0 (.inl h), fun h => hq0 (.inr h)⟩
  have e2 : (t.f1.toList == ([107, 101, 121] : List UInt8)) = false := beq_eq_false_iff_ne.2 ha
  have e3 : (t.f1.toList == ([114, 111, 111, 116] : List UInt8)) = false := beq_eq_false_iff_ne.2 hb
  clear hq0 ha hb
  by_cases hq0 : t.f1.toList = ([118, 111, 108, 117, 109, 101] : List UInt8)
  · skip
    have hq := HH.out
    clear HH
    rw [if_pos hq0] at hq
    have HH := Aside0.mk hq
    clear hq
    have e4 : (t.f1.toList == ([118, 111, 108, 117, 109, 101] : List UInt8)) = true := by rw [hq0]; rfl
    clear hq0
    have hq := HH.out
    clear HH
    simp only [xDf] at hq
    have HH := Aside0.mk hq
    clear hq
    have hh := HH.out
    clear HH
    rcases xBd hh with ⟨x, hx, rfl⟩ | ⟨u, T_ES3, hx, h1⟩
    · have HX := Aside0.mk hx
      clear hx hh
      go_wp2_with (go_at_call 36; (with_reducible refine (xBy HX.out g w0 _ ES2.out.rs.start).mono ?_); rintro e w2 ⟨rfl, h2⟩; exact ⟨rfl, ES2.out.rs.bad ⟨rfl, h2⟩⟩)
    have HX := Aside0.mk hx
    have HH := Aside0.mk h1
    clear hx h1 hh
    go_upto_region 15 with (go_at_call 36; (with_reducible refine (xC5 HX.out g w0 _ ES2.out.rs.start).mono ?_); rintro e w6 ⟨rfl, h2⟩; have ES3 := Aside0.mk (ES2.out.call h2); clear h2)
    clear HX ES2
    have hh := HH.out
    clear HH
    rcases xBd hh with ⟨x, hx, rfl⟩ | ⟨a, T4, hx, h1⟩
    · have HX := Aside0.mk hx
      clear hx hh
      go_wp2_with (go_at_call 37; (with_reducible refine (IH.out.use g _ en 1 _ w0 _ ES3.out.rs.start HX.out).mono ?_); rintro e w7 ⟨rfl, h2⟩; exact ⟨rfl, ES3.out.rs.bad ⟨rfl, h2⟩⟩)
    have HX := Aside0.mk hx
    have HH := Aside0.mk h1
    clear hx h1 hh
    go_upto_region 19 with (first | (go_at_call 37; (with_reducible refine (IH.out.use g _ en 1 _ w0 _ ES3.out.rs.start HX.out).mono ?_); rintro e w8 ⟨⟨v, rfl, hN⟩, h2⟩; obtain ⟨A, c, rfl⟩ := Kd.N_slice hN; have ES4 := Aside0.mk (ES3.out.call h2); have FKx := Aside0.mk (xCn (Kd.N_mono (ok' := fun k => w.heap.size ≤ k ∧ k ≠ w.heap.size ∧ k ≠ bn) hN (fun k hk => by have h1 := ES3.out.lt; have h3 := ES3.out.rs.kb.1; exact ⟨by omega, by omega, by omega⟩))); clear hN h2) | ((with_reducible refine xB0 (N := 46) rfl ?_); refine Kd.N_lit k25 (w0 := w8) w.heap.size 25 rfl (N' := 46) rfl (xs := [a]) (inner := [.string a.f0, .string a.f1, .int .i64 a.f2, .int .i64 a.f3, .slice A a.f4.length c]) (ok := (fun k => w.heap.size ≤ k ∧ k ≠ w.heap.size ∧ k ≠ bn)) (okp := (fun k => w.heap.size ≤ k ∧ k ≠ w.heap.size ∧ k ≠ bn)) ?hr ((Reps.none _ _).snoc FKx.out rfl) (fun _ hk => hk) ?hf (Below.refl _ _) ?hz (by show 1 ≤ 9223372036854775807; decide) ?_; (case hr => first | (go_simp; done) | (go_simp; rfl)); (case hf => have h1 := ES4.out.lt; have h2 := ES4.out.rs.kb.1; exact ⟨h2, by omega, by omega⟩); (case hz => exact ES4.out.rs.kb.1); intro v7 w7 hN7 hb7 hg7 hat7; obtain ⟨A7, c7, rfl⟩ := Kd.N_slice hN7; have ESo := Aside0.mk (ES4.out.made hg7); have HN7 := Aside0.mk hN7; have hn4 := (xA4 ESo.out.nb 4).trans rfl; have hf4 := xA5 ESo.out.nb 4; clear hN7 hb7 hg7 hat7))
    clear FKx HX
    generalize hW : World.setCell w7 _ _ = W9
    have ESl := Aside0.mk (show ExP w0 w W9 g _ en w.heap.size bn t.f1 nm.f1 0 (xB4 T en) (.slice A7 1 c7) [a] from by rw [← hW]; exact ESo.out.setL HN7.out)
    clear hW ESo HN7 hn4 hf4
    clear ES3 ES4
    have hq := HH.out
    clear HH
    rw [xEf] at hq
    have HH := Aside0.mk hq
    clear hq
    have hh := HH.out
    clear HH
    rcases xBd hh with ⟨x, hx, rfl⟩ | ⟨u, T_ESf, hx, h1⟩
    · have HX := Aside0.mk hx
      clear hx hh
      go_wp2_with (go_at_call 36; (with_reducible refine (xBy HX.out g w0 _ ESl.out.rs.start).mono ?_); rintro e w2 ⟨rfl, h2⟩; exact ⟨rfl, ESl.out.rs.bad ⟨rfl, h2⟩⟩)
    have HX := Aside0.mk hx
    have HH := Aside0.mk h1
    clear hx h1 hh
    go_upto_region 20 with (go_at_call 36; (with_reducible refine (xC5 HX.out g w0 _ ESl.out.rs.start).mono ?_); rintro e wf ⟨rfl, h2⟩; have ESf := Aside0.mk (ESl.out.call h2); clear h2)
    clear HX ESl
    have hh := HH.out
    clear HH
    simp only [Option.some.injEq] at hh
    subst hh
    obtain ⟨hn0, hn1, hn2, hn3, hn4⟩ := ey5 ESf.out.nb
    obtain ⟨hr0, hr1, hr2, hr3, hr4, hf0, hf1, hf2, hf3, hf4⟩ := ex5 ESf.out.r4
    go_wp2
    have RSz := ((((((((((ESf.out.rs).far (b := w.heap.size) (j := 0) (Nat.ne_of_lt GW.out) (Nat.le_refl _) WW.out (.string t.f1))).far (b := w.heap.size) (j := 1) (Nat.ne_of_lt GW.out) (Nat.le_refl _) WW.out (.string nm.f1))).far (b := w.heap.size) (j := 2) (Nat.ne_of_lt GW.out) (Nat.le_refl _) WW.out (.int .i64 0))).far (b := w.heap.size) (j := 3) (Nat.ne_of_lt GW.out) (Nat.le_refl _) WW.out (.int .i64 (xB4 T en)))).far (b := w.heap.size) (j := 4) (Nat.ne_of_lt GW.out) (Nat.le_refl _) WW.out (.slice A7 1 c7))
    have hNz := Kd.N_far (p := ⟨w.heap.size, 4, none⟩) (Kd.N_far (p := ⟨w.heap.size, 3, none⟩) (Kd.N_far (p := ⟨w.heap.size, 2, none⟩) (Kd.N_far (p := ⟨w.heap.size, 1, none⟩) (Kd.N_far (p := ⟨w.heap.size, 0, none⟩) ESf.out.row (fun k hk => hk.2.1) (.string t.f1)) (fun k hk => hk.2.1) (.string nm.f1)) (fun k hk => hk.2.1) (.int .i64 0)) (fun k hk => hk.2.1) (.int .i64 (xB4 T en))) (fun k hk => hk.2.1) (.slice A7 1 c7)
    refine bodyPost_ret (results_cell_row rfl _ _ w.heap.size 25 #[.string t.f1, .string nm.f1, .int .i64 0, .int .i64 (xB4 T en), .slice A7 1 c7] (0, 0) _ rfl (xA1 (xA1 (xA1 (xA1 (xA1 ESf.out.r4 0 (.string t.f1) rfl) 1 (.string nm.f1) rfl) 2 (.int .i64 0) rfl) 3 (.int .i64 (xB4 T en)) rfl) 4 (.slice A7 1 c7) rfl) Tryd.underlying25 rfl (by kernel_rfl)) rfl ?_
    exact ⟨⟨_, rfl, Kd.N_mono hNz (fun k hk => hk.1)⟩, RSz⟩
  have hq := HH.out
  clear HH
  rw [if_neg hq0] at hq
  have HH := Aside0.mk hq
  clear hq
  have e4 : (t.f1.toList == ([118, 111, 108, 117, 109, 101] : List UInt8)) = false := beq_eq_false_iff_ne.2 hq0
  clear hq0
  by_cases hq0 : t.f1.toList = ([101, 120, 112, 111, 114, 116] : List UInt8)
  · skip
    have hq := HH.out
    clear HH
    rw [if_pos hq0] at hq
    have HH := Aside0.mk hq
    clear hq
    have e5 : (t.f1.toList == ([101, 120, 112, 111, 114, 116] : List UInt8)) = true := by rw [hq0]; rfl
    clear hq0
    cases hp : pis T2 RO with
    | false =>
      have hq := HH.out
      clear HH
      rw [hp, if_neg (by decide)] at hq
      have HH := Aside0.mk hq
      clear hq
      have HP := Aside0.mk hp
      clear hp
      have hq := HH.out
      clear HH
      rw [xEf] at hq
      have HH := Aside0.mk hq
      clear hq
      go_upto_region 19 with ((go_at_call 38; (with_reducible refine (xEn g _ en _ w0 _ ES2.out.rs.start).mono ?_); rintro e w6 ⟨rfl, h2⟩; rw [HP.out] at h2 ⊢; have ES3 := Aside0.mk (ES2.out.call h2); have hn2 := (xA4 ES3.out.nb 2).trans rfl; have hf2 := xA5 ES3.out.nb 2; clear h2))
      clear hn2 hf2 ES2
      have hh := HH.out
      clear HH
      rcases xBd hh with ⟨x, hx, rfl⟩ | ⟨u, T_ESf, hx, h1⟩
      · have HX := Aside0.mk hx
        clear hx hh
        go_wp2_with (go_at_call 36; (with_reducible refine (xBy HX.out g w0 _ ES3.out.rs.start).mono ?_); rintro e w2 ⟨rfl, h2⟩; exact ⟨rfl, ES3.out.rs.bad ⟨rfl, h2⟩⟩)
      have HX := Aside0.mk hx
      have HH := Aside0.mk h1
      clear hx h1 hh
      go_upto_region 20 with (go_at_call 36; (with_reducible refine (xC5 HX.out g w0 _ ES3.out.rs.start).mono ?_); rintro e wf ⟨rfl, h2⟩; have ESf := Aside0.mk (ES3.out.call h2); clear h2)
      clear HX ES3
      have hh := HH.out
      clear HH
      simp only [Option.some.injEq] at hh
      subst hh
      obtain ⟨hn0, hn1, hn2, hn3, hn4⟩ := ey5 ESf.out.nb
      obtain ⟨hr0, hr1, hr2, hr3, hr4, hf0, hf1, hf2, hf3, hf4⟩ := ex5 ESf.out.r4
      go_wp2
      have RSz := ((((((((((ESf.out.rs).far (b := w.heap.size) (j := 0) (Nat.ne_of_lt GW.out) (Nat.le_refl _) WW.out (.string t.f1))).far (b := w.heap.size) (j := 1) (Nat.ne_of_lt GW.out) (Nat.le_refl _) WW.out (.string nm.f1))).far (b := w.heap.size) (j := 2) (Nat.ne_of_lt GW.out) (Nat.le_refl _) WW.out (.int .i64 0))).far (b := w.heap.size) (j := 3) (Nat.ne_of_lt GW.out) (Nat.le_refl _) WW.out (.int .i64 (xB4 T en)))).far (b := w.heap.size) (j := 4) (Nat.ne_of_lt GW.out) (Nat.le_refl _) WW.out (.slice none 0 0))
      have hNz := Kd.N_far (p := ⟨w.heap.size, 4, none⟩) (Kd.N_far (p := ⟨w.heap.size, 3, none⟩) (Kd.N_far (p := ⟨w.heap.size, 2, none⟩) (Kd.N_far (p := ⟨w.heap.size, 1, none⟩) (Kd.N_far (p := ⟨w.heap.size, 0, none⟩) ESf.out.row (fun k hk => hk.2.1) (.string t.f1)) (fun k hk => hk.2.1) (.string nm.f1)) (fun k hk => hk.2.1) (.int .i64 0)) (fun k hk => hk.2.1) (.int .i64 (xB4 T en))) (fun k hk => hk.2.1) (.slice none 0 0)
      refine bodyPost_ret (results_cell_row rfl _ _ w.heap.size 25 #[.string t.f1, .string nm.f1, .int .i64 0, .int .i64 (xB4 T en), .slice none 0 0] (0, 0) _ rfl (xA1 (xA1 (xA1 (xA1 (xA1 ESf.out.r4 0 (.string t.f1) rfl) 1 (.string nm.f1) rfl) 2 (.int .i64 0) rfl) 3 (.int .i64 (xB4 T en)) rfl) 4 (.slice none 0 0) rfl) Tryd.underlying25 rfl (by kernel_rfl)) rfl ?_
      exact ⟨⟨_, rfl, Kd.N_mono hNz (fun k hk => hk.1)⟩, RSz⟩
    | true =>
      have hq := HH.out
      clear HH
      rw [hp, if_pos rfl] at hq
      have HH := Aside0.mk hq
      clear hq
      have HP := Aside0.mk hp
      clear hp
      have hq := HH.out
      clear HH
      rw [xEf] at hq
      have HH := Aside0.mk hq
      clear hq
      go_upto_region 19 with ((go_at_call 38; (with_reducible refine (xEn g _ en _ w0 _ ES2.out.rs.start).mono ?_); rintro e w6 ⟨rfl, h2⟩; rw [HP.out] at h2 ⊢; have ES3 := Aside0.mk (ES2.out.call h2); have hn2 := (xA4 ES3.out.nb 2).trans rfl; have hf2 := xA5 ES3.out.nb 2; clear h2))
      generalize hW : World.setCell w6 _ _ = W7
      have ES4 := Aside0.mk (show ExP w0 w W7 g _ en w.heap.size bn t.f1 nm.f1 1 (xB4 T en) (.slice none 0 0) [] from by rw [← hW]; exact ES3.out.set_ 2 _ rfl)
      clear hW ES2 ES3 hn2 hf2
      have hh := HH.out
      clear HH
      rcases xBd hh with ⟨x, hx, rfl⟩ | ⟨u, T_ESf, hx, h1⟩
      · have HX := Aside0.mk hx
        clear hx hh
        go_wp2_with (go_at_call 36; (with_reducible refine (xBy HX.out g w0 _ ES4.out.rs.start).mono ?_); rintro e w2 ⟨rfl, h2⟩; exact ⟨rfl, ES4.out.rs.bad ⟨rfl, h2⟩⟩)
      have HX := Aside0.mk hx
      have HH := Aside0.mk h1
      clear hx h1 hh
      go_upto_region 20 with (go_at_call 36; (with_reducible refine (xC5 HX.out g w0 _ ES4.out.rs.start).mono ?_); rintro e wf ⟨rfl, h2⟩; have ESf := Aside0.mk (ES4.out.call h2); clear h2)
      clear HX ES4
      have hh := HH.out
      clear HH
      simp only [Option.some.injEq] at hh
      subst hh
      obtain ⟨hn0, hn1, hn2, hn3, hn4⟩ := ey5 ESf.out.nb
      obtain ⟨hr0, hr1, hr2, hr3, hr4, hf0, hf1, hf2, hf3, hf4⟩ := ex5 ESf.out.r4
      go_wp2
      have RSz := ((((((((((ESf.out.rs).far (b := w.heap.size) (j := 0) (Nat.ne_of_lt GW.out) (Nat.le_refl _) WW.out (.string t.f1))).far (b := w.heap.size) (j := 1) (Nat.ne_of_lt GW.out) (Nat.le_refl _) WW.out (.string nm.f1))).far (b := w.heap.size) (j := 2) (Nat.ne_of_lt GW.out) (Nat.le_refl _) WW.out (.int .i64 1))).far (b := w.heap.size) (j := 3) (Nat.ne_of_lt GW.out) (Nat.le_refl _) WW.out (.int .i64 (xB4 T en)))).far (b := w.heap.size) (j := 4) (Nat.ne_of_lt GW.out) (Nat.le_refl _) WW.out (.slice none 0 0))
      have hNz := Kd.N_far (p := ⟨w.heap.size, 4, none⟩) (Kd.N_far (p := ⟨w.heap.size, 3, none⟩) (Kd.N_far (p := ⟨w.heap.size, 2, none⟩) (Kd.N_far (p := ⟨w.heap.size, 1, none⟩) (Kd.N_far (p := ⟨w.heap.size, 0, none⟩) ESf.out.row (fun k hk => hk.2.1) (.string t.f1)) (fun k hk => hk.2.1) (.string nm.f1)) (fun k hk => hk.2.1) (.int .i64 1)) (fun k hk => hk.2.1) (.int .i64 (xB4 T en))) (fun k hk => hk.2.1) (.slice none 0 0)
      refine bodyPost_ret (results_cell_row rfl _ _ w.heap.size 25 #[.string t.f1, .string nm.f1, .int .i64 1, .int .i64 (xB4 T en), .slice none 0 0] (0, 0) _ rfl (xA1 (xA1 (xA1 (xA1 (xA1 ESf.out.r4 0 (.string t.f1) rfl) 1 (.string nm.f1) rfl) 2 (.int .i64 1) rfl) 3 (.int .i64 (xB4 T en)) rfl) 4 (.slice none 0 0) rfl) Tryd.underlying25 rfl (by kernel_rfl)) rfl ?_
      exact ⟨⟨_, rfl, Kd.N_mono hNz (fun k hk => hk.1)⟩, RSz⟩
  have hq := HH.out
  clear HH
  rw [if_neg hq0] at hq
  have HH := Aside0.mk hq
  clear hq
  have e5 : (t.f1.toList == ([101, 120, 112, 111, 114, 116] : List UInt8)) = false := beq_eq_false_iff_ne.2 hq0
  clear hq0
  have hq := HH.out
  clear HH
  rw [xEf] at hq
  have HH := Aside0.mk hq
  clear hq
  go_upto_region 19 with (fail)
  have hh := HH.out
  clear HH
  rcases xBd hh with ⟨x, hx, rfl⟩ | ⟨u, T_ESf, hx, h1⟩
  · have HX := Aside0.mk hx
    clear hx hh
    go_wp2_with (go_at_call 36; (with_reducible refine (xBy HX.out g w0 _ ES2.out.rs.start).mono ?_); rintro e w2 ⟨rfl, h2⟩; exact ⟨rfl, ES2.out.rs.bad ⟨rfl, h2⟩⟩)
  have HX := Aside0.mk hx
  have HH := Aside0.mk h1
  clear hx h1 hh
  go_upto_region 20 with (go_at_call 36; (with_reducible refine (xC5 HX.out g w0 _ ES2.out.rs.start).mono ?_); rintro e wf ⟨rfl, h2⟩; have ESf := Aside0.mk (ES2.out.call h2); clear h2)
  clear HX ES2
  have hh := HH.out
  clear HH
  simp only [Option.some.injEq] at hh
  subst hh
  obtain ⟨hn0, hn1, hn2, hn3, hn4⟩ := ey5 ESf.out.nb
  obtain ⟨hr0, hr1, hr2, hr3, hr4, hf0, hf1, hf2, hf3, hf4⟩ := ex5 ESf.out.r4
  go_wp2
  have RSz := ((((((((((ESf.out.rs).far (b := w.heap.size) (j := 0) (Nat.ne_of_lt GW.out) (Nat.le_refl _) WW.out (.string t.f1))).far (b := w.heap.size) (j := 1) (Nat.ne_of_lt GW.out) (Nat.le_refl _) WW.out (.string nm.f1))).far (b := w.heap.size) (j := 2) (Nat.ne_of_lt GW.out) (Nat.le_refl _) WW.out (.int .i64 0))).far (b := w.heap.size) (j := 3) (Nat.ne_of_lt GW.out) (Nat.le_refl _) WW.out (.int .i64 (xB4 T en)))).far (b := w.heap.size) (j := 4) (Nat.ne_of_lt GW.out) (Nat.le_refl _) WW.out (.slice none 0 0))
  have hNz := Kd.N_far (p := ⟨w.heap.size, 4, none⟩) (Kd.N_far (p := ⟨w.heap.size, 3, none⟩) (Kd.N_far (p := ⟨w.heap.size, 2, none⟩) (Kd.N_far (p := ⟨w.heap.size, 1, none⟩) (Kd.N_far (p := ⟨w.heap.size, 0, none⟩) ESf.out.row (fun k hk => hk.2.1) (.string t.f1)) (fun k hk => hk.2.1) (.string nm.f1)) (fun k hk => hk.2.1) (.int .i64 0)) (fun k hk => hk.2.1) (.int .i64 (xB4 T en))) (fun k hk => hk.2.1) (.slice none 0 0)
  refine bodyPost_ret (results_cell_row rfl _ _ w.heap.size 25 #[.string t.f1, .string nm.f1, .int .i64 0, .int .i64 (xB4 T en), .slice none 0 0] (0, 0) _ rfl (xA1 (xA1 (xA1 (xA1 (xA1 ESf.out.r4 0 (.string t.f1) rfl) 1 (.string nm.f1) rfl) 2 (.int .i64 0) rfl) 3 (.int .i64 (xB4 T en)) rfl) 4 (.slice none 0 0) rfl) Tryd.underlying25 rfl (by kernel_rfl)) rfl ?_
  exact ⟨⟨_, rfl, Kd.N_mono hNz (fun k hk => hk.1)⟩, RSz⟩

theorem assert40 (v : Value) (w : World) : (Instr.typeAssert (.iface 40 v) 20 40 true).run Tryd.prog w = .ok (.tuple #[v, .bool true]) w := by
 have h := Tryd.underlying40
 unfold Instr.typeAssert
 simp [go_sem, h]
theorem wp_act {P : Program} {c : Code} {Q : Exit → Act → World → Prop} {t0 t : Array Value} {d : List Deferred} {w : World} (h : t0 = t) (h1 : Code.wp P c Q { tmps := t, defers := d } w) : Code.wp P c Q { tmps := t0, defers := d } w := h ▸ h1
theorem xJq (a b c : Value) (w : World) : CallsD Tryd.prog 18 #[a, b, c] .returning w fun e u' w' => e = .returned (.tuple #[]) ∧ u' = .returning ∧ w' = w := by
 refine callsD_of_wpS Tryd.func18 rfl fun c₀ cs hu => ?_
 apply wpS_seq
 apply wpS_region
 simp [wpOpsS, go_sem, recoverD, hu, Tryd.ntmps18, Exit.thenS]
 apply wpS_seq
 apply wpS_region
 simp [wpOpsS, go_sem, Exit.thenS]
 refine wpS_cond (t := false) (by simp [Act.eval, Array.replicate]) ?_
 simp only [Bool.false_eq_true, if_false]
 refine wpS_of_wp (wp_skip ?_)
 cases c₀
 simp_all [bodyPostS, results, Tryd.results18]
set_option maxRecDepth 100000 in
set_option maxHeartbeats 4000000 in
theorem xGm (bn be ba S : Nat) (x : PErr) (cs1 cs2 cs3 cs4 cs5 : Value) (e0 a0 : Int) (w : World)
  (hn : w.heap[bn]? = some (.cells #[cs1, cs2, cs3, cs4, cs5] 25 (0, 0))) (he : w.heap[be]? = some (.cells #[.int .i64 e0] 26 (0, 0))) (ha : w.heap[ba]? = some (.cells #[.int .i64 a0] 3 (0, 0))) :
  CallsD Tryd.prog 18 #[.pointer (some ⟨bn, 0, none⟩), .pointer (some ⟨be, 0, none⟩), .pointer (some ⟨ba, 0, none⟩)] (.panicking (xGc x)) w fun e u' w' =>
   e = .returned (.tuple #[]) ∧ u' = .panicking [{ v := .iface 40 (.agg #[.int .i64 x.1, .int .i64 x.2]), recovered := true }] ∧
   w'.heap[bn]? = some (.cells #[.string ⟨#[]⟩, .string ⟨#[]⟩, .int .i64 0, .int .i64 0, .slice none 0 0] 25 (0, 0)) ∧ w'.heap[be]? = some (.cells #[.int .i64 x.1] 26 (0, 0)) ∧ w'.heap[ba]? = some (.cells #[.int .i64 x.2] 3 (0, 0)) ∧
   (∀ S w00, S ≤ bn → S ≤ be → S ≤ ba → Below S w00 w → Below S w00 w') := by
 have hbe : bn ≠ be := xF7 hn he (by decide)
 have hba : bn ≠ ba := xF7 hn ha (by decide)
 have hea : be ≠ ba := xF7 he ha (by decide)
 unfold xGc
 refine callsD_of_wpS Tryd.func18 rfl fun c₀ cs hu => ?_
 apply wpS_seq
 apply wpS_region
 simp [wpOpsS, go_sem, recoverD, hu, Tryd.ntmps18, Exit.thenS]
 apply wpS_seq
 apply wpS_region
 simp [wpOpsS, go_sem, Exit.thenS]
 refine wpS_cond (t := true) (by simp [Act.eval, Array.replicate]) ?_
 simp only [if_true]
 refine wpS_of_wp ?_
 refine wp_act (t := #[.pointer (some ⟨bn, 0, none⟩), .pointer (some ⟨be, 0, none⟩), .pointer (some ⟨ba, 0, none⟩), .iface 40 (.agg #[.int .i64 x.1, .int .i64 x.2]), undef, undef, .iface 40 (.agg #[.int .i64 x.1, .int .i64 x.2]), .iface 40 (.agg #[.int .i64 x.1, .int .i64 x.2]), .bool true, undef, undef, undef, undef, undef, undef, undef, undef, undef, undef, undef, undef, undef]) ?_ ?_
 ·apply Array.toList_inj.mp
  simp only [Array.toList_append, Array.toList_setIfInBounds, Array.toList_replicate, List.replicate, List.set, List.cons_append, List.nil_append]
 have hta := assert40
 have hu25 := Tryd.underlying25
 have hu40 := Tryd.underlying40
 have HN := Aside0.mk (xA6 hn (.cells #[.int .i64 x.1, .int .i64 x.2] 40 (0, 0)))
 have HE := Aside0.mk (xA6 he (.cells #[.int .i64 x.1, .int .i64 x.2] 40 (0, 0)))
 have HA := Aside0.mk (xA6 ha (.cells #[.int .i64 x.1, .int .i64 x.2] 40 (0, 0)))
 have HF := Aside0.mk (xBj w (.cells #[.int .i64 x.1, .int .i64 x.2] 40 (0, 0)))
 have HU := Aside0.mk hu
 have l1 := xBs hn
 have l2 := xBs he
 have l3 := xBs ha
 clear hn he ha hu
 go_upto_region 5 with (fail)
 generalize hW : World.alloc w _ = W1 at *
 have HB := Aside0.mk (show Below w.heap.size w W1 from by rw [← hW]; exact xA2 (Below.refl _ _) _)
 have HNE := Aside0.mk (And.intro (Nat.ne_of_gt l1) (And.intro (Nat.ne_of_gt l2) (Nat.ne_of_gt l3)))
 have HL1 := Aside0.mk (Nat.le_of_lt l1)
 clear hW l1 l2 l3
 generalize w.heap.size = bf at HF HNE ⊢
 have HN1 := Aside0.mk (xAc HN.out)
 have HE1 := Aside0.mk (xAc HE.out)
 have HA1 := Aside0.mk (xAc HA.out)
 have HF1 := Aside0.mk (xAc HF.out)
 have x0 := (xA4 HF1.out 0).trans rfl
 have x1 := (xA4 HF1.out 1).trans rfl
 refine xDt (n := 8) (S := fun w' => w'.cell? ⟨bf, 0, none⟩ = some (.int .i64 x.1) ∧ w'.cell? ⟨bf, 1, none⟩ = some (.int .i64 x.2)) (ds := [7]) #[false, false, false, false, false, false, false, false] (by kernel_rfl) rfl rfl ?hS (fun hHeld => ?_)
 case hS => exact ⟨x0, x1⟩
 have HB1 := Aside0.mk (show ∀ S w00, S ≤ bn → Below S w00 w → Below S w00 W1.drew from fun S w00 hs h => xCb (xBv h (Nat.le_trans hs HL1.out) HB.out))
 generalize World.drew W1 = W2 at *
 refine xC1 (i := 0) (N := some 17) (v := ?_) (a' := ?_) #[true, false, false, false, false, false, false, false] rfl rfl (by kernel_rfl) (fun _ _ _ h => h) (Or.inl ⟨by rfl, ?_⟩) ?_ ?_
 rotate_left
 ·intro w'
  go_simp
  with_reducible rfl
 rotate_left
 ·simp only [Act.put, List.setIfInBounds_toArray, List.set_cons_zero, List.set_cons_succ, xB1, xB2]
  rfl
 refine xC1 (i := 1) (N := some 18) (v := ?_) (a' := ?_) #[true, true, false, false, false, false, false, false] rfl rfl (by kernel_rfl) (fun _ _ _ h => h) (Or.inl ⟨by rfl, ?_⟩) ?_ ?_
 rotate_left
 ·intro w'
  go_simp
  with_reducible rfl
 rotate_left
 ·simp only [Act.put, List.setIfInBounds_toArray, List.set_cons_zero, List.set_cons_succ, xB1, xB2]
  rfl
 refine xC1 (i := 3) (N := some 20) (v := ?_) (a' := ?_) #[true, true, false, true, false, false, false, false] rfl rfl (by kernel_rfl) (fun _ _ _ h => h) (Or.inl ⟨by rfl, ?_⟩) ?_ ?_
 rotate_left
 ·intro w'
  go_simp
  with_reducible rfl
 rotate_left
 ·simp only [Act.put, List.setIfInBounds_toArray, List.set_cons_zero, List.set_cons_succ, xB1, xB2]
  rfl
 refine xDu (i := 2) (N := some 19) (v := ?_) (a' := ?_) #[true, true, true, true, false, false, false, false] rfl rfl (by kernel_rfl) (fun _ _ _ h => h) (Or.inl ⟨by rfl, ?_⟩) hHeld ?_ ?_
 rotate_left
 ·rintro w' ⟨s0, s1⟩
  go_simp
  with_reducible rfl
 rotate_left
 ·simp only [Act.put, List.setIfInBounds_toArray, List.set_cons_zero, List.set_cons_succ, xB1, xB2]
  rfl
 refine xDu (i := 4) (N := some 21) (v := ?_) (a' := ?_) #[true, true, true, true, true, false, false, false] rfl rfl (by kernel_rfl) (fun _ _ _ h => h) (Or.inl ⟨by rfl, ?_⟩) hHeld ?_ ?_
 rotate_left
 ·rintro w' ⟨s0, s1⟩
  go_simp
  with_reducible rfl
 rotate_left
 ·simp only [Act.put, List.setIfInBounds_toArray, List.set_cons_zero, List.set_cons_succ, xB1, xB2]
  rfl
 obtain ⟨c0, c1, c2, c3, c4, f0, f1, f2, f3, f4⟩ := ex5 HN1.out
 refine one_ (i := 5) (N := none) #[true, true, true, true, true, true, false, false] rfl rfl (by kernel_rfl) (by decide) (fun K hK => ?_)
 refine xF3 (w1 := ?_) (by rfl) rfl ?_ ?_
 rotate_left
 ·go_simp
  rfl
 have HF1_5 := Aside0.mk (xAh (p := ⟨bn, 4, none⟩) (xAh (p := ⟨bn, 3, none⟩) (xAh (p := ⟨bn, 2, none⟩) (xAh (p := ⟨bn, 1, none⟩) (xAh (p := ⟨bn, 0, none⟩) HF1.out (HNE.out.1) (.string ⟨#[]⟩)) (HNE.out.1) (.string ⟨#[]⟩)) (HNE.out.1) (.int .i64 0)) (HNE.out.1) (.int .i64 0)) (HNE.out.1) (.slice none 0 0))
 have HE1_5 := Aside0.mk (xAh (p := ⟨bn, 4, none⟩) (xAh (p := ⟨bn, 3, none⟩) (xAh (p := ⟨bn, 2, none⟩) (xAh (p := ⟨bn, 1, none⟩) (xAh (p := ⟨bn, 0, none⟩) HE1.out (hbe.symm) (.string ⟨#[]⟩)) (hbe.symm) (.string ⟨#[]⟩)) (hbe.symm) (.int .i64 0)) (hbe.symm) (.int .i64 0)) (hbe.symm) (.slice none 0 0))
 have HA1_5 := Aside0.mk (xAh (p := ⟨bn, 4, none⟩) (xAh (p := ⟨bn, 3, none⟩) (xAh (p := ⟨bn, 2, none⟩) (xAh (p := ⟨bn, 1, none⟩) (xAh (p := ⟨bn, 0, none⟩) HA1.out (hba.symm) (.string ⟨#[]⟩)) (hba.symm) (.string ⟨#[]⟩)) (hba.symm) (.int .i64 0)) (hba.symm) (.int .i64 0)) (hba.symm) (.slice none 0 0))
 have HN1_5 := Aside0.mk (xA1 (xA1 (xA1 (xA1 (xA1 HN1.out 0 (.string ⟨#[]⟩) rfl) 1 (.string ⟨#[]⟩) rfl) 2 (.int .i64 0) rfl) 3 (.int .i64 0) rfl) 4 (.slice none 0 0) rfl)
 clear c0 f0 c1 f1 c2 f2 c3 f3 c4 f4
 have y0 := (xA4 HF1_5.out 0).trans rfl
 have y1 := (xA4 HF1_5.out 1).trans rfl
 try clear hHeld
 refine hK.out _ _ ⟨y0, y1⟩ (fun hHeld => ?_)
 clear hK K
 have HB2 := Aside0.mk (show ∀ S w00, S ≤ bn → S ≤ be → S ≤ ba → Below S w00 w → Below S w00 (((((W2.setCell ⟨bn, 0, none⟩ (.string ⟨#[]⟩)).setCell ⟨bn, 1, none⟩ (.string ⟨#[]⟩)).setCell ⟨bn, 2, none⟩ (.int .i64 0)).setCell ⟨bn, 3, none⟩ (.int .i64 0)).setCell ⟨bn, 4, none⟩ (.slice none 0 0)) from fun S w00 h1 h2 h3 h => (((((HB1.out S w00 h1 h).setCell (p := ⟨bn, 0, none⟩) h1 _).setCell (p := ⟨bn, 1, none⟩) h1 _).setCell (p := ⟨bn, 2, none⟩) h1 _).setCell (p := ⟨bn, 3, none⟩) h1 _).setCell (p := ⟨bn, 4, none⟩) h1 _)
 generalize World.setCell (World.setCell (World.setCell (World.setCell (World.setCell W2 _ _) _ _) _ _) _ _) _ _ = W3 at *
 have c0 := (xA4 HE1_5.out 0).trans rfl
 have f0 := xA5 HE1_5.out 0
 refine one_ (i := 6) (N := none) #[true, true, true, true, true, true, true, false] rfl rfl (by kernel_rfl) (by decide) (fun K hK => ?_)
 refine xF3 (w1 := ?_) (by rfl) rfl ?_ ?_
 rotate_left
 ·go_simp
  rfl
 have HF1_5_6 := Aside0.mk (xAh (p := ⟨be, 0, none⟩) HF1_5.out (HNE.out.2.1) (.int .i64 x.1))
 have HN1_5_6 := Aside0.mk (xAh (p := ⟨be, 0, none⟩) HN1_5.out (hbe) (.int .i64 x.1))
 have HA1_5_6 := Aside0.mk (xAh (p := ⟨be, 0, none⟩) HA1_5.out (hea.symm) (.int .i64 x.1))
 have HE1_5_6 := Aside0.mk (xA1 HE1_5.out 0 (.int .i64 x.1) rfl)
 clear c0 f0 y0 y1
 have y0 := (xA4 HF1_5_6.out 0).trans rfl
 have y1 := (xA4 HF1_5_6.out 1).trans rfl
 try clear hHeld
 refine hK.out _ _ ⟨y0, y1⟩ (fun hHeld => ?_)
 clear hK K
 have c0 := (xA4 HA1_5_6.out 0).trans rfl
 have f0 := xA5 HA1_5_6.out 0
 refine xG0 (i := 7) (N := none) #[true, true, true, true, true, true, true, true] rfl rfl (by kernel_rfl) (by decide) (fun K hK => ?_)
 refine xF3 (w1 := ?_) (by rfl) rfl ?_ ?_
 rotate_left
 ·go_simp
  rfl
 refine hK.out _ _ ?_
 clear hK K
 refine xFe (by kernel_rfl) ?_
 have g1 := xAh (p := ⟨ba, 0, none⟩) HN1_5_6.out hba (.int .i64 x.2)
 have g2 := xAh (p := ⟨ba, 0, none⟩) HE1_5_6.out hea (.int .i64 x.2)
 have g3 := xA1 HA1_5_6.out 0 (.int .i64 x.2) rfl
 exact ⟨rfl, _, rfl, _, results_none rfl _ _ _, rfl, rfl, g1, g2, g3, fun S w00 h1 h2 h3 h => ((HB2.out S w00 h1 h2 h3 h).setCell (p := ⟨be, 0, none⟩) h2 _).setCell (p := ⟨ba, 0, none⟩) h3 _⟩
end Go.Proofs.YtknbfhhmjbnemaaDoor.P
end
section
namespace Go.Proofs.YtknbfhhmjbnemaaDoor.P
open Go.RowKit Go.Proofs.YtknbfhhmjbnemaaDoorW.PrintWords Go.Proofs.YtknbfhhmjbnemaaDoorW.PrintLast Go.Proofs.YtknbfhhmjbnemaaDoorW.PrintMore
attribute [local go_sem] xBh xBp

/-! ### xCq: function 64 -/
def xCq.f (a0 : Int) : Option (Bool) := if a0 ≥ 48 then (some (decide (a0 ≤ 57))) else (some false)
set_option maxHeartbeats 8000000 in
set_option maxRecDepth 100000 in
theorem xCq.calls (a0 : Int) (r : Bool) (w : World) (h : xCq.f a0 = some r) :
  Calls Tryd.prog 64 #[.int .u8 a0] w fun e w' => e = .returned (.bool r) ∧ Drawn0 w w' := by
 have H : (if a0 ≥ 48 then (some (decide (a0 ≤ 57))) else (some false)) = some r := h
 clear h
 by_cases c2 : a0 ≥ 48
 ·rw [if_pos c2] at H
  have c2b0 : decide (48 ≤ a0) = true := decide_eq_true c2
  clear c2
  obtain rfl := Option.some.inj H
  go_enter Tryd.func64, Tryd.ntmps64
  go_wp2
  go_ret
  exact ⟨by first | rfl | (simp; done) | (simp [*]; done), by repeat (first | exact Drawn0.refl _ | apply Drawn0.step)⟩
 ·rw [if_neg c2] at H
  have c2b0 : decide (48 ≤ a0) = false := decide_eq_false c2
  clear c2
  obtain rfl := Option.some.inj H
  go_enter Tryd.func64, Tryd.ntmps64
  go_wp2
  go_ret
  exact ⟨by first | rfl | (simp; done) | (simp [*]; done), by repeat (first | exact Drawn0.refl _ | apply Drawn0.step)⟩

end Go.Proofs.YtknbfhhmjbnemaaDoor.P
end
section
namespace Go.Proofs.YtknbfhhmjbnemaaDoor.P
open Go.RowKit Go.Proofs.YtknbfhhmjbnemaaDoorW.PrintWords Go.Proofs.YtknbfhhmjbnemaaDoorW.PrintLast Go.Proofs.YtknbfhhmjbnemaaDoorW.PrintMore
attribute [local go_sem] xBh xBp

/-! ### xGa: function 65 -/
def xGa.f (a0 : Int) : Option (Bool) := (xCq.f a0).bind fun t105 => (if t105 = true then (some true) else (if a0 ≥ 97 then (some (decide (a0 ≤ 102))) else (some false)))
set_option maxHeartbeats 8000000 in
set_option maxRecDepth 100000 in
theorem xGa.calls (a0 : Int) (r : Bool) (w : World) (h : xGa.f a0 = some r) :
  Calls Tryd.prog 65 #[.int .u8 a0] w fun e w' => e = .returned (.bool r) ∧ Drawn0 w w' := by
 have H : ((xCq.f a0).bind fun t105 => (if t105 = true then (some true) else (if a0 ≥ 97 then (some (decide (a0 ≤ 102))) else (some false)))) = some r := h
 clear h
 replace H := Option.bind_eq_some_iff.mp H
 obtain ⟨t105, A20, H⟩ := H
 replace H : (if t105 = true then (some true) else (if a0 ≥ 97 then (some (decide (a0 ≤ 102))) else (some false))) = some r := H
 have A2 := Aside0.mk A20
 clear A20
 by_cases c3 : t105 = true
 ·subst c3
  have H1 : (some true) = some r := by rw [if_pos rfl] at H; exact H
  clear H
  have H := H1
  clear H1
  obtain rfl := Option.some.inj H
  go_enter Tryd.func65, Tryd.ntmps65
  go_wp2_with (first | ((with_reducible refine xAo (f := 64) rfl ?_); refine xBo (some 4) rfl rfl Tryd.func64 (by kernel_rfl) rfl #[.int .u8 a0] rfl (by (try simp only [List.map_toArray, List.map_cons, List.map_nil]); first | done | rfl | (simp only [List.length_drop, List.length_take]; rfl)) ?_; (with_reducible refine (xCq.calls a0 true _ A2.out).mono ?_); rintro e w' ⟨rfl, ⟨nd, rfl⟩⟩; refine ⟨_, rfl, ?_⟩))
  go_ret
  exact ⟨by first | rfl | (simp; done) | (simp [*]; done), by repeat (first | exact Drawn0.refl _ | apply Drawn0.step)⟩
 ·replace c3 := Bool.eq_false_iff.mpr c3
  subst c3
  have H1 : (if a0 ≥ 97 then (some (decide (a0 ≤ 102))) else (some false)) = some r := by rw [if_neg (show ¬ (false = true) by decide)] at H; exact H
  clear H
  have H := H1
  clear H1
  by_cases c4 : a0 ≥ 97
  ·rw [if_pos c4] at H
   have c4b0 : decide (97 ≤ a0) = true := decide_eq_true c4
   clear c4
   obtain rfl := Option.some.inj H
   go_enter Tryd.func65, Tryd.ntmps65
   go_wp2_with (first | ((with_reducible refine xAo (f := 64) rfl ?_); refine xBo (some 4) rfl rfl Tryd.func64 (by kernel_rfl) rfl #[.int .u8 a0] rfl (by (try simp only [List.map_toArray, List.map_cons, List.map_nil]); first | done | rfl | (simp only [List.length_drop, List.length_take]; rfl)) ?_; (with_reducible refine (xCq.calls a0 false _ A2.out).mono ?_); rintro e w' ⟨rfl, ⟨nd, rfl⟩⟩; refine ⟨_, rfl, ?_⟩))
   go_ret
   exact ⟨by first | rfl | (simp; done) | (simp [*]; done), by repeat (first | exact Drawn0.refl _ | apply Drawn0.step)⟩
  ·rw [if_neg c4] at H
   have c4b0 : decide (97 ≤ a0) = false := decide_eq_false c4
   clear c4
   obtain rfl := Option.some.inj H
   go_enter Tryd.func65, Tryd.ntmps65
   go_wp2_with (first | ((with_reducible refine xAo (f := 64) rfl ?_); refine xBo (some 4) rfl rfl Tryd.func64 (by kernel_rfl) rfl #[.int .u8 a0] rfl (by (try simp only [List.map_toArray, List.map_cons, List.map_nil]); first | done | rfl | (simp only [List.length_drop, List.length_take]; rfl)) ?_; (with_reducible refine (xCq.calls a0 false _ A2.out).mono ?_); rintro e w' ⟨rfl, ⟨nd, rfl⟩⟩; refine ⟨_, rfl, ?_⟩))
   go_ret
   exact ⟨by first | rfl | (simp; done) | (simp [*]; done), by repeat (first | exact Drawn0.refl _ | apply Drawn0.step)⟩

end Go.Proofs.YtknbfhhmjbnemaaDoor.P
end
section
namespace Go.Proofs.YtknbfhhmjbnemaaDoor.P
open Go.RowKit Go.Proofs.YtknbfhhmjbnemaaDoorW.PrintWords Go.Proofs.YtknbfhhmjbnemaaDoorW.PrintLast Go.Proofs.YtknbfhhmjbnemaaDoorW.PrintMore
attribute [local go_sem] xBh xBp

/-! ### xDz: function 62 -/
def xDz.f (a0 : Int) : Option (Bool) := if a0 ≥ 97 then (some (decide (a0 ≤ 122))) else (some false)
set_option maxHeartbeats 8000000 in
set_option maxRecDepth 100000 in
theorem xDz.calls (a0 : Int) (r : Bool) (w : World) (h : xDz.f a0 = some r) :
  Calls Tryd.prog 62 #[.int .u8 a0] w fun e w' => e = .returned (.bool r) ∧ Drawn0 w w' := by
 have H : (if a0 ≥ 97 then (some (decide (a0 ≤ 122))) else (some false)) = some r := h
 clear h
 by_cases c2 : a0 ≥ 97
 ·rw [if_pos c2] at H
  have c2b0 : decide (97 ≤ a0) = true := decide_eq_true c2
  clear c2
  obtain rfl := Option.some.inj H
  go_enter Tryd.func62, Tryd.ntmps62
  go_wp2
  go_ret
  exact ⟨by first | rfl | (simp; done) | (simp [*]; done), by repeat (first | exact Drawn0.refl _ | apply Drawn0.step)⟩
 ·rw [if_neg c2] at H
  have c2b0 : decide (97 ≤ a0) = false := decide_eq_false c2
  clear c2
  obtain rfl := Option.some.inj H
  go_enter Tryd.func62, Tryd.ntmps62
  go_wp2
  go_ret
  exact ⟨by first | rfl | (simp; done) | (simp [*]; done), by repeat (first | exact Drawn0.refl _ | apply Drawn0.step)⟩

end Go.Proofs.YtknbfhhmjbnemaaDoor.P
end
section
namespace Go.Proofs.YtknbfhhmjbnemaaDoor.P
open Go.RowKit Go.Proofs.YtknbfhhmjbnemaaDoorW.PrintWords Go.Proofs.YtknbfhhmjbnemaaDoorW.PrintLast Go.Proofs.YtknbfhhmjbnemaaDoorW.PrintMore

/-! what the scanners ask of bytes -/
def xBc (p : Int → Bool) (s : ByteArray) : Nat → Nat → Nat
 | 0, k => k
 | f + 1, k => if k < s.size ∧ p (bt s k) = true then xBc p s f (k + 1) else k
theorem xE7 (p : Int → Bool) (s : ByteArray) : ∀ f k, k ≤ s.size → k ≤ xBc p s f k ∧ xBc p s f k ≤ s.size
 | 0, k, h => ⟨Nat.le_refl _, h⟩
 | f + 1, k, h => by
  unfold xBc
  split
  ·have := xE7 p s f (k + 1) (by omega)
   omega
  ·exact ⟨Nat.le_refl _, h⟩
theorem xEp (p : Int → Bool) (s : ByteArray) : ∀ f k j, k ≤ j → j < xBc p s f k → p (bt s j) = true
 | 0, k, j, h1, h2 => by unfold xBc at h2; omega
 | f + 1, k, j, h1, h2 => by
  unfold xBc at h2
  split at h2
  ·rename_i hc
   by_cases h : j = k
   ·subst h; exact hc.2
   ·exact xEp p s f (k + 1) j (by omega) h2
  ·omega
def xCd (c : Int) : Bool := decide (97 ≤ c) && decide (c ≤ 122)
def xAv (c : Int) : Bool := decide (48 ≤ c) && decide (c ≤ 57)
def pHex (c : Int) : Bool := xAv c || (decide (97 ≤ c) && decide (c ≤ 102))
def xCe (c : Int) : Bool := xCd c || xAv c || (c == 95)
def xFw (s : ByteArray) (k : Nat) : Bool := decide (k < s.size) && (xCd (bt s k) || (bt s k == 95))
theorem xEb (s : ByteArray) (j : Nat) (hj : j < s.size) : (xAj s)[j]? = some (bt s j) := by
 have h := xHp s j
 unfold rd at h
 rw [Int.toNat_natCast, List.getD_eq_getElem?_getD] at h
 have hl : j < (xAj s).length := by rw [xAy]; exact hj
 rw [List.getElem?_eq_getElem hl] at h ⊢
 rw [← h]
 rfl
theorem xJ7 (s : ByteArray) (j : Nat) (hj : j < s.size) : (xAj s).take (j + 1) = (xAj s).take j ++ [bt s j] := by
 have hl : j < (xAj s).length := by rw [xAy]; exact hj
 rw [List.take_add_one, xEb s j hj]
 rfl
theorem seg_snoc (s : ByteArray) (i p : Nat) (h1 : i ≤ p) (h2 : p < s.size) : ((xAj s).drop i).take (p + 1 - i) = ((xAj s).drop i).take (p - i) ++ [bt s p] := by
 rw [show p + 1 - i = (p - i) + 1 by omega, List.take_add_one, List.getElem?_drop, show i + (p - i) = p by omega, xEb s p h2]
 rfl
theorem seg_fig (s : ByteArray) (i p : Nat) (hp : p ≤ s.size) (h : ∀ j : Nat, i ≤ j → j < p → xAv (bt s j) = true) : ∀ x ∈ ((xAj s).drop i).take (p - i), 48 ≤ x ∧ x ≤ 57 := by
 intro x hx
 obtain ⟨j, hj, rfl⟩ := List.mem_iff_getElem.1 hx
 have hl : j < p - i := by rw [List.length_take] at hj; omega
 have e : (((xAj s).drop i).take (p - i))[j]? = some (bt s ((i + j : Nat) : Int)) := by
  rw [List.getElem?_take, if_pos hl, List.getElem?_drop, xEb s (i + j) (by omega)]
 rw [List.getElem?_eq_getElem hj] at e
 have h2 := h (i + j) (by omega) (by omega)
 rw [Option.some.inj e]
 unfold xAv at h2
 simpa using h2
end Go.Proofs.YtknbfhhmjbnemaaDoor.P
end
section
namespace Go.Proofs.YtknbfhhmjbnemaaDoor.P
open Go.RowKit Go.Proofs.YtknbfhhmjbnemaaDoorW.PrintWords Go.Proofs.YtknbfhhmjbnemaaDoorW.PrintLast Go.Proofs.YtknbfhhmjbnemaaDoorW.PrintMore
attribute [local go_sem] xBh xBp

/-! ### xEj: function 29 -/
-- IMPORTS Derived.Shelf.Abstract Derived.Test.YtknbfhhmjbnemaaDoorLexDefs
/-- Only block g may have changed. -/
structure Alone (w w' : World) (g : Nat) : Prop where
 keep : xAk w w' g none
 os : ∀ B, B ≤ g → Below B w w'
theorem Alone.refl (w : World) (g : Nat) : Alone w w g := ⟨xAk.refl _ _ _, fun _ _ => Below.refl _ _⟩
theorem Alone.set {w w1 : World} {g : Nat} (h : Alone w w1 g) (j : Nat) (u : Value) : Alone w (w1.setCell ⟨g, j, none⟩ u) g :=
 ⟨h.keep.set_ j u, fun B hB => (h.os B hB).setCell hB u⟩
theorem Alone.drewN {w w1 : World} {g : Nat} (h : Alone w w1 g) (n : Nat) : Alone w (w1.drewN n) g :=
 ⟨xB3 h.keep n, fun B hB => xA0 (h.os B hB) n⟩
theorem Alone.blk {w w1 : World} {g g' : Nat} {o : Obj} (h : Alone w w1 g) (hb : w.heap[g']? = some o) (hg : g' ≠ g) : w1.heap[g']? = some o := h.keep.blk hb hg (by simp)


def xMr (g : Nat) (p : Int → Bool) : Prop := ∀ (c : Int) (w : World), Calls Tryd.prog g #[.int .u8 c] w fun e w' => e = .returned (.bool (p c)) ∧ Drawn0 w w'

set_option maxHeartbeats 1000000 in
set_option maxRecDepth 100000 in
theorem xKm (g : Nat) (p : Int → Bool) (eg : Enters Tryd.prog g) (hp : xMr g p) (s : ByteArray) (k bk bs : Nat) (w : World) (hk : k ≤ s.size) (hs : s.size ≤ 9223372036854775807)
  (hbk : w.heap[bk]? = some (.cells #[.int .i64 k] 3 (0, 0))) (hbs : w.heap[bs]? = some (.cells #[.string s] 9 (0, 0))) :
  Calls Tryd.prog 60 #[.func (.func g) #[] #[], .pointer (some ⟨bk, 0, none⟩), .pointer (some ⟨bs, 0, none⟩)] w fun e w' =>
   e = .returned (.string (s.extract k (xBc p s (s.size - k) k))) ∧ w'.heap[bk]? = some (.cells #[.int .i64 (xBc p s (s.size - k) k : Nat)] 3 (0, 0)) ∧ Alone w w' bk := by
 have hne : bs ≠ bk := xF7 hbs hbk (by decide)
 have HP := Aside0.mk hp
 unfold Enters at eg
 clear hp
 have hc1 : w.cell? ⟨bk, 0, none⟩ = some (.int .i64 k) := (xA4 hbk 0).trans rfl
 go_enter Tryd.func60, Tryd.ntmps60
 go_wp2
 clear hc1
 go_loopg [] (s.size - k) (fun kx wr => ∃ j : Nat, k ≤ j ∧ j ≤ s.size ∧ s.size - j ≤ kx ∧ Aside0 (wr.heap[bk]? = some (.cells #[.int .i64 j] 3 (0, 0))) ∧ Aside0 (Alone w wr bk) ∧ Aside0 (xBc p s (s.size - j) j = xBc p s (s.size - k) k))
 case atStart => exact ⟨k, Nat.le_refl _, hk, Nat.le_refl _, ⟨hbk⟩, ⟨Alone.refl _ _⟩, ⟨rfl⟩⟩
 case round =>
  obtain ⟨j, hj, hjs, hg, HB, HA, HE⟩ := hrel
  have hc1 : wr.cell? ⟨bk, 0, none⟩ = some (.int .i64 j) := (xA4 HB.out 0).trans rfl
  have hc2 : wr.cell? ⟨bs, 0, none⟩ = some (.string s) := (xA4 (HA.out.blk hbs hne) 0).trans rfl
  have hf1 : wr.frozen? ⟨bk, 0, none⟩ = false := xA5 HB.out 0
  by_cases hlt : j < s.size
  ·have hd : decide ((j : Int) < (s.size : Int)) = true := by simpa using hlt
   have hd2 : decide (j < s.size) = true := by simpa using hlt
   have hb := xD7 s j (by simpa using hlt)
   simp only [Int.toNat_natCast] at hb
   have HC := HP.out (bt s j)
   cases hpj : p (bt s j)
   ·rw [hpj] at HC
    have HC' := Aside0.mk HC
    clear HC
    have HPJ := Aside0.mk hpj
    clear hpj
    go_wp2_with (go_at_fn g; refine (HC'.out _).mono ?_; rintro e w' ⟨rfl, ⟨nd, rfl⟩⟩)
    go_ret
    have hE : j = xBc p s (s.size - k) k := by
     rw [← HE.out]
     cases hq : s.size - j with
     | zero => rfl
     | succ m => unfold xBc; rw [if_neg (by rw [HPJ.out]; simp)]
    rw [← hE]
    exact ⟨rfl, HB.out, HA.out.drewN nd⟩
   ·rw [hpj] at HC
    have HC' := Aside0.mk HC
    clear HC
    have HPJ := Aside0.mk hpj
    clear hpj
    go_wp2_with (go_at_fn g; refine (HC'.out _).mono ?_; rintro e w' ⟨rfl, ⟨nd, rfl⟩⟩)
    go_roundg (s.size - (j + 1))
    case rel => exact ⟨j + 1, by omega, by omega, Nat.le_refl _, ⟨(xBm (w := wr.drewN nd) HB.out 0 _).trans (by go_num)⟩, ⟨(HA.out.drewN nd).set 0 _⟩, ⟨by
     rw [← HE.out]
     obtain ⟨m, hm⟩ : ∃ m, s.size - j = m + 1 := ⟨s.size - j - 1, by omega⟩
     rw [hm, show s.size - (j + 1) = m by omega]
     conv => rhs; unfold xBc
     rw [if_pos ⟨hlt, HPJ.out⟩]⟩⟩
    case measure => omega
  ·have hd : decide ((j : Int) < (s.size : Int)) = false := by simpa using hlt
   have hd2 : decide (j < s.size) = false := by simpa using hlt
   go_wp2
   go_ret
   have hE : j = xBc p s (s.size - k) k := by
    rw [← HE.out, show s.size - j = 0 by omega]
    rfl
   rw [← hE]
   exact ⟨rfl, HB.out, HA.out⟩

theorem xJr (c : Int) : xDz.f c = some (xCd c) := by
 unfold xDz.f xCd
 split
 ·rename_i h; simp [show 97 ≤ c from h]
 ·rename_i h; simp [show ¬ 97 ≤ c from h]
theorem xH8 (c : Int) : xCq.f c = some (xAv c) := by
 unfold xCq.f xAv
 split
 ·rename_i h; simp [show 48 ≤ c from h]
 ·rename_i h; simp [show ¬ 48 ≤ c from h]
theorem hex_some (c : Int) : xGa.f c = some (pHex c) := by
 unfold xGa.f pHex
 rw [xH8]
 simp only [Option.bind_some]
 split
 ·rename_i h; simp [h]
 ·rename_i h
  simp only [h, Bool.false_or]
  split
  ·rename_i h2; simp [show 97 ≤ c from h2]
  ·rename_i h2; simp [show ¬ 97 ≤ c from h2]
theorem xF5 (c : Int) (w : World) : Calls Tryd.prog 62 #[.int .u8 c] w fun e w' => e = .returned (.bool (xCd c)) ∧ Drawn0 w w' := xDz.calls c _ w (xJr c)
theorem xF6 : xMr 64 xAv := fun c w => xCq.calls c _ w (xH8 c)
theorem xMj : xMr 65 pHex := fun c w => xGa.calls c _ w (hex_some c)

set_option maxHeartbeats 1000000 in
theorem xKk : xMr 63 xCe := by
 intro c w
 have HL := xF5 c
 have HF := xF6 c
 unfold xCe
 cases hl : xCd c
 ·rw [hl] at HL
  cases hf : xAv c
  ·rw [hf] at HF
   have HL' := Aside0.mk HL
   have HF' := Aside0.mk HF
   clear HL HF hl hf
   go_enter Tryd.func63, Tryd.ntmps63
   go_wp2_with (first | (go_at_call 62; refine (HL'.out _).mono ?_; rintro e w' ⟨rfl, ⟨nd, rfl⟩⟩) | (go_at_call 64; refine (HF'.out _).mono ?_; rintro e w' ⟨rfl, ⟨nd2, rfl⟩⟩))
   go_ret
   exact ⟨by simp, by repeat (first | exact Drawn0.refl _ | apply Drawn0.step)⟩
  ·rw [hf] at HF
   have HL' := Aside0.mk HL
   have HF' := Aside0.mk HF
   clear HL HF hl hf
   go_enter Tryd.func63, Tryd.ntmps63
   go_wp2_with (first | (go_at_call 62; refine (HL'.out _).mono ?_; rintro e w' ⟨rfl, ⟨nd, rfl⟩⟩) | (go_at_call 64; refine (HF'.out _).mono ?_; rintro e w' ⟨rfl, ⟨nd2, rfl⟩⟩))
   go_ret
   exact ⟨by simp, by repeat (first | exact Drawn0.refl _ | apply Drawn0.step)⟩
 ·rw [hl] at HL
  have HL' := Aside0.mk HL
  clear HL HF hl
  go_enter Tryd.func63, Tryd.ntmps63
  go_wp2_with (first | (go_at_call 62; refine (HL'.out _).mono ?_; rintro e w' ⟨rfl, ⟨nd, rfl⟩⟩))
  go_ret
  exact ⟨by simp, by repeat (first | exact Drawn0.refl _ | apply Drawn0.step)⟩


set_option maxHeartbeats 1000000 in
theorem xHu (s : ByteArray) (k bk bs : Nat) (w : World) (hs : s.size ≤ 9223372036854775807)
  (hbk : w.heap[bk]? = some (.cells #[.int .i64 k] 3 (0, 0))) (hbs : w.heap[bs]? = some (.cells #[.string s] 9 (0, 0))) :
  Calls Tryd.prog 61 #[.pointer (some ⟨bk, 0, none⟩), .pointer (some ⟨bs, 0, none⟩)] w fun e w' => e = .returned (.bool (xFw s k)) ∧ Drawn0 w w' := by
 have hc1 : w.cell? ⟨bk, 0, none⟩ = some (.int .i64 k) := (xA4 hbk 0).trans rfl
 have hc2 : w.cell? ⟨bs, 0, none⟩ = some (.string s) := (xA4 hbs 0).trans rfl
 clear hbk hbs
 by_cases hlt : k < s.size
 ·have hd : decide ((k : Int) < (s.size : Int)) = true := by simpa using hlt
  have hd2 : decide (k < s.size) = true := by simpa using hlt
  have hb := xD7 s k (by simpa using hlt)
  simp only [Int.toNat_natCast] at hb
  have HL := xF5 (bt s k)
  unfold xFw
  rw [hd2]
  cases hl : xCd (bt s k)
  ·rw [hl] at HL
   have HL' := Aside0.mk HL
   clear HL hl
   go_enter Tryd.func61, Tryd.ntmps61
   go_wp2_with (first | (go_at_call 62; refine (HL'.out _).mono ?_; rintro e w' ⟨rfl, ⟨nd, rfl⟩⟩))
   go_ret
   exact ⟨by simp, by repeat (first | exact Drawn0.refl _ | apply Drawn0.step)⟩
  ·rw [hl] at HL
   have HL' := Aside0.mk HL
   clear HL hl
   go_enter Tryd.func61, Tryd.ntmps61
   go_wp2_with (first | (go_at_call 62; refine (HL'.out _).mono ?_; rintro e w' ⟨rfl, ⟨nd, rfl⟩⟩))
   go_ret
   exact ⟨by simp, by repeat (first | exact Drawn0.refl _ | apply Drawn0.step)⟩
 ·have hd : decide ((k : Int) < (s.size : Int)) = false := by simpa using hlt
  have hd2 : decide (k < s.size) = false := by simpa using hlt
  unfold xFw
  rw [hd2]
  go_enter Tryd.func61, Tryd.ntmps61
  go_wp2
  go_ret
  exact ⟨by simp, by repeat (first | exact Drawn0.refl _ | apply Drawn0.step)⟩

def xCz (l : List Int) : Int := l.foldl (fun n b => 10 * mn n 1099511627776 + (b - 48)) 0

def xEj.f (a0 : ByteArray) (a1 : Int) : Option (Int × ByteArray × Int × Int × Int × Int × Int) :=
 if 0 ≤ a1 ∧ a1 < (a0.size : Int) ∧ a0.size ≤ 140737488351232 then
  if xCd (bt a0 a1) = true then
   if a1.toNat + 16 < xBc xCe a0 (a0.size - a1.toNat) a1.toNat then some (0, a0.extract a1.toNat (xBc xCe a0 (a0.size - a1.toNat) a1.toNat), 0, a1, (xBc xCe a0 (a0.size - a1.toNat) a1.toNat : Nat), 102, a1)
   else some (0, a0.extract a1.toNat (xBc xCe a0 (a0.size - a1.toNat) a1.toNat), 0, a1, (xBc xCe a0 (a0.size - a1.toNat) a1.toNat : Nat), 0, -1)
  else if xAv (bt a0 a1) = true then
   if a1.toNat + 9 < xBc xAv a0 (a0.size - a1.toNat) a1.toNat then some (1, ⟨#[]⟩, xCz (xAj (a0.extract a1.toNat (xBc xAv a0 (a0.size - a1.toNat) a1.toNat))), a1, (xBc xAv a0 (a0.size - a1.toNat) a1.toNat : Nat), 102, a1)
   else if xFw a0 (xBc xAv a0 (a0.size - a1.toNat) a1.toNat) = true then some (1, ⟨#[]⟩, xCz (xAj (a0.extract a1.toNat (xBc xAv a0 (a0.size - a1.toNat) a1.toNat))), a1, (xBc xAv a0 (a0.size - a1.toNat) a1.toNat : Nat), 101, (xBc xAv a0 (a0.size - a1.toNat) a1.toNat : Nat))
   else some (1, ⟨#[]⟩, xCz (xAj (a0.extract a1.toNat (xBc xAv a0 (a0.size - a1.toNat) a1.toNat))), a1, (xBc xAv a0 (a0.size - a1.toNat) a1.toNat : Nat), 0, -1)
  else if bt a0 a1 = 36 then
   if xBc pHex a0 (a0.size - (a1.toNat + 1)) (a1.toNat + 1) = a1.toNat + 1 then some (2, ⟨#[]⟩, 0, a1, a1 + 1, 101, a1 + 1)
   else if a1.toNat + 129 < xBc pHex a0 (a0.size - (a1.toNat + 1)) (a1.toNat + 1) then some (2, a0.extract (a1.toNat + 1) (xBc pHex a0 (a0.size - (a1.toNat + 1)) (a1.toNat + 1)), 0, a1, (xBc pHex a0 (a0.size - (a1.toNat + 1)) (a1.toNat + 1) : Nat), 102, a1)
   else if xFw a0 (xBc pHex a0 (a0.size - (a1.toNat + 1)) (a1.toNat + 1)) = true then some (2, a0.extract (a1.toNat + 1) (xBc pHex a0 (a0.size - (a1.toNat + 1)) (a1.toNat + 1)), 0, a1, (xBc pHex a0 (a0.size - (a1.toNat + 1)) (a1.toNat + 1) : Nat), 101, (xBc pHex a0 (a0.size - (a1.toNat + 1)) (a1.toNat + 1) : Nat))
   else some (2, a0.extract (a1.toNat + 1) (xBc pHex a0 (a0.size - (a1.toNat + 1)) (a1.toNat + 1)), 0, a1, (xBc pHex a0 (a0.size - (a1.toNat + 1)) (a1.toNat + 1) : Nat), 0, -1)
  else if bt a0 a1 = 40 ∨ bt a0 a1 = 41 ∨ bt a0 a1 = 44 ∨ bt a0 a1 = 61 ∨ bt a0 a1 = 59 then some (3, a0.extract a1.toNat (a1.toNat + 1), 0, a1, a1 + 1, 0, -1)
  else some (3, ⟨#[]⟩, 0, a1, a1, 101, a1)
 else none


theorem xD9 (w : World) (a b c : Obj) : (((w.alloc a).alloc b).alloc c).heap[w.heap.size]? = some a :=
 (xA6 (xA6 (xBj w a) b) c)
theorem xD4 (w : World) (a b c : Obj) : (((w.alloc a).alloc b).alloc c).heap[w.heap.size + 1]? = some b := by
 have h := xA6 (xBj (w.alloc a) b) c
 rwa [World.size_alloc] at h
theorem xD3 (w : World) (a b c : Obj) : (((w.alloc a).alloc b).alloc c).heap[w.heap.size + 1 + 1]? = some c := by
 have h := xBj ((w.alloc a).alloc b) c
 rwa [World.size_alloc, World.size_alloc] at h
theorem xC4 (w : World) (a b c : Obj) : Below w.heap.size w (((w.alloc a).alloc b).alloc c) := xA2 (xA2 (xA2 (Below.refl _ _) _) _) _

/-- take, its result and the place behind it under names. -/
theorem xG5 (g : Nat) (p : Int → Bool) (eg : Enters Tryd.prog g) (hp : xMr g p) (s : ByteArray) (k : Nat) (S : ByteArray) (K : Nat) (hK : xBc p s (s.size - k) k = K) (hS : s.extract k K = S) (bk bs : Nat) (w : World) (hk : k ≤ s.size) (hs : s.size ≤ 9223372036854775807)
  (hbk : w.heap[bk]? = some (.cells #[.int .i64 k] 3 (0, 0))) (hbs : w.heap[bs]? = some (.cells #[.string s] 9 (0, 0))) :
  Calls Tryd.prog 60 #[.func (.func g) #[] #[], .pointer (some ⟨bk, 0, none⟩), .pointer (some ⟨bs, 0, none⟩)] w fun e w' =>
   e = .returned (.string S) ∧ Aside0 (w'.heap[bk]? = some (.cells #[.int .i64 K] 3 (0, 0))) ∧ Aside0 (Alone w w' bk) := by
 refine (xKm g p eg hp s k bk bs w hk hs hbk hbs).mono ?_
 rintro e w' ⟨rfl, h1, h2⟩
 subst hK hS
 exact ⟨rfl, ⟨h1⟩, ⟨h2⟩⟩

theorem xLt (tmps : Array Value) (w : World) (t k : Nat) (a b c d : Value) (K : Int) (h4 : (tmps[4]?).getD undef = .pointer (some ⟨t, 0, none⟩)) (h5 : (tmps[5]?).getD undef = .pointer (some ⟨k, 0, none⟩))
  (ht : w.heap[t]? = some (.cells #[a, b, c, d] 60 (0, 0))) (hk : w.heap[k]? = some (.cells #[.int .i64 K] 3 (0, 0))) :
  (results Tryd.f29 tmps).run Tryd.prog w = .ok (.tuple #[.agg #[a, b, c, d], .int .i64 K, (tmps[6]?).getD undef, (tmps[7]?).getD undef]) w := by
 have hc : w.cell? ⟨k, 0, none⟩ = some (.int .i64 K) := (xA4 hk 0).trans rfl
 have h0 : w.cell? ⟨t, 0, none⟩ = some a := (xA4 ht 0).trans rfl
 have h1 : w.cell? ⟨t, 1, none⟩ = some b := (xA4 ht 1).trans rfl
 have h2 : w.cell? ⟨t, 2, none⟩ = some c := (xA4 ht 2).trans rfl
 have h3 : w.cell? ⟨t, 3, none⟩ = some d := (xA4 ht 3).trans rfl
 simp [results, Tryd.results29, go_sem, h4, h5, hc, h0, h1, h2, h3]

/-- What holds behind the switch. -/
def OneMid (w : World) (r1 : Int) (r2 : ByteArray) (r3 r4 r5 : Int) (wc : World) : Prop :=
 wc.heap[w.heap.size + 1]? = some (.cells #[.int .i64 r1, .string r2, .int .i64 r3, .int .i64 r4] 60 (0, 0)) ∧ wc.heap[w.heap.size + 1 + 1]? = some (.cells #[.int .i64 r5] 3 (0, 0)) ∧ Below w.heap.size w wc

theorem xLe (s : ByteArray) (i K j : Nat) (hK : K ≤ s.size) (hj : i + j < K) : bt (s.extract i K) j = bt s ((i + j : Nat) : Int) := by
 unfold bt
 simp only [Int.toNat_natCast]
 have h1 : j < (s.extract i K).size := by rw [ByteArray.size_extract]; omega
 have h2 : i + j < s.size := by omega
 rw [dif_pos h1, dif_pos h2]
 congr 2
 exact ByteArray.getElem_extract ..
theorem xEh.far_ {w : World} {k : IntKind} {n g : Nat} {xs : List Int} (h : xEh w k (some ⟨g, 0, none⟩) n xs) {p : Addr} (hne : g ≠ p.block) (v : Value) : xEh (w.setCell p v) k (some ⟨g, 0, none⟩) n xs :=
 ⟨h.1, h.2.1, fun hn => by
  obtain ⟨ad, e, hc⟩ := h.2.2 hn
  injection e with e
  subst e
  refine ⟨_, rfl, fun j hj => ?_⟩
  have := hc j hj
  rw [xF8] at this ⊢
  exact (World.cell?_setCell_other _ _ _ _ (fun e => hne (by rw [e]))).trans this⟩
theorem xJ1 (l : List Int) (h : ∀ x ∈ l, 48 ≤ x ∧ x ≤ 57) : 0 ≤ xCz l ∧ xCz l ≤ 10995116277769 := by
 unfold xCz
 suffices H : ∀ (l : List Int) (n : Int), (∀ x ∈ l, 48 ≤ x ∧ x ≤ 57) → 0 ≤ n → n ≤ 10995116277769 → 0 ≤ l.foldl (fun n b => 10 * mn n 1099511627776 + (b - 48)) n ∧ l.foldl (fun n b => 10 * mn n 1099511627776 + (b - 48)) n ≤ 10995116277769 from H l 0 h (by omega) (by omega)
 intro l
 induction l with
 | nil => intro n _ h0 h1; exact ⟨h0, h1⟩
 | cons x l ih =>
  intro n hx h0 h1
  have hx0 := hx x List.mem_cons_self
  rw [List.foldl_cons]
  refine ih _ (fun y hy => hx y (List.mem_cons_of_mem _ hy)) ?_ ?_
  ·unfold mn; split <;> omega
  ·unfold mn; split <;> omega
theorem xH6 (l : List Int) (b : Int) : xCz (l ++ [b]) = 10 * mn (xCz l) 1099511627776 + (b - 48) := by
 unfold xCz
 rw [List.foldl_append]
 rfl

set_option maxHeartbeats 4000000 in
set_option maxRecDepth 100000 in
theorem xEj.calls (a0 : ByteArray) (a1 : Int) (r1 : Int) (r2 : ByteArray) (r3 : Int) (r4 : Int) (r5 : Int) (r6 : Int) (r7 : Int) (w : World) (h : xEj.f a0 a1 = some (r1, r2, r3, r4, r5, r6, r7)) :
  Calls Tryd.prog 29 #[.string a0, .int .i64 a1] w fun e w' => e = .returned (.tuple #[.agg #[.int .i64 r1, .string r2, .int .i64 r3, .int .i64 r4], .int .i64 r5, .int .i64 r6, .int .i64 r7]) ∧ Below w.heap.size w w' := by
 have H0 := h
 clear h
 unfold xEj.f at H0
 split at H0
 case isFalse => exact absurd H0 (by simp)
 case isTrue hg =>
 obtain ⟨hi0, hi1, hs⟩ := hg
 obtain ⟨i, rfl⟩ := Int.eq_ofNat_of_zero_le hi0
 simp only [Int.toNat_natCast] at H0
 have hi : i < a0.size := by omega
 have H := Aside0.mk H0
 clear H0 hi0 hi1
 have hb := xD7 a0 i (by simpa using hi)
 simp only [Int.toNat_natCast] at hb
 have hd : decide ((i : Int) < (a0.size : Int)) = true := by simpa using hi
 have hu60 := Tryd.underlying60
 have HL := xF5 (bt a0 i)
 have HF := xF6 (bt a0 i)
 have HL' := Aside0.mk HL
 have HF' := Aside0.mk HF
 clear HL HF
 go_enter Tryd.func29, Tryd.ntmps29
 go_upto_block 0 with (fail)
 go_cut [6, 7] (fun v6 v7 wc => v6 = .int .i64 r6 ∧ v7 = .int .i64 r7 ∧ Aside0 (OneMid w r1 r2 r3 r4 r5 wc))
 case first =>
  cases hl : xCd (bt a0 i)
  ·rw [hl] at HL' H
   simp only [Bool.false_eq_true, if_false] at H
   clear hl
   cases hf : xAv (bt a0 i)
   ·rw [hf] at HF' H
    simp only [Bool.false_eq_true, if_false] at H
    clear hf
    by_cases h36 : bt a0 i = 36
    ·have hq36 : (bt a0 i == 36) = true := by simpa using h36
     rw [if_pos h36] at H
     clear h36
     generalize hK : xBc pHex a0 (a0.size - (i + 1)) (i + 1) = K at H
     generalize hS : a0.extract (i + 1) K = S at H
     have hKs : i + 1 ≤ K ∧ K ≤ a0.size := by have := xE7 pHex a0 (a0.size - (i + 1)) (i + 1) (by omega); omega
     obtain ⟨hK1, hK2⟩ := hKs
     have hSz : S.size = K - (i + 1) := by rw [← hS, ByteArray.size_extract]; omega
     have HT := xG5 65 pHex (enters_of Tryd.func65 (by kernel_rfl) rfl) xMj a0 (i + 1) S K hK hS
     have HT' := Aside0.mk HT
     have HSz := Aside0.mk hSz
     clear HT hS hK hSz
     have hfk : ∀ (W : World) (x y z : Value), True := fun _ _ _ _ => trivial
     clear hfk
     by_cases hem : K = i + 1
     ·have hS0 : S = ⟨#[]⟩ := by
       have h0 : S.size = 0 := by rw [HSz.out, hem]; omega
       cases S with | mk d => simp only [ByteArray.size] at h0; rw [Array.eq_empty_of_size_eq_zero h0]
      have hr6 := H.out
      rw [if_pos hem] at hr6
      simp only [Option.some.injEq, Prod.mk.injEq] at hr6
      obtain ⟨rfl, rfl, rfl, rfl, rfl, rfl, rfl⟩ := hr6
      clear H HSz
      subst hS0
      have HKe := Aside0.mk hem
      clear hem
      go_wp2_with (first | (go_at_call 62; refine (HL'.out _).mono ?_; rintro e w' ⟨rfl, ⟨nd, rfl⟩⟩) | (go_at_call 64; refine (HF'.out _).mono ?_; rintro e w' ⟨rfl, ⟨nd2, rfl⟩⟩) | (go_at_call 60; refine (HT'.out _ _ _ (by omega) (by omega) ((xBm (xAh (xA7 (xD3 _ _ _ _) _) (by dsimp only; omega) _) 0 _).trans (by go_num)) (xAh (xAh (xA7 (xD9 _ _ _ _) _) (by dsimp only; omega) _) (by dsimp only; omega) _)).mono ?_; rintro e w1 ⟨rfl, HK1, HA1⟩; have HT1 := Aside0.mk (HA1.out.blk (xAh (xBm (xA7 (xD4 _ _ _ _) _) 0 _) (by dsimp only; omega) _) (by omega)); have HS1 := Aside0.mk (HA1.out.blk (xAh (xAh (xA7 (xD9 _ _ _ _) _) (by dsimp only; omega) _) (by dsimp only; omega) _) (by omega)); have HB1 := Aside0.mk ((((xA0 (xC4 _ _ _ _) _).setCell (p := ⟨w.heap.size + 1, 0, none⟩) (by dsimp only; omega) _).setCell (p := ⟨w.heap.size + 1 + 1, 0, none⟩) (by dsimp only; omega) _).trans (HA1.out.os _ (by omega))); have hc1 := (xA4 HT1.out 1).trans rfl; have hf1 := xA5 HT1.out 1; have hck := (xA4 HK1.out 0).trans rfl) | (go_at_call 61; refine (HG'.out _ (xAh HK1.out (by dsimp only; omega) _) (xAh HS1.out (by dsimp only; omega) _)).mono ?_; rintro e w' ⟨rfl, ⟨nd3, rfl⟩⟩))
      go_quiet (fail)
      go_wp2
      go_meet
      case rel => exact ⟨rfl, by rw [HKe.out]; go_num, ⟨xA7 (xBm HT1.out 1 _) _, (xA7 (xAh HK1.out (by dsimp only; omega) _) _).trans (by rw [HKe.out]; go_num), xA0 (HB1.out.setCell (by dsimp only; omega) _) _⟩⟩
     ·have hne : ¬ S.toList = [] := by
       intro h0
       rw [ByteArray.toList_eq] at h0
       have h1 := congrArg List.length h0
       rw [Array.length_toList] at h1
       have h2 : S.size = 0 := h1
       rw [HSz.out] at h2
       omega
      have hne2 : S.toList.isEmpty = false := by simpa using hne
      have hr6 := H.out
      rw [if_neg hem] at hr6
      by_cases hlong : i + 129 < K
      ·have hl1 : decide ((128 : Int) < (S.size : Int)) = true := by rw [HSz.out]; simp; omega
       have hl2 : decide (128 < S.size) = true := by rw [HSz.out]; simp; omega
       rw [if_pos hlong] at hr6
       simp only [Option.some.injEq, Prod.mk.injEq] at hr6
       obtain ⟨rfl, rfl, rfl, rfl, rfl, rfl, rfl⟩ := hr6
       clear H
       go_wp2_with (first | (go_at_call 62; refine (HL'.out _).mono ?_; rintro e w' ⟨rfl, ⟨nd, rfl⟩⟩) | (go_at_call 64; refine (HF'.out _).mono ?_; rintro e w' ⟨rfl, ⟨nd2, rfl⟩⟩) | (go_at_call 60; refine (HT'.out _ _ _ (by omega) (by omega) ((xBm (xAh (xA7 (xD3 _ _ _ _) _) (by dsimp only; omega) _) 0 _).trans (by go_num)) (xAh (xAh (xA7 (xD9 _ _ _ _) _) (by dsimp only; omega) _) (by dsimp only; omega) _)).mono ?_; rintro e w1 ⟨rfl, HK1, HA1⟩; have HT1 := Aside0.mk (HA1.out.blk (xAh (xBm (xA7 (xD4 _ _ _ _) _) 0 _) (by dsimp only; omega) _) (by omega)); have HS1 := Aside0.mk (HA1.out.blk (xAh (xAh (xA7 (xD9 _ _ _ _) _) (by dsimp only; omega) _) (by dsimp only; omega) _) (by omega)); have HB1 := Aside0.mk ((((xA0 (xC4 _ _ _ _) _).setCell (p := ⟨w.heap.size + 1, 0, none⟩) (by dsimp only; omega) _).setCell (p := ⟨w.heap.size + 1 + 1, 0, none⟩) (by dsimp only; omega) _).trans (HA1.out.os _ (by omega))); have hc1 := (xA4 HT1.out 1).trans rfl; have hf1 := xA5 HT1.out 1; have hck := (xA4 HK1.out 0).trans rfl) | (go_at_call 61; refine (HG'.out _ (xAh HK1.out (by dsimp only; omega) _) (xAh HS1.out (by dsimp only; omega) _)).mono ?_; rintro e w' ⟨rfl, ⟨nd3, rfl⟩⟩))
       go_meet
       case rel => exact ⟨rfl, rfl, ⟨xBm HT1.out 1 _, xAh HK1.out (by dsimp only; omega) _, HB1.out.setCell (by dsimp only; omega) _⟩⟩
      ·have hl1 : decide ((128 : Int) < (S.size : Int)) = false := by rw [HSz.out]; simp; omega
       have hl2 : decide (128 < S.size) = false := by rw [HSz.out]; simp; omega
       rw [if_neg hlong] at hr6
       have HG := fun W h1 h2 => xHu a0 K (w.heap.size + 1 + 1) w.heap.size W (by omega) h1 h2
       cases hgo : xFw a0 K
       ·rw [hgo] at HG hr6
        simp only [Bool.false_eq_true, if_false, Option.some.injEq, Prod.mk.injEq] at hr6
        obtain ⟨rfl, rfl, rfl, rfl, rfl, rfl, rfl⟩ := hr6
        have HG' := Aside0.mk HG
        clear H hgo HG
        go_wp2_with (first | (go_at_call 62; refine (HL'.out _).mono ?_; rintro e w' ⟨rfl, ⟨nd, rfl⟩⟩) | (go_at_call 64; refine (HF'.out _).mono ?_; rintro e w' ⟨rfl, ⟨nd2, rfl⟩⟩) | (go_at_call 60; refine (HT'.out _ _ _ (by omega) (by omega) ((xBm (xAh (xA7 (xD3 _ _ _ _) _) (by dsimp only; omega) _) 0 _).trans (by go_num)) (xAh (xAh (xA7 (xD9 _ _ _ _) _) (by dsimp only; omega) _) (by dsimp only; omega) _)).mono ?_; rintro e w1 ⟨rfl, HK1, HA1⟩; have HT1 := Aside0.mk (HA1.out.blk (xAh (xBm (xA7 (xD4 _ _ _ _) _) 0 _) (by dsimp only; omega) _) (by omega)); have HS1 := Aside0.mk (HA1.out.blk (xAh (xAh (xA7 (xD9 _ _ _ _) _) (by dsimp only; omega) _) (by dsimp only; omega) _) (by omega)); have HB1 := Aside0.mk ((((xA0 (xC4 _ _ _ _) _).setCell (p := ⟨w.heap.size + 1, 0, none⟩) (by dsimp only; omega) _).setCell (p := ⟨w.heap.size + 1 + 1, 0, none⟩) (by dsimp only; omega) _).trans (HA1.out.os _ (by omega))); have hc1 := (xA4 HT1.out 1).trans rfl; have hf1 := xA5 HT1.out 1; have hck := (xA4 HK1.out 0).trans rfl) | (go_at_call 61; refine (HG'.out _ (xAh HK1.out (by dsimp only; omega) _) (xAh HS1.out (by dsimp only; omega) _)).mono ?_; rintro e w' ⟨rfl, ⟨nd3, rfl⟩⟩))
        go_meet
        case rel => exact ⟨rfl, rfl, ⟨xA7 (xBm HT1.out 1 _) _, xA7 (xAh HK1.out (by dsimp only; omega) _) _, xA0 (HB1.out.setCell (by dsimp only; omega) _) _⟩⟩
       ·rw [hgo] at HG hr6
        simp only [if_true, Option.some.injEq, Prod.mk.injEq] at hr6
        obtain ⟨rfl, rfl, rfl, rfl, rfl, rfl, rfl⟩ := hr6
        have HG' := Aside0.mk HG
        clear H hgo HG
        go_wp2_with (first | (go_at_call 62; refine (HL'.out _).mono ?_; rintro e w' ⟨rfl, ⟨nd, rfl⟩⟩) | (go_at_call 64; refine (HF'.out _).mono ?_; rintro e w' ⟨rfl, ⟨nd2, rfl⟩⟩) | (go_at_call 60; refine (HT'.out _ _ _ (by omega) (by omega) ((xBm (xAh (xA7 (xD3 _ _ _ _) _) (by dsimp only; omega) _) 0 _).trans (by go_num)) (xAh (xAh (xA7 (xD9 _ _ _ _) _) (by dsimp only; omega) _) (by dsimp only; omega) _)).mono ?_; rintro e w1 ⟨rfl, HK1, HA1⟩; have HT1 := Aside0.mk (HA1.out.blk (xAh (xBm (xA7 (xD4 _ _ _ _) _) 0 _) (by dsimp only; omega) _) (by omega)); have HS1 := Aside0.mk (HA1.out.blk (xAh (xAh (xA7 (xD9 _ _ _ _) _) (by dsimp only; omega) _) (by dsimp only; omega) _) (by omega)); have HB1 := Aside0.mk ((((xA0 (xC4 _ _ _ _) _).setCell (p := ⟨w.heap.size + 1, 0, none⟩) (by dsimp only; omega) _).setCell (p := ⟨w.heap.size + 1 + 1, 0, none⟩) (by dsimp only; omega) _).trans (HA1.out.os _ (by omega))); have hc1 := (xA4 HT1.out 1).trans rfl; have hf1 := xA5 HT1.out 1; have hck := (xA4 HK1.out 0).trans rfl) | (go_at_call 61; refine (HG'.out _ (xAh HK1.out (by dsimp only; omega) _) (xAh HS1.out (by dsimp only; omega) _)).mono ?_; rintro e w' ⟨rfl, ⟨nd3, rfl⟩⟩))
        go_quiet (fail)
        go_wp2
        go_meet
        case rel => exact ⟨rfl, rfl, ⟨xA7 (xA7 (xBm HT1.out 1 _) _) _, xA7 (xA7 (xAh HK1.out (by dsimp only; omega) _) _) _, xA0 (xA0 (HB1.out.setCell (by dsimp only; omega) _) _) _⟩⟩
    ·have hq36 : (bt a0 i == 36) = false := by simpa using h36
     rw [if_neg h36] at H
     clear h36
     by_cases hsg : bt a0 i = 40 ∨ bt a0 i = 41 ∨ bt a0 i = 44 ∨ bt a0 i = 61 ∨ bt a0 i = 59
     ·have hr6 := H.out
      rw [if_pos hsg] at hr6
      simp only [Option.some.injEq, Prod.mk.injEq] at hr6
      obtain ⟨rfl, rfl, rfl, rfl, rfl, rfl, rfl⟩ := hr6
      clear H
      have hsl : ∀ W : World, (Instr.slice 9 (.string a0) (some (.int .i64 i)) (some (.int .i64 ((i : Int) + 1))) none).run Tryd.prog W = .ok (.string (a0.extract i (i + 1))) W := by
       intro W
       have h := run_slice_string (P := Tryd.prog) (w := W) 9 a0 .i64 .i64 (i : Int) ((i : Int) + 1) Tryd.underlying9 (by omega) (by omega) (by omega)
       rw [h, show ((i : Int) + 1).toNat = i + 1 by omega, Int.toNat_natCast]
      rcases hsg with g | g | g | g | g
      ·have q40 : (bt a0 i == 40) = true := by rw [g]; rfl
       clear g
       go_wp2_with (first | (go_at_call 62; refine (HL'.out _).mono ?_; rintro e w' ⟨rfl, ⟨nd, rfl⟩⟩) | (go_at_call 64; refine (HF'.out _).mono ?_; rintro e w' ⟨rfl, ⟨nd2, rfl⟩⟩))
       go_meet
       case rel => exact ⟨rfl, rfl, ⟨xAh (xBm (xBm (xA7 (xD4 _ _ _ _) _) 0 _) 1 _) (by dsimp only; omega) _, xBm (xAh (xAh (xA7 (xD3 _ _ _ _) _) (by dsimp only; omega) _) (by dsimp only; omega) _) 0 _, (((xA0 (xC4 _ _ _ _) _).setCell (by dsimp only; omega) _).setCell (by dsimp only; omega) _).setCell (by dsimp only; omega) _⟩⟩
      ·have q40 : (bt a0 i == 40) = false := by rw [g]; rfl
       have q41 : (bt a0 i == 41) = true := by rw [g]; rfl
       clear g
       go_wp2_with (first | (go_at_call 62; refine (HL'.out _).mono ?_; rintro e w' ⟨rfl, ⟨nd, rfl⟩⟩) | (go_at_call 64; refine (HF'.out _).mono ?_; rintro e w' ⟨rfl, ⟨nd2, rfl⟩⟩))
       go_meet
       case rel => exact ⟨rfl, rfl, ⟨xAh (xBm (xBm (xA7 (xD4 _ _ _ _) _) 0 _) 1 _) (by dsimp only; omega) _, xBm (xAh (xAh (xA7 (xD3 _ _ _ _) _) (by dsimp only; omega) _) (by dsimp only; omega) _) 0 _, (((xA0 (xC4 _ _ _ _) _).setCell (by dsimp only; omega) _).setCell (by dsimp only; omega) _).setCell (by dsimp only; omega) _⟩⟩
      ·have q40 : (bt a0 i == 40) = false := by rw [g]; rfl
       have q41 : (bt a0 i == 41) = false := by rw [g]; rfl
       have q44 : (bt a0 i == 44) = true := by rw [g]; rfl
       clear g
       go_wp2_with (first | (go_at_call 62; refine (HL'.out _).mono ?_; rintro e w' ⟨rfl, ⟨nd, rfl⟩⟩) | (go_at_call 64; refine (HF'.out _).mono ?_; rintro e w' ⟨rfl, ⟨nd2, rfl⟩⟩))
       go_meet
       case rel => exact ⟨rfl, rfl, ⟨xAh (xBm (xBm (xA7 (xD4 _ _ _ _) _) 0 _) 1 _) (by dsimp only; omega) _, xBm (xAh (xAh (xA7 (xD3 _ _ _ _) _) (by dsimp only; omega) _) (by dsimp only; omega) _) 0 _, (((xA0 (xC4 _ _ _ _) _).setCell (by dsimp only; omega) _).setCell (by dsimp only; omega) _).setCell (by dsimp only; omega) _⟩⟩
      ·have q40 : (bt a0 i == 40) = false := by rw [g]; rfl
       have q41 : (bt a0 i == 41) = false := by rw [g]; rfl
       have q44 : (bt a0 i == 44) = false := by rw [g]; rfl
       have q61 : (bt a0 i == 61) = true := by rw [g]; rfl
       clear g
       go_wp2_with (first | (go_at_call 62; refine (HL'.out _).mono ?_; rintro e w' ⟨rfl, ⟨nd, rfl⟩⟩) | (go_at_call 64; refine (HF'.out _).mono ?_; rintro e w' ⟨rfl, ⟨nd2, rfl⟩⟩))
       go_meet
       case rel => exact ⟨rfl, rfl, ⟨xAh (xBm (xBm (xA7 (xD4 _ _ _ _) _) 0 _) 1 _) (by dsimp only; omega) _, xBm (xAh (xAh (xA7 (xD3 _ _ _ _) _) (by dsimp only; omega) _) (by dsimp only; omega) _) 0 _, (((xA0 (xC4 _ _ _ _) _).setCell (by dsimp only; omega) _).setCell (by dsimp only; omega) _).setCell (by dsimp only; omega) _⟩⟩
      ·have q40 : (bt a0 i == 40) = false := by rw [g]; rfl
       have q41 : (bt a0 i == 41) = false := by rw [g]; rfl
       have q44 : (bt a0 i == 44) = false := by rw [g]; rfl
       have q61 : (bt a0 i == 61) = false := by rw [g]; rfl
       have q59 : (bt a0 i == 59) = true := by rw [g]; rfl
       clear g
       go_wp2_with (first | (go_at_call 62; refine (HL'.out _).mono ?_; rintro e w' ⟨rfl, ⟨nd, rfl⟩⟩) | (go_at_call 64; refine (HF'.out _).mono ?_; rintro e w' ⟨rfl, ⟨nd2, rfl⟩⟩))
       go_meet
       case rel => exact ⟨rfl, rfl, ⟨xAh (xBm (xBm (xA7 (xD4 _ _ _ _) _) 0 _) 1 _) (by dsimp only; omega) _, xBm (xAh (xAh (xA7 (xD3 _ _ _ _) _) (by dsimp only; omega) _) (by dsimp only; omega) _) 0 _, (((xA0 (xC4 _ _ _ _) _).setCell (by dsimp only; omega) _).setCell (by dsimp only; omega) _).setCell (by dsimp only; omega) _⟩⟩
     ·have hr6 := H.out
      rw [if_neg hsg] at hr6
      simp only [Option.some.injEq, Prod.mk.injEq] at hr6
      obtain ⟨rfl, rfl, rfl, rfl, rfl, rfl, rfl⟩ := hr6
      clear H
      simp only [not_or] at hsg
      obtain ⟨g1, g2, g3, g4, g5⟩ := hsg
      have q1 : (bt a0 i == 40) = false := by simpa using g1
      have q2 : (bt a0 i == 41) = false := by simpa using g2
      have q3 : (bt a0 i == 44) = false := by simpa using g3
      have q4 : (bt a0 i == 61) = false := by simpa using g4
      have q5 : (bt a0 i == 59) = false := by simpa using g5
      clear g1 g2 g3 g4 g5
      go_wp2_with (first | (go_at_call 62; refine (HL'.out _).mono ?_; rintro e w' ⟨rfl, ⟨nd, rfl⟩⟩) | (go_at_call 64; refine (HF'.out _).mono ?_; rintro e w' ⟨rfl, ⟨nd2, rfl⟩⟩))
      go_meet
      case rel => exact ⟨rfl, rfl, ⟨xBm (xA7 (xD4 _ _ _ _) _) 0 _, xAh (xA7 (xD3 _ _ _ _) _) (by dsimp only; omega) _, (xA0 (xC4 _ _ _ _) _).setCell (by dsimp only; omega) _⟩⟩
   ·rw [hf] at HF' H
    simp only [if_true] at H
    clear hf
    have hall := xEp xAv a0 (a0.size - i) i
    generalize hK : xBc xAv a0 (a0.size - i) i = K at H hall
    have hKs : i ≤ K ∧ K ≤ a0.size := by have := xE7 xAv a0 (a0.size - i) i (by omega); omega
    have hdig : ∀ j, j < (a0.extract i K).size → 48 ≤ bt (a0.extract i K) j ∧ bt (a0.extract i K) j ≤ 57 := by
     intro j hj
     rw [ByteArray.size_extract] at hj
     rw [xLe a0 i K j hKs.2 (by omega)]
     have := hall (i + j) (by omega) (by omega)
     simpa [xAv] using this
    clear hall
    generalize hS : a0.extract i K = S at H hdig
    obtain ⟨hK1, hK2⟩ := hKs
    have hSz : S.size = K - i := by rw [← hS, ByteArray.size_extract]; omega
    have HT := xG5 64 xAv (enters_of Tryd.func64 (by kernel_rfl) rfl) xF6 a0 i S K hK hS
    have HT' := Aside0.mk HT
    have HSz := Aside0.mk hSz
    have HD := Aside0.mk hdig
    have hS9 : S.size ≤ 140737488351232 := by omega
    clear HT hS hK hSz hdig
    have kc := xH0 (P := Tryd.prog) 9 50 5 Tryd.underlying9 Tryd.underlying50 Tryd.underlying5 S
    go_wp2_with (first | (go_at_call 62; refine (HL'.out _).mono ?_; rintro e w' ⟨rfl, ⟨nd, rfl⟩⟩) | (go_at_call 64; refine (HF'.out _).mono ?_; rintro e w' ⟨rfl, ⟨nd2, rfl⟩⟩) | (go_at_call 60; refine (HT'.out _ _ _ (by omega) (by omega) (xAh (xA7 (xD3 _ _ _ _) _) (by simp) _) (xAh (xA7 (xD9 _ _ _ _) _) (by simp) _)).mono ?_; rintro e w1 ⟨rfl, HK1, HA1⟩; have HT1 := Aside0.mk (HA1.out.blk (xBm (xA7 (xD4 _ _ _ _) _) 0 _) (by omega)); have HB1 := Aside0.mk (((xA0 (xC4 _ _ _ _) _).setCell (p := ⟨w.heap.size + 1, 0, none⟩) (by simp) _).trans (HA1.out.os _ (by omega)))))
    have HS1 := Aside0.mk (HA1.out.blk (xAh (xA7 (xD9 _ _ _ _) _) (by simp) _) (by omega))
    have hsz1 : w.heap.size + 1 + 1 < w1.heap.size := xBs HK1.out
    have HR1 := Aside0.mk (xJv w1 5 S (by omega))
    clear kc HT' HA1
    go_loopg [58] S.size (fun kx v58 wr => ∃ j : Nat, j ≤ S.size ∧ S.size - j ≤ kx ∧ v58 = .int .i64 j ∧ Aside0 (OneMid w 1 ⟨#[]⟩ (xCz ((xAj S).take j)) i K wr) ∧ Aside0 (xEh wr .u8 (some ⟨w1.heap.size, 0, none⟩) S.size (xAj S)) ∧ Aside0 (wr.heap[w.heap.size]? = some (.cells #[.string a0] 9 (0, 0))))
    case atStart => exact ⟨0, Nat.zero_le _, Nat.le_refl _, rfl, ⟨⟨(Lib.bytesWorld_at_old _ _ _ _ (by omega)).trans HT1.out, (Lib.bytesWorld_at_old _ _ _ _ (by omega)).trans HK1.out, xJw HB1.out (by omega) _ _⟩⟩, HR1, ⟨(Lib.bytesWorld_at_old _ _ _ _ (by omega)).trans HS1.out⟩⟩
    case round =>
     obtain ⟨j, hj, hgj, rfl, HM, HR, HS0⟩ := hrel
     clear HL' HF'
     by_cases hlt : j < S.size
     ·have hlt1 : decide ((j : Int) < (S.size : Int)) = true := by simpa using hlt
      have hlt2 : decide (j < S.size) = true := by simpa using hlt
      have hcb : wr.cell? ⟨w1.heap.size, j, none⟩ = some (.int .u8 (bt S j)) := by
       obtain ⟨ad, e1, hc⟩ := HR.out.at_ j (by omega) (by omega)
       injection e1 with e1
       subst e1
       rw [Int.toNat_natCast, xF8, xHp] at hc
       exact hc
      obtain ⟨hb1, hb2⟩ := HD.out j hlt
      have hsn := xH6 ((xAj S).take j) (bt S j)
      rw [← xJ7 S j hlt] at hsn
      have hN := xJ1 ((xAj S).take j) (by
       intro x hx
       obtain ⟨q, hq, rfl⟩ := List.mem_iff_getElem.1 (List.mem_of_mem_take hx)
       have hq' : q < S.size := by rw [xAy] at hq; exact hq
       have := xEb S q hq'
       rw [List.getElem?_eq_getElem hq] at this
       injection this with this
       rw [this]
       exact HD.out q hq')
      have HSN := Aside0.mk hsn
      clear hsn
      generalize xCz ((xAj S).take j) = N at HM HSN hN
      generalize bt S j = b at hcb hb1 hb2 HSN
      obtain ⟨hN1, hN2⟩ := hN
      have hcN : wr.cell? ⟨w.heap.size + 1, 2, none⟩ = some (.int .i64 N) := (xA4 HM.out.1 2).trans rfl
      have hfN : wr.frozen? ⟨w.heap.size + 1, 2, none⟩ = false := xA5 HM.out.1 2
      go_wp2
      all_goals
       go_roundg (S.size - (j + 1))
       case rel => exact ⟨j + 1, by omega, Nat.le_refl _, by go_num, ⟨(xBm HM.out.1 2 _).trans (by rw [HSN.out]; unfold mn; first | (rw [if_neg (by omega)]; rfl) | (rw [if_pos (by omega)]; rfl)), xAh HM.out.2.1 (by simp) _, HM.out.2.2.setCell (by simp) _⟩, ⟨xEh.far_ HR.out (by simp; omega) _⟩, ⟨xAh HS0.out (by simp) _⟩⟩
       case measure => omega
     ·have hlt1 : decide ((j : Int) < (S.size : Int)) = false := by simpa using hlt
      have hlt2 : decide (j < S.size) = false := by simpa using hlt
      obtain rfl : j = S.size := by omega
      have hfull : (xAj S).take S.size = xAj S := List.take_of_length_le (by rw [xAy]; exact Nat.le_refl _)
      rw [hfull] at HM
      clear hfull
      generalize xCz (xAj S) = N at HM H
      have hck : wr.cell? ⟨w.heap.size + 1 + 1, 0, none⟩ = some (.int .i64 K) := (xA4 HM.out.2.1 0).trans rfl
      by_cases hlong : i + 9 < K
      ·have hq : decide ((9 : Int) < (K : Int) - (i : Int)) = true := by simp; omega
       have hr6 := H.out
       rw [if_pos hlong] at hr6
       simp only [Option.some.injEq, Prod.mk.injEq] at hr6
       obtain ⟨rfl, rfl, rfl, rfl, rfl, rfl, rfl⟩ := hr6
       clear H
       go_wp2_with (fail)
       go_meet
       case rel => exact ⟨rfl, rfl, HM⟩
      ·have hq : decide ((9 : Int) < (K : Int) - (i : Int)) = false := by simp; omega
       have hr6 := H.out
       rw [if_neg hlong] at hr6
       have HG := xHu a0 K (w.heap.size + 1 + 1) w.heap.size wr (by omega) HM.out.2.1 HS0.out
       cases hgo : xFw a0 K
       ·rw [hgo] at HG hr6
        simp only [Bool.false_eq_true, if_false, Option.some.injEq, Prod.mk.injEq] at hr6
        obtain ⟨rfl, rfl, rfl, rfl, rfl, rfl, rfl⟩ := hr6
        have HG' := Aside0.mk HG
        clear H hgo HG
        go_wp2_with (go_at_call 61; refine HG'.out.mono ?_; rintro e w' ⟨rfl, ⟨nd, rfl⟩⟩)
        go_meet
        case rel => exact ⟨rfl, rfl, ⟨xA7 HM.out.1 _, xA7 HM.out.2.1 _, xA0 HM.out.2.2 _⟩⟩
       ·rw [hgo] at HG hr6
        simp only [if_true, Option.some.injEq, Prod.mk.injEq] at hr6
        obtain ⟨rfl, rfl, rfl, rfl, rfl, rfl, rfl⟩ := hr6
        have HG' := Aside0.mk HG
        clear H hgo HG
        go_wp2_with (go_at_call 61; refine HG'.out.mono ?_; rintro e w' ⟨rfl, ⟨nd, rfl⟩⟩)
        go_quiet (fail)
        go_wp2
        go_meet
        case rel => exact ⟨rfl, rfl, ⟨xA7 (xA7 HM.out.1 _) _, xA7 (xA7 HM.out.2.1 _) _, xA0 (xA0 HM.out.2.2 _) _⟩⟩
  ·rw [hl] at HL' H
   simp only [if_true] at H
   clear hl HF'
   generalize hK : xBc xCe a0 (a0.size - i) i = K at H
   generalize hS : a0.extract i K = S at H
   have hKs : i ≤ K ∧ K ≤ a0.size := by have := xE7 xCe a0 (a0.size - i) i (by omega); omega
   obtain ⟨hK1, hK2⟩ := hKs
   have hSz : S.size = K - i := by rw [← hS, ByteArray.size_extract]; omega
   have HT := xG5 63 xCe (enters_of Tryd.func63 (by kernel_rfl) rfl) xKk a0 i S K hK hS
   have HT' := Aside0.mk HT
   have HSz := Aside0.mk hSz
   clear HT hS hK hSz
   by_cases hlong : i + 16 < K
   ·have hl1 : decide ((16 : Int) < (S.size : Int)) = true := by rw [HSz.out]; simp; omega
    have hl2 : decide (16 < S.size) = true := by rw [HSz.out]; simp; omega
    have hr6 := H.out
    rw [if_pos hlong] at hr6
    simp only [Option.some.injEq, Prod.mk.injEq] at hr6
    obtain ⟨rfl, rfl, rfl, rfl, rfl, rfl, rfl⟩ := hr6
    clear H
    go_wp2_with (first | (go_at_call 62; refine (HL'.out _).mono ?_; rintro e w' ⟨rfl, ⟨nd, rfl⟩⟩) | (go_at_call 60; refine (HT'.out _ _ _ (by omega) (by omega) (xA7 (xD3 _ _ _ _) _) (xA7 (xD9 _ _ _ _) _)).mono ?_; rintro e w1 ⟨rfl, HK1, HA1⟩; have HT1 := Aside0.mk (HA1.out.blk (xA7 (xD4 _ _ _ _) _) (by omega)); have hc1 := (xA4 HT1.out 1).trans rfl; have hf1 := xA5 HT1.out 1))
    go_meet
    case rel => exact ⟨rfl, rfl, ⟨xBm HT1.out 1 _, xAh HK1.out (by simp) _, ((xA0 (xC4 _ _ _ _) _).trans (HA1.out.os _ (by omega))).setCell (by simp) _⟩⟩
   ·have hl1 : decide ((16 : Int) < (S.size : Int)) = false := by rw [HSz.out]; simp; omega
    have hl2 : decide (16 < S.size) = false := by rw [HSz.out]; simp; omega
    have hr6 := H.out
    rw [if_neg hlong] at hr6
    simp only [Option.some.injEq, Prod.mk.injEq] at hr6
    obtain ⟨rfl, rfl, rfl, rfl, rfl, rfl, rfl⟩ := hr6
    clear H
    go_wp2_with (first | (go_at_call 62; refine (HL'.out _).mono ?_; rintro e w' ⟨rfl, ⟨nd, rfl⟩⟩) | (go_at_call 60; refine (HT'.out _ _ _ (by omega) (by omega) (xA7 (xD3 _ _ _ _) _) (xA7 (xD9 _ _ _ _) _)).mono ?_; rintro e w1 ⟨rfl, HK1, HA1⟩; have HT1 := Aside0.mk (HA1.out.blk (xA7 (xD4 _ _ _ _) _) (by omega)); have hc1 := (xA4 HT1.out 1).trans rfl; have hf1 := xA5 HT1.out 1))
    go_meet
    case rel => exact ⟨rfl, rfl, ⟨xBm HT1.out 1 _, xAh HK1.out (by simp) _, ((xA0 (xC4 _ _ _ _) _).trans (HA1.out.os _ (by omega))).setCell (by simp) _⟩⟩
 case rest =>
  clear H
  obtain ⟨rfl, rfl, HM⟩ := hcut
  have hk : wc.cell? ⟨w.heap.size + 1 + 1, 0, none⟩ = some _ := (xA4 HM.out.2.1 0).trans rfl
  have h0 : wc.cell? ⟨w.heap.size + 1, 0, none⟩ = some _ := (xA4 HM.out.1 0).trans rfl
  have h1 : wc.cell? ⟨w.heap.size + 1, 1, none⟩ = some _ := (xA4 HM.out.1 1).trans rfl
  have h2 : wc.cell? ⟨w.heap.size + 1, 2, none⟩ = some _ := (xA4 HM.out.1 2).trans rfl
  have h3 : wc.cell? ⟨w.heap.size + 1, 3, none⟩ = some _ := (xA4 HM.out.1 3).trans rfl
  have fk : wc.frozen? ⟨w.heap.size + 1 + 1, 0, none⟩ = false := xA5 HM.out.2.1 0
  have f0 : wc.frozen? ⟨w.heap.size + 1, 0, none⟩ = false := xA5 HM.out.1 0
  have f1 : wc.frozen? ⟨w.heap.size + 1, 1, none⟩ = false := xA5 HM.out.1 1
  have f2 : wc.frozen? ⟨w.heap.size + 1, 2, none⟩ = false := xA5 HM.out.1 2
  have f3 : wc.frozen? ⟨w.heap.size + 1, 3, none⟩ = false := xA5 HM.out.1 3
  clear HL' HF' hb hd
  go_wp2
  go_region
  go_wp2
  refine bodyPost_ret (v := .tuple #[.agg #[.int .i64 r1, .string r2, .int .i64 r3, .int .i64 r4], .int .i64 r5, .int .i64 r6, .int .i64 r7]) ?hres rfl ?_
  case hres => exact xLt _ _ _ _ _ _ _ _ _ rfl rfl (xAc (xAh (xBm (xBm (xBm (xBm HM.out.1 0 _) 1 _) 2 _) 3 _) (by simp) _)) (xAc (xBm (xAh (xAh (xAh (xAh HM.out.2.1 (by simp) _) (by simp) _) (by simp) _) (by simp) _) 0 _))
  exact ⟨rfl, xCb (((((HM.out.2.2.setCell (by simp) _).setCell (by simp) _).setCell (by simp) _).setCell (by simp) _).setCell (by simp; omega) _)⟩

end Go.Proofs.YtknbfhhmjbnemaaDoor.P
end
section
namespace Go.Proofs.YtknbfhhmjbnemaaDoor.P
open Go.RowKit Go.Proofs.YtknbfhhmjbnemaaDoorW.PrintWords Go.Proofs.YtknbfhhmjbnemaaDoorW.PrintLast Go.Proofs.YtknbfhhmjbnemaaDoorW.PrintMore
attribute [local go_sem] xBh xBp

/-! ### xBx: function 84 -/
def xBx.f (a0 : ByteArray) (a1 : ByteArray) : Option (Bool) := if (a0.size : Int) ≥ (a1.size : Int) then (if 0 ≤ (a1.size : Int) then (if (a1.size : Int) ≤ (a0.size : Int) then (some ((a0.extract 0 ((a1.size : Int) : Int).toNat).toList == a1.toList)) else (none)) else (none)) else (some false)
set_option maxHeartbeats 8000000 in
set_option maxRecDepth 100000 in
theorem xBx.calls (a0 : ByteArray) (a1 : ByteArray) (r : Bool) (w : World) (h : xBx.f a0 a1 = some r) :
  Calls Tryd.prog 84 #[.string a0, .string a1] w fun e w' => e = .returned (.bool r) ∧ Drawn0 w w' := by
 have H : (if (a0.size : Int) ≥ (a1.size : Int) then (if 0 ≤ (a1.size : Int) then (if (a1.size : Int) ≤ (a0.size : Int) then (some ((a0.extract 0 ((a1.size : Int) : Int).toNat).toList == a1.toList)) else (none)) else (none)) else (some false)) = some r := h
 clear h
 by_cases c3 : (a0.size : Int) ≥ (a1.size : Int)
 ·rw [if_pos c3] at H
  have c3b0 : decide ((a1.size : Int) ≤ (a0.size : Int)) = true := decide_eq_true c3
  have c3b1 : decide (a1.size ≤ a0.size) = true := decide_eq_true (Int.ofNat_le.mp c3)
  clear c3
  by_cases c4 : 0 ≤ (a1.size : Int)
  ·rw [if_pos c4] at H
   have c4b0 := eq_true c4
   have c4b1 : decide (0 ≤ (a1.size : Int)) = true := decide_eq_true c4
   clear c4
   by_cases c5 : (a1.size : Int) ≤ (a0.size : Int)
   ·rw [if_pos c5] at H
    have c5b0 := eq_true c5
    have c5b1 : decide ((a1.size : Int) ≤ (a0.size : Int)) = true := decide_eq_true c5
    clear c5
    obtain rfl := Option.some.inj H
    go_enter Tryd.func84, Tryd.ntmps84
    go_wp2
    go_ret
    exact ⟨by first | rfl | (simp; done) | (simp [*]; done), by repeat (first | exact Drawn0.refl _ | apply Drawn0.step)⟩
   ·rw [if_neg c5] at H
    exact absurd H (by simp)
  ·rw [if_neg c4] at H
   exact absurd H (by simp)
 ·rw [if_neg c3] at H
  have c3b0 : decide ((a1.size : Int) ≤ (a0.size : Int)) = false := decide_eq_false c3
  have c3b1 : decide (a1.size ≤ a0.size) = false := decide_eq_false (fun h => c3 (Int.ofNat_le.mpr h))
  clear c3
  obtain rfl := Option.some.inj H
  go_enter Tryd.func84, Tryd.ntmps84
  go_wp2
  go_ret
  exact ⟨by first | rfl | (simp; done) | (simp [*]; done), by repeat (first | exact Drawn0.refl _ | apply Drawn0.step)⟩

end Go.Proofs.YtknbfhhmjbnemaaDoor.P
end
section
namespace Go.Proofs.YtknbfhhmjbnemaaDoor.P
open Go.RowKit Go.Proofs.YtknbfhhmjbnemaaDoorW.PrintWords Go.Proofs.YtknbfhhmjbnemaaDoorW.PrintLast Go.Proofs.YtknbfhhmjbnemaaDoorW.PrintMore
attribute [local go_sem] xBh xBp

/-! ### xBr: function 59 -/
def xBr.f (a0 : ByteArray) (a1 : ByteArray) : Option (Bool) := (xBx.f a0 a1).bind fun t101 => (some t101)
set_option maxHeartbeats 8000000 in
set_option maxRecDepth 100000 in
theorem xBr.calls (a0 : ByteArray) (a1 : ByteArray) (r : Bool) (w : World) (h : xBr.f a0 a1 = some r) :
  Calls Tryd.prog 59 #[.string a0, .string a1] w fun e w' => e = .returned (.bool r) ∧ Drawn0 w w' := by
 have H : ((xBx.f a0 a1).bind fun t101 => (some t101)) = some r := h
 clear h
 replace H := Option.bind_eq_some_iff.mp H
 obtain ⟨t101, A30, H⟩ := H
 replace H : (some t101) = some r := H
 have A3 := Aside0.mk A30
 clear A30
 obtain rfl := Option.some.inj H
 go_enter Tryd.func59, Tryd.ntmps59
 go_wp2_with (first | ((with_reducible refine xAo (f := 84) rfl ?_); refine xBo (some 7) rfl rfl Tryd.func84 (by kernel_rfl) rfl #[.string a0, .string a1] rfl (by (try simp only [List.map_toArray, List.map_cons, List.map_nil]); first | done | rfl | (simp only [List.length_drop, List.length_take]; rfl)) ?_; (with_reducible refine (xBx.calls a0 a1 t101 _ A3.out).mono ?_); rintro e w' ⟨rfl, ⟨nd, rfl⟩⟩; refine ⟨_, rfl, ?_⟩))
 go_ret
 exact ⟨by first | rfl | (simp; done) | (simp [*]; done), by repeat (first | exact Drawn0.refl _ | apply Drawn0.step)⟩

end Go.Proofs.YtknbfhhmjbnemaaDoor.P
end
section
namespace Go.Proofs.YtknbfhhmjbnemaaDoor.P
open Go.RowKit Go.Proofs.YtknbfhhmjbnemaaDoorW.PrintWords Go.Proofs.YtknbfhhmjbnemaaDoorW.PrintLast Go.Proofs.YtknbfhhmjbnemaaDoorW.PrintMore
attribute [local go_sem] xBh xBp

/-! ### strings_IndexByte: function 58 -/
-- IMPORTS Derived.Test.YtknbfhhmjbnemaaDoorShelf
def strings_IndexByte.f (a0 : ByteArray) (a1 : Int) : Option (Int) := some (Lib.indexByte a0.data.toList a1.toNat.toUInt8)
theorem strings_IndexByte.calls (a0 : ByteArray) (a1 : Int) (r : Int) (w : World) (h : strings_IndexByte.f a0 a1 = some r) :
  Calls Tryd.prog 58 #[.string a0, .int .u8 a1] w fun e w' => e = .returned (.int .i64 r) ∧ Drawn0 w w' := by
 obtain rfl := Option.some.inj h
 refine (Tryd.strings_IndexByte a0 a1 w).mono ?_
 rintro e w' ⟨rfl, rfl⟩
 exact ⟨rfl, Drawn0.refl _⟩

end Go.Proofs.YtknbfhhmjbnemaaDoor.P
end
section
namespace Go.Proofs.YtknbfhhmjbnemaaDoor.P
open Go.RowKit Go.Proofs.YtknbfhhmjbnemaaDoorW.PrintWords Go.Proofs.YtknbfhhmjbnemaaDoorW.PrintLast Go.Proofs.YtknbfhhmjbnemaaDoorW.PrintMore
attribute [local go_sem] xBh xBp

/-! ### xBw: function 28 -/
def xBw.l0 : Nat → ByteArray → Int → Option (Int)
 | 0, _, _ => none
 | k + 1, x0, x1 => if x1 < (x0.size : Int) then (if 0 ≤ x1 then ((strings_IndexByte.f (⟨#[9, 10, 13, 32]⟩ : ByteArray) (bt x0 x1)).bind fun t102 => (if t102 ≥ 0 then (xBw.l0 k x0 (wrap64 (x1 + 1))) else (if x1 ≤ (x0.size : Int) then ((xBr.f (x0.extract (x1 : Int).toNat x0.size) (⟨#[47, 47]⟩ : ByteArray)).bind fun t103 => (if t103 = true then ((strings_IndexByte.f (x0.extract (x1 : Int).toNat x0.size) 10).bind fun t104 => (if t104 < 0 then (some (x0.size : Int)) else (xBw.l0 k x0 (wrap64 (x1 + t104))))) else (some x1))) else (none)))) else (none)) else (some x1)
def xBw.f (k : Nat) (a0 : ByteArray) (a1 : Int) : Option (Int) := xBw.l0 k a0 a1
set_option maxHeartbeats 8000000 in
set_option maxRecDepth 100000 in
theorem xBw.calls (k : Nat) (a0 : ByteArray) (a1 : Int) (r : Int) (w : World) (h : xBw.f k a0 a1 = some r) :
  Calls Tryd.prog 28 #[.string a0, .int .i64 a1] w fun e w' => e = .returned (.int .i64 r) ∧ Drawn0 w w' := by
 have H : (xBw.l0 k a0 a1) = some r := h
 clear h
 have H' := Aside0.mk H
 clear H
 go_enter Tryd.func28, Tryd.ntmps28
 go_wp2
 go_loopg [1] k (fun kq v1 w' => ∃ (x1_1 : Int), v1 = .int .i64 x1_1 ∧ Aside0 (xBw.l0 kq a0 x1_1 = some r) ∧ Aside0 (kq ≤ k) ∧ Drawn0 w w')
 case atStart => exact ⟨(a1), (by first | rfl | (simp; done) | (simp [*]; done)), H', ⟨Nat.le_refl _⟩, by repeat (first | exact Drawn0.refl _ | apply Drawn0.step)⟩
 case round =>
  clear H'
  try clear c2
  try clear p2
  obtain ⟨x1_1, rfl, HA, HK1, ⟨m1, rfl⟩⟩ := hrel
  cases gk with
  | zero => exact absurd HA.out (by simp [xBw.l0])
  | succ k1 =>
   have H := HA.out
   clear HA
   simp only [xBw.l0] at H
   by_cases c3 : x1_1 < (a0.size : Int)
   ·rw [if_pos c3] at H
    have c3b0 : decide (x1_1 < (a0.size : Int)) = true := decide_eq_true c3
    clear c3
    by_cases c4 : 0 ≤ x1_1
    ·rw [if_pos c4] at H
     have c4b0 : decide (0 ≤ x1_1) = true := decide_eq_true c4
     clear c4
     replace H := Option.bind_eq_some_iff.mp H
     obtain ⟨t102, A60, H⟩ := H
     replace H : (if t102 ≥ 0 then (xBw.l0 k1 a0 (wrap64 (x1_1 + 1))) else (if x1_1 ≤ (a0.size : Int) then ((xBr.f (a0.extract (x1_1 : Int).toNat a0.size) (⟨#[47, 47]⟩ : ByteArray)).bind fun t103 => (if t103 = true then ((strings_IndexByte.f (a0.extract (x1_1 : Int).toNat a0.size) 10).bind fun t104 => (if t104 < 0 then (some (a0.size : Int)) else (xBw.l0 k1 a0 (wrap64 (x1_1 + t104))))) else (some x1_1))) else (none))) = some r := H
     have A6 := Aside0.mk A60
     clear A60
     by_cases c7 : t102 ≥ 0
     ·rw [if_pos c7] at H
      have c7b0 : decide (0 ≤ t102) = true := decide_eq_true c7
      clear c7
      have H' := Aside0.mk H
      clear H
      have p5 : 0 ≤ (x1_1 : Int) := of_decide_eq_true (by first | (with_reducible assumption) | assumption)
      have q5 : x1_1 < (a0.size : Int) := of_decide_eq_true (by first | (with_reducible assumption) | assumption)
      have hx5 := xD7 a0 x1_1
      replace p5 := eq_true p5
      replace q5 := eq_true q5
      go_wp2_with (first | ((with_reducible refine xAo (f := 58) rfl ?_); refine xBo (some 15) rfl rfl Tryd.func58 (by kernel_rfl) rfl #[.string (⟨#[9, 10, 13, 32]⟩ : ByteArray), .int .u8 (bt a0 x1_1)] rfl (by (try simp only [List.map_toArray, List.map_cons, List.map_nil]); first | done | rfl | (simp only [List.length_drop, List.length_take]; rfl)) ?_; (with_reducible refine (strings_IndexByte.calls (⟨#[9, 10, 13, 32]⟩ : ByteArray) (bt a0 x1_1) t102 _ A6.out).mono ?_); rintro e w' ⟨rfl, ⟨nd, rfl⟩⟩; refine ⟨_, rfl, ?_⟩))
      go_roundg k1
      case measure => have := HK1.out; omega
      case rel => exact ⟨(wrap64 (x1_1 + 1)), (by first | rfl | (simp; done) | (simp [*]; done)), H', ⟨by have := HK1.out; omega⟩, by repeat (first | exact Drawn0.refl _ | apply Drawn0.step)⟩
     ·rw [if_neg c7] at H
      have c7b0 : decide (0 ≤ t102) = false := decide_eq_false c7
      clear c7
      have c8b0 := eq_true (of_decide_eq_true (by first | (with_reducible assumption) | assumption) : 0 ≤ x1_1)
      by_cases c9 : x1_1 ≤ (a0.size : Int)
      ·rw [if_pos c9] at H
       have c9b0 := eq_true c9
       have c9b1 : decide (x1_1 ≤ (a0.size : Int)) = true := decide_eq_true c9
       clear c9
       replace H := Option.bind_eq_some_iff.mp H
       obtain ⟨t103, A100, H⟩ := H
       replace H : (if t103 = true then ((strings_IndexByte.f (a0.extract (x1_1 : Int).toNat a0.size) 10).bind fun t104 => (if t104 < 0 then (some (a0.size : Int)) else (xBw.l0 k1 a0 (wrap64 (x1_1 + t104))))) else (some x1_1)) = some r := H
       have A10 := Aside0.mk A100
       clear A100
       by_cases c11 : t103 = true
       ·subst c11
        have H1 : ((strings_IndexByte.f (a0.extract (x1_1 : Int).toNat a0.size) 10).bind fun t104 => (if t104 < 0 then (some (a0.size : Int)) else (xBw.l0 k1 a0 (wrap64 (x1_1 + t104))))) = some r := by rw [if_pos rfl] at H; exact H
        clear H
        have H := H1
        clear H1
        have c12b0 := eq_true (of_decide_eq_true (by first | (with_reducible assumption) | assumption) : 0 ≤ x1_1)
        have c13b0 := eq_true (of_decide_eq_true (by first | (with_reducible assumption) | assumption) : x1_1 ≤ (a0.size : Int))
        replace H := Option.bind_eq_some_iff.mp H
        obtain ⟨t104, A140, H⟩ := H
        replace H : (if t104 < 0 then (some (a0.size : Int)) else (xBw.l0 k1 a0 (wrap64 (x1_1 + t104)))) = some r := H
        have A14 := Aside0.mk A140
        clear A140
        by_cases c15 : t104 < 0
        ·rw [if_pos c15] at H
         have c15b0 : decide (t104 < 0) = true := decide_eq_true c15
         clear c15
         obtain rfl := Option.some.inj H
         have p5 : 0 ≤ (x1_1 : Int) := of_decide_eq_true (by first | (with_reducible assumption) | assumption)
         have q5 : x1_1 < (a0.size : Int) := of_decide_eq_true (by first | (with_reducible assumption) | assumption)
         have hx5 := xD7 a0 x1_1
         replace p5 := eq_true p5
         replace q5 := eq_true q5
         go_wp2_with (first | ((with_reducible refine xAo (f := 58) rfl ?_); refine xBo (some 15) rfl rfl Tryd.func58 (by kernel_rfl) rfl #[.string (⟨#[9, 10, 13, 32]⟩ : ByteArray), .int .u8 (bt a0 x1_1)] rfl (by (try simp only [List.map_toArray, List.map_cons, List.map_nil]); first | done | rfl | (simp only [List.length_drop, List.length_take]; rfl)) ?_; (with_reducible refine (strings_IndexByte.calls (⟨#[9, 10, 13, 32]⟩ : ByteArray) (bt a0 x1_1) t102 _ A6.out).mono ?_); rintro e w' ⟨rfl, ⟨nd, rfl⟩⟩; refine ⟨_, rfl, ?_⟩) | ((with_reducible refine xAo (f := 59) rfl ?_); refine xBo (some 23) rfl rfl Tryd.func59 (by kernel_rfl) rfl #[.string (a0.extract (x1_1 : Int).toNat a0.size), .string (⟨#[47, 47]⟩ : ByteArray)] rfl (by (try simp only [List.map_toArray, List.map_cons, List.map_nil]); first | done | rfl | (simp only [List.length_drop, List.length_take]; rfl)) ?_; (with_reducible refine (xBr.calls (a0.extract (x1_1 : Int).toNat a0.size) (⟨#[47, 47]⟩ : ByteArray) true _ A10.out).mono ?_); rintro e w' ⟨rfl, ⟨nd, rfl⟩⟩; refine ⟨_, rfl, ?_⟩) | ((with_reducible refine xAo (f := 58) rfl ?_); refine xBo (some 27) rfl rfl Tryd.func58 (by kernel_rfl) rfl #[.string (a0.extract (x1_1 : Int).toNat a0.size), .int .u8 10] rfl (by (try simp only [List.map_toArray, List.map_cons, List.map_nil]); first | done | rfl | (simp only [List.length_drop, List.length_take]; rfl)) ?_; (with_reducible refine (strings_IndexByte.calls (a0.extract (x1_1 : Int).toNat a0.size) 10 t104 _ A14.out).mono ?_); rintro e w' ⟨rfl, ⟨nd, rfl⟩⟩; refine ⟨_, rfl, ?_⟩))
         go_ret
         exact ⟨by first | rfl | (simp; done) | (simp [*]; done), by repeat (first | exact Drawn0.refl _ | apply Drawn0.step)⟩
        ·rw [if_neg c15] at H
         have c15b0 : decide (t104 < 0) = false := decide_eq_false c15
         clear c15
         have H' := Aside0.mk H
         clear H
         have p5 : 0 ≤ (x1_1 : Int) := of_decide_eq_true (by first | (with_reducible assumption) | assumption)
         have q5 : x1_1 < (a0.size : Int) := of_decide_eq_true (by first | (with_reducible assumption) | assumption)
         have hx5 := xD7 a0 x1_1
         replace p5 := eq_true p5
         replace q5 := eq_true q5
         go_wp2_with (first | ((with_reducible refine xAo (f := 58) rfl ?_); refine xBo (some 15) rfl rfl Tryd.func58 (by kernel_rfl) rfl #[.string (⟨#[9, 10, 13, 32]⟩ : ByteArray), .int .u8 (bt a0 x1_1)] rfl (by (try simp only [List.map_toArray, List.map_cons, List.map_nil]); first | done | rfl | (simp only [List.length_drop, List.length_take]; rfl)) ?_; (with_reducible refine (strings_IndexByte.calls (⟨#[9, 10, 13, 32]⟩ : ByteArray) (bt a0 x1_1) t102 _ A6.out).mono ?_); rintro e w' ⟨rfl, ⟨nd, rfl⟩⟩; refine ⟨_, rfl, ?_⟩) | ((with_reducible refine xAo (f := 59) rfl ?_); refine xBo (some 23) rfl rfl Tryd.func59 (by kernel_rfl) rfl #[.string (a0.extract (x1_1 : Int).toNat a0.size), .string (⟨#[47, 47]⟩ : ByteArray)] rfl (by (try simp only [List.map_toArray, List.map_cons, List.map_nil]); first | done | rfl | (simp only [List.length_drop, List.length_take]; rfl)) ?_; (with_reducible refine (xBr.calls (a0.extract (x1_1 : Int).toNat a0.size) (⟨#[47, 47]⟩ : ByteArray) true _ A10.out).mono ?_); rintro e w' ⟨rfl, ⟨nd, rfl⟩⟩; refine ⟨_, rfl, ?_⟩) | ((with_reducible refine xAo (f := 58) rfl ?_); refine xBo (some 27) rfl rfl Tryd.func58 (by kernel_rfl) rfl #[.string (a0.extract (x1_1 : Int).toNat a0.size), .int .u8 10] rfl (by (try simp only [List.map_toArray, List.map_cons, List.map_nil]); first | done | rfl | (simp only [List.length_drop, List.length_take]; rfl)) ?_; (with_reducible refine (strings_IndexByte.calls (a0.extract (x1_1 : Int).toNat a0.size) 10 t104 _ A14.out).mono ?_); rintro e w' ⟨rfl, ⟨nd, rfl⟩⟩; refine ⟨_, rfl, ?_⟩))
         go_roundg k1
         case measure => have := HK1.out; omega
         case rel => exact ⟨(wrap64 (x1_1 + t104)), (by first | rfl | (simp; done) | (simp [*]; done)), H', ⟨by have := HK1.out; omega⟩, by repeat (first | exact Drawn0.refl _ | apply Drawn0.step)⟩
       ·replace c11 := Bool.eq_false_iff.mpr c11
        subst c11
        have H1 : (some x1_1) = some r := by rw [if_neg (show ¬ (false = true) by decide)] at H; exact H
        clear H
        have H := H1
        clear H1
        obtain rfl := Option.some.inj H
        have p5 : 0 ≤ (x1_1 : Int) := of_decide_eq_true (by first | (with_reducible assumption) | assumption)
        have q5 : x1_1 < (a0.size : Int) := of_decide_eq_true (by first | (with_reducible assumption) | assumption)
        have hx5 := xD7 a0 x1_1
        replace p5 := eq_true p5
        replace q5 := eq_true q5
        go_wp2_with (first | ((with_reducible refine xAo (f := 58) rfl ?_); refine xBo (some 15) rfl rfl Tryd.func58 (by kernel_rfl) rfl #[.string (⟨#[9, 10, 13, 32]⟩ : ByteArray), .int .u8 (bt a0 x1_1)] rfl (by (try simp only [List.map_toArray, List.map_cons, List.map_nil]); first | done | rfl | (simp only [List.length_drop, List.length_take]; rfl)) ?_; (with_reducible refine (strings_IndexByte.calls (⟨#[9, 10, 13, 32]⟩ : ByteArray) (bt a0 x1_1) t102 _ A6.out).mono ?_); rintro e w' ⟨rfl, ⟨nd, rfl⟩⟩; refine ⟨_, rfl, ?_⟩) | ((with_reducible refine xAo (f := 59) rfl ?_); refine xBo (some 23) rfl rfl Tryd.func59 (by kernel_rfl) rfl #[.string (a0.extract (x1_1 : Int).toNat a0.size), .string (⟨#[47, 47]⟩ : ByteArray)] rfl (by (try simp only [List.map_toArray, List.map_cons, List.map_nil]); first | done | rfl | (simp only [List.length_drop, List.length_take]; rfl)) ?_; (with_reducible refine (xBr.calls (a0.extract (x1_1 : Int).toNat a0.size) (⟨#[47, 47]⟩ : ByteArray) false _ A10.out).mono ?_); rintro e w' ⟨rfl, ⟨nd, rfl⟩⟩; refine ⟨_, rfl, ?_⟩))
        go_ret
        exact ⟨by first | rfl | (simp; done) | (simp [*]; done), by repeat (first | exact Drawn0.refl _ | apply Drawn0.step)⟩
      ·rw [if_neg c9] at H
       exact absurd H (by simp)
    ·rw [if_neg c4] at H
     exact absurd H (by simp)
   ·rw [if_neg c3] at H
    have c3b0 : decide (x1_1 < (a0.size : Int)) = false := decide_eq_false c3
    clear c3
    obtain rfl := Option.some.inj H
    go_wp2
    go_ret
    exact ⟨by first | rfl | (simp; done) | (simp [*]; done), by repeat (first | exact Drawn0.refl _ | apply Drawn0.step)⟩

end Go.Proofs.YtknbfhhmjbnemaaDoor.P
end
section
namespace Go.Proofs.YtknbfhhmjbnemaaDoor.P
open Go.RowKit Go.Proofs.YtknbfhhmjbnemaaDoorW.PrintWords Go.Proofs.YtknbfhhmjbnemaaDoorW.PrintLast Go.Proofs.YtknbfhhmjbnemaaDoorW.PrintMore
attribute [local go_sem] xBh xBp

/-! ### xBi: function 17 -/
def xBi.l0 : Nat → ByteArray → List (S60) → Int → Option ((List (S60)) × Int × Int)
 | 0, _, _, _ => none
 | k + 1, x0, x5, x6 => if x6 < (x0.size : Int) then (if (x5.length : Int) = 500 then (some (([] : List (S60)), 103, x6)) else ((xEj.f x0 x6).bind fun bt107 => (if bt107.2.2.2.2.2.1 = 0 then (if x5.length < 3518437208883 then ((xBw.f k x0 bt107.2.2.2.2.1).bind fun t118 => (xBi.l0 k x0 (x5 ++ [(⟨bt107.1, bt107.2.1, bt107.2.2.1, bt107.2.2.2.1⟩ : S60)]) t118)) else (none)) else (some (([] : List (S60)), bt107.2.2.2.2.2.1, bt107.2.2.2.2.2.2))))) else (some (x5, 0, (-1)))
def xBi.f (k : Nat) (a0 : ByteArray) : Option ((List (S60)) × Int × Int) := if (a0.size : Int) > 2000 then (some (([] : List (S60)), 103, 0)) else ((xBw.f k a0 0).bind fun t106 => (xBi.l0 k a0 ([] : List (S60)) t106))
set_option maxHeartbeats 8000000 in
set_option maxRecDepth 100000 in
theorem xBi.calls (k : Nat) (a0 : ByteArray) (r1 : List (S60)) (r2 : Int) (r3 : Int) (w : World) (h : xBi.f k a0 = some (r1, r2, r3)) :
  Calls Tryd.prog 17 #[.string a0] w fun e w' => ∃ v0_ : Value, e = .returned (.tuple #[v0_, .int .i64 r2, .int .i64 r3]) ∧ Kd.R k60 60 w' w.heap.size (fun _ => True) v0_ r1 ∧ Below w.heap.size w w' := by
 have hu60 := Tryd.underlying60
 have HB := Aside0.mk (Below.refl w.heap.size w)
 have H : (if (a0.size : Int) > 2000 then (some (([] : List (S60)), 103, 0)) else ((xBw.f k a0 0).bind fun t106 => (xBi.l0 k a0 ([] : List (S60)) t106))) = some (r1, r2, r3) := h
 clear h
 by_cases c2 : (a0.size : Int) > 2000
 ·rw [if_pos c2] at H
  have c2b0 : decide (2000 < (a0.size : Int)) = true := decide_eq_true c2
  have c2b1 : decide (2000 < a0.size) = true := decide_eq_true (by omega)
  clear c2
  simp only [Option.some.injEq, Prod.mk.injEq] at H
  obtain ⟨rfl, rfl, rfl⟩ := H
  go_enter Tryd.func17, Tryd.ntmps17
  go_wp2
  go_ret3
  exact ⟨_, by first | rfl | (simp <;> rfl) | (simp [*] <;> rfl), by first | exact Kd.R_nil _ _ _ _ _ | exact Kd.N_nil _ _ _ _ _ | exact Kd.V_nil _ _ _ _ _ | exact Kd.Q_nil _ _ _ _ _ | exact Kd.S_nil _ _ _ _ _, by repeat (first | (with_reducible first | exact HB.out | apply xA2 | apply xA0 | apply xA3) | exact HB.out)⟩
 ·rw [if_neg c2] at H
  have c2b0 : decide (2000 < (a0.size : Int)) = false := decide_eq_false c2
  have c2b1 : decide (2000 < a0.size) = false := decide_eq_false (by omega)
  clear c2
  replace H := Option.bind_eq_some_iff.mp H
  obtain ⟨t106, A30, H⟩ := H
  replace H : (xBi.l0 k a0 ([] : List (S60)) t106) = some (r1, r2, r3) := H
  have A3 := Aside0.mk A30
  clear A30
  have H' := Aside0.mk H
  clear H
  go_enter Tryd.func17, Tryd.ntmps17
  go_wp2_with (first | ((with_reducible refine xAo (f := 28) rfl ?_); refine xBo (some 15) rfl rfl Tryd.func28 (by kernel_rfl) rfl #[.string a0, .int .i64 0] rfl (by (try simp only [List.map_toArray, List.map_cons, List.map_nil]); first | done | rfl | (simp only [List.length_drop, List.length_take]; rfl)) ?_; (with_reducible refine (xBw.calls k a0 0 t106 _ A3.out).mono ?_); rintro e w' ⟨rfl, ⟨nd, rfl⟩⟩; refine ⟨_, rfl, ?_⟩))
  go_loopg [5, 6] k (fun kq v5 v6 w' => ∃ (x5_1 : List (S60)) (x6_1 : Int), v6 = .int .i64 x6_1 ∧ Aside0 (xBi.l0 kq a0 x5_1 x6_1 = some (r1, r2, r3)) ∧ Aside0 (kq ≤ k) ∧ Aside0 (Kd.R k60 60 w' w.heap.size (fun _ => True) v5 x5_1) ∧ Aside0 (Below w.heap.size w w'))
  case atStart => exact ⟨(([] : List (S60))), (t106), (by first | rfl | (simp; done) | (simp [*]; done)), H', ⟨Nat.le_refl _⟩, ⟨by first | exact Kd.R_nil _ _ _ _ _ | exact Kd.N_nil _ _ _ _ _ | exact Kd.V_nil _ _ _ _ _ | exact Kd.Q_nil _ _ _ _ _ | exact Kd.S_nil _ _ _ _ _⟩, ⟨by repeat (first | (with_reducible first | exact HB.out | apply xA2 | apply xA0 | apply xA3) | exact HB.out)⟩⟩
  case round =>
   clear H'
   try clear c1
   try clear c2
   try clear c2b0
   try clear c2b1
   try clear p2
   obtain ⟨x5_1, x6_1, rfl, HA, HK1, HO_5, HB⟩ := hrel
   cases gk with
   | zero => exact absurd HA.out (by simp [xBi.l0])
   | succ k1 =>
    have H := HA.out
    clear HA
    simp only [xBi.l0] at H
    by_cases c4 : x6_1 < (a0.size : Int)
    ·rw [if_pos c4] at H
     have c4b0 : decide (x6_1 < (a0.size : Int)) = true := decide_eq_true c4
     clear c4
     by_cases c5 : (x5_1.length : Int) = 500
     ·rw [if_pos c5] at H
      have c5b0 : ((x5_1.length : Int) == 500) = true := beq_iff_eq.mpr c5
      have c5b1 : ((x5_1.length : Int) != 500) = false := bne_eq_false_iff_eq.mpr c5
      clear c5
      simp only [Option.some.injEq, Prod.mk.injEq] at H
      obtain ⟨rfl, rfl, rfl⟩ := H
      obtain ⟨Ao6, co6, eo6⟩ := Kd.R_slice HO_5.out
      subst eo6
      go_wp2
      go_ret3
      exact ⟨_, by first | rfl | (simp <;> rfl) | (simp [*] <;> rfl), by first | exact Kd.R_nil _ _ _ _ _ | exact Kd.N_nil _ _ _ _ _ | exact Kd.V_nil _ _ _ _ _ | exact Kd.Q_nil _ _ _ _ _ | exact Kd.S_nil _ _ _ _ _, by repeat (first | (with_reducible first | exact HB.out | apply xA2 | apply xA0 | apply xA3) | exact HB.out)⟩
     ·rw [if_neg c5] at H
      have c5b0 : ((x5_1.length : Int) == 500) = false := beq_eq_false_iff_ne.mpr c5
      have c5b1 : ((x5_1.length : Int) != 500) = true := bne_iff_ne.mpr c5
      replace H := Option.bind_eq_some_iff.mp H
      obtain ⟨⟨t107, t108, t109, t110, t111, t112, t113⟩, A70, H⟩ := H
      replace H : (if t112 = 0 then (if x5_1.length < 3518437208883 then ((xBw.f k1 a0 t111).bind fun t118 => (xBi.l0 k1 a0 (x5_1 ++ [(⟨t107, t108, t109, t110⟩ : S60)]) t118)) else (none)) else (some (([] : List (S60)), t112, t113))) = some (r1, r2, r3) := H
      have A7 := Aside0.mk A70
      clear A70
      by_cases c8 : t112 = 0
      ·rw [if_pos c8] at H
       have c8b0 : (t112 == 0) = true := beq_iff_eq.mpr c8
       have c8b1 : (t112 != 0) = false := bne_eq_false_iff_eq.mpr c8
       clear c8
       by_cases c9 : x5_1.length < 3518437208883
       ·rw [if_pos c9] at H
        have LMc9 := Aside0.mk c9
        clear c9
        obtain ⟨y115, hy115⟩ : ∃ y_ : List (S60), y_ = (x5_1 ++ [(⟨t107, t108, t109, t110⟩ : S60)]) := ⟨_, rfl⟩
        replace H : ((xBw.f k1 a0 t111).bind fun t118 => (xBi.l0 k1 a0 y115 t118)) = some (r1, r2, r3) := by first | (rw [hy115]; with_reducible exact H) | (have H2_ := (Option.bind_some _ _).symm.trans H; rw [hy115]; with_reducible exact H2_) | (have H2_ := (Option.bind_some _ _).symm.trans H; with_reducible exact H2_) | with_reducible exact H | (rw [hy115]; exact H) | exact H
        have Ny115 := Aside0.mk hy115
        clear hy115
        replace H := Option.bind_eq_some_iff.mp H
        obtain ⟨t118, A100, H⟩ := H
        replace H : (xBi.l0 k1 a0 y115 t118) = some (r1, r2, r3) := H
        have A10 := Aside0.mk A100
        clear A100
        have H' := Aside0.mk H
        clear H
        obtain ⟨Ao11, co11, eo11⟩ := Kd.R_slice HO_5.out
        subst eo11
        go_wp2_with (first | ((with_reducible refine xAo (f := 29) rfl ?_); refine xBo (some 27) rfl rfl Tryd.func29 (by kernel_rfl) rfl #[.string a0, .int .i64 x6_1] rfl (by (try simp only [List.map_toArray, List.map_cons, List.map_nil]); first | done | rfl | (simp only [List.length_drop, List.length_take]; rfl)) ?_; (with_reducible refine (xEj.calls a0 x6_1 t107 t108 t109 t110 t111 t112 t113 _ A7.out).mono ?_); rintro e w12 ⟨rfl, hb⟩; refine ⟨_, rfl, ?_⟩; have n0_ := Aside0.mk (Kd.R_below (by (with_reducible repeat (first | apply Kd.R_alloc | apply Kd.R_drewN | apply Kd.R_drew)); exact HO_5.out) hb); have n1_ := Aside0.mk (xAz (by repeat (first | (with_reducible first | exact HB.out | apply xA2 | apply xA0 | apply xA3) | exact HB.out)) hb); clear HO_5; clear HB; have HO_5 := n0_; have HB := n1_; clear n0_ n1_; (try clear hb); (try clear hb2); (try clear hk); (try clear hi)) | ((with_reducible refine xB0 (N := 7) rfl ?_); refine xB9 ?hg (N := 7) ?hd (cs := #[.int .i64 0, .string (⟨#[]⟩ : ByteArray), .int .i64 0, .int .i64 0]) (t := 60) ?hr ?_; (case hd => rfl); (case hg => rfl); (case hr => first | (go_simp; done) | (go_simp; rfl)); intro gb114 hg w13 hbox hb; have n0_ := Aside0.mk (Kd.R_below (Kd.R_elderB (by (with_reducible repeat (first | apply Kd.R_alloc | apply Kd.R_drewN | apply Kd.R_drew)); exact HO_5.out) gb114 (Nat.le_of_eq hg.symm)) hb); have n1_ := Aside0.mk (xAz (by repeat (first | (with_reducible first | exact HB.out | apply xA2 | apply xA0 | apply xA3) | exact HB.out)) hb); have n2_ := Aside0.mk (hbox); have n3_ := Aside0.mk ((by rw [hg]; exact (xBa (by repeat (first | (with_reducible first | exact HB.out | apply xA2 | apply xA0 | apply xA3) | exact HB.out))) : w.heap.size ≤ gb114)); have n4_ := Aside0.mk ((by rw [hg]; exact (xBa (by repeat (first | (with_reducible first | exact HB.out | apply xA2 | apply xA0 | apply xA3) | exact HB.out))) : w.heap.size ≤ gb114)); clear HO_5; clear HB; have HO_5 := n0_; have HB := n1_; have BK114 := n2_; have GW114 := n3_; have GE114 := n4_; clear n0_ n1_ n2_ n3_ n4_; clear hb hbox hg; obtain ⟨hcz14_0, hcz14_1, hcz14_2, hcz14_3, hfz14_0, hfz14_1, hfz14_2, hfz14_3⟩ := ex4 BK114.out) | ((with_reducible refine xCh (b := .append) (xs := #[.tmp 36, .tmp 38]) rfl ?_); at_builtin; refine Kd.R_append k60 (w0 := w) w.heap.size rfl (.tmp 36) (.tmp 38) 36 60 (.agg #[(.int .i64 0), (.string ⟨#[]⟩), (.int .i64 0), (.int .i64 0)]) 40 rfl Tryd.underlying36 info60 rfl (by decide) (by omega) (.slice Ao11 x5_1.length co11) x5_1 (⟨t107, t108, t109, t110⟩ : S60) [.int .i64 t107, .string t108, .int .i64 t109, .int .i64 t110] (fun k_ => k_ ≠ gb114) (fun _ => False) rfl (by first | (go_simp; done) | (go_simp; rfl)) ?aP (fun _ hk => hk.elim) ?aF ?aO ?aB ?aS ?aL ?_; (case aP => exact xMg _ _ _ (⟨t107, t108, t109, t110⟩ : S60)); (case aB => exact (by repeat (first | (with_reducible first | exact HB.out | apply xA2 | apply xA0 | apply xA3 | refine xAa ?_ GE114.out) | exact HB.out))); (case aF => exact (fun k_ hk => Kd.freshB (g := gb114) (o := .cells #[.int .i64 t107, .string t108, .int .i64 t109, .int .i64 t110] 60 (0, 0)) (by (with_reducible repeat (first | refine xA7 ?_ _ | refine xAc ?_ | refine xA6 ?_ _)); refine xA1 (cs := #[.int .i64 t107, .string t108, .int .i64 t109, .int .i64 0]) ?_ 3 _ rfl; (with_reducible repeat (first | refine xA7 ?_ _ | refine xAc ?_ | refine xA6 ?_ _)); refine xA1 (cs := #[.int .i64 t107, .string t108, .int .i64 0, .int .i64 0]) ?_ 2 _ rfl; (with_reducible repeat (first | refine xA7 ?_ _ | refine xAc ?_ | refine xA6 ?_ _)); refine xA1 (cs := #[.int .i64 t107, .string (⟨#[]⟩ : ByteArray), .int .i64 0, .int .i64 0]) ?_ 1 _ rfl; (with_reducible repeat (first | refine xA7 ?_ _ | refine xAc ?_ | refine xA6 ?_ _)); refine xA1 (cs := #[.int .i64 0, .string (⟨#[]⟩ : ByteArray), .int .i64 0, .int .i64 0]) ?_ 0 _ rfl; (with_reducible repeat (first | refine xA7 ?_ _ | refine xAc ?_ | refine xA6 ?_ _)); exact BK114.out) k_ hk)); (case aO => exact (by (with_reducible repeat (first | apply Kd.R_alloc | apply Kd.R_drewN | apply Kd.R_drew)); exact Kd.R_mono (Kd.R_far (p := ⟨gb114, 3, none⟩) (Kd.R_far (p := ⟨gb114, 2, none⟩) (Kd.R_far (p := ⟨gb114, 1, none⟩) (Kd.R_far (p := ⟨gb114, 0, none⟩) (Kd.R_mono HO_5.out (fun k_ hk => (⟨hk, hk.2⟩ : _ ∧ k_ ≠ gb114))) (fun _ hk => hk.2) (.int .i64 t107)) (fun _ hk => hk.2) (.string t108)) (fun _ hk => hk.2) (.int .i64 t109)) (fun _ hk => hk.2) (.int .i64 t110)) (fun _ hk => hk.1.2))); (case aS => exact (xBa (by repeat (first | (with_reducible first | exact HB.out | apply xA2 | apply xA0 | apply xA3 | refine xAa ?_ GE114.out) | exact HB.out)))); (case aL => have := LMc9.out; omega); intro v116 w15 ho hb hg hat; rw [← Ny115.out] at ho; have n0_ := Aside0.mk (xBk (g := gb114) (o := .cells #[.int .i64 t107, .string t108, .int .i64 t109, .int .i64 t110] 60 (0, 0)) (by (with_reducible repeat (first | refine xA7 ?_ _ | refine xAc ?_ | refine xA6 ?_ _)); refine xA1 (cs := #[.int .i64 t107, .string t108, .int .i64 t109, .int .i64 0]) ?_ 3 _ rfl; (with_reducible repeat (first | refine xA7 ?_ _ | refine xAc ?_ | refine xA6 ?_ _)); refine xA1 (cs := #[.int .i64 t107, .string t108, .int .i64 0, .int .i64 0]) ?_ 2 _ rfl; (with_reducible repeat (first | refine xA7 ?_ _ | refine xAc ?_ | refine xA6 ?_ _)); refine xA1 (cs := #[.int .i64 t107, .string (⟨#[]⟩ : ByteArray), .int .i64 0, .int .i64 0]) ?_ 1 _ rfl; (with_reducible repeat (first | refine xA7 ?_ _ | refine xAc ?_ | refine xA6 ?_ _)); refine xA1 (cs := #[.int .i64 0, .string (⟨#[]⟩ : ByteArray), .int .i64 0, .int .i64 0]) ?_ 0 _ rfl; (with_reducible repeat (first | refine xA7 ?_ _ | refine xAc ?_ | refine xA6 ?_ _)); exact BK114.out) hg (Kd.R_away HO_5.out (fun _ hk => hk.2))); have n1_ := Aside0.mk (hb); have n2_ := Aside0.mk (ho); clear BK114; clear HB; clear HO_5; have BK114 := n0_; have HB := n1_; have HO117 := n2_; clear n0_ n1_ n2_; clear ho hb hg hat) | ((with_reducible refine xAo (f := 28) rfl ?_); refine xBo (some 42) rfl rfl Tryd.func28 (by kernel_rfl) rfl #[.string a0, .int .i64 t111] rfl (by (try simp only [List.map_toArray, List.map_cons, List.map_nil]); first | done | rfl | (simp only [List.length_drop, List.length_take]; rfl)) ?_; (with_reducible refine (xBw.calls k1 a0 t111 t118 _ A10.out).mono ?_); rintro e w' ⟨rfl, ⟨nd, rfl⟩⟩; refine ⟨_, rfl, ?_⟩))
        go_roundg k1
        case measure => have := HK1.out; omega
        case rel => exact ⟨(y115), (t118), (by first | rfl | (simp; done) | (simp [*]; done)), H', ⟨by have := HK1.out; omega⟩, ⟨by (with_reducible repeat (first | apply Kd.R_alloc | apply Kd.R_drewN | apply Kd.R_drew)); exact Kd.R_mono HO117.out (fun _ hk => trivial)⟩, ⟨by repeat (first | (with_reducible first | exact HB.out | apply xA2 | apply xA0 | apply xA3 | refine xAa ?_ GE114.out) | exact HB.out)⟩⟩
       ·rw [if_neg c9] at H
        exact absurd H (by simp)
      ·rw [if_neg c8] at H
       have c8b0 : (t112 == 0) = false := beq_eq_false_iff_ne.mpr c8
       have c8b1 : (t112 != 0) = true := bne_iff_ne.mpr c8
       simp only [Option.some.injEq, Prod.mk.injEq] at H
       obtain ⟨rfl, rfl, rfl⟩ := H
       obtain ⟨Ao16, co16, eo16⟩ := Kd.R_slice HO_5.out
       subst eo16
       go_wp2_with (first | ((with_reducible refine xAo (f := 29) rfl ?_); refine xBo (some 27) rfl rfl Tryd.func29 (by kernel_rfl) rfl #[.string a0, .int .i64 x6_1] rfl (by (try simp only [List.map_toArray, List.map_cons, List.map_nil]); first | done | rfl | (simp only [List.length_drop, List.length_take]; rfl)) ?_; (with_reducible refine (xEj.calls a0 x6_1 t107 t108 t109 t110 t111 t112 t113 _ A7.out).mono ?_); rintro e w17 ⟨rfl, hb⟩; refine ⟨_, rfl, ?_⟩; have n0_ := Aside0.mk (Kd.R_below (by (with_reducible repeat (first | apply Kd.R_alloc | apply Kd.R_drewN | apply Kd.R_drew)); exact HO_5.out) hb); have n1_ := Aside0.mk (xAz (by repeat (first | (with_reducible first | exact HB.out | apply xA2 | apply xA0 | apply xA3) | exact HB.out)) hb); clear HO_5; clear HB; have HO_5 := n0_; have HB := n1_; clear n0_ n1_; (try clear hb); (try clear hb2); (try clear hk); (try clear hi)) | ((with_reducible refine xB0 (N := 7) rfl ?_); refine xB9 ?hg (N := 7) ?hd (cs := #[.int .i64 0, .string (⟨#[]⟩ : ByteArray), .int .i64 0, .int .i64 0]) (t := 60) ?hr ?_; (case hd => rfl); (case hg => rfl); (case hr => first | (go_simp; done) | (go_simp; rfl)); intro gb114 hg w18 hbox hb; have n0_ := Aside0.mk (Kd.R_below (Kd.R_elderB (by (with_reducible repeat (first | apply Kd.R_alloc | apply Kd.R_drewN | apply Kd.R_drew)); exact HO_5.out) gb114 (Nat.le_of_eq hg.symm)) hb); have n1_ := Aside0.mk (xAz (by repeat (first | (with_reducible first | exact HB.out | apply xA2 | apply xA0 | apply xA3) | exact HB.out)) hb); have n2_ := Aside0.mk (hbox); have n3_ := Aside0.mk ((by rw [hg]; exact (xBa (by repeat (first | (with_reducible first | exact HB.out | apply xA2 | apply xA0 | apply xA3) | exact HB.out))) : w.heap.size ≤ gb114)); have n4_ := Aside0.mk ((by rw [hg]; exact (xBa (by repeat (first | (with_reducible first | exact HB.out | apply xA2 | apply xA0 | apply xA3) | exact HB.out))) : w.heap.size ≤ gb114)); clear HO_5; clear HB; have HO_5 := n0_; have HB := n1_; have BK114 := n2_; have GW114 := n3_; have GE114 := n4_; clear n0_ n1_ n2_ n3_ n4_; clear hb hbox hg; obtain ⟨hcz19_0, hcz19_1, hcz19_2, hcz19_3, hfz19_0, hfz19_1, hfz19_2, hfz19_3⟩ := ex4 BK114.out))
       go_ret3
       exact ⟨_, by first | rfl | (simp <;> rfl) | (simp [*] <;> rfl), by first | exact Kd.R_nil _ _ _ _ _ | exact Kd.N_nil _ _ _ _ _ | exact Kd.V_nil _ _ _ _ _ | exact Kd.Q_nil _ _ _ _ _ | exact Kd.S_nil _ _ _ _ _, by repeat (first | (with_reducible first | exact HB.out | apply xA2 | apply xA0 | apply xA3 | refine xAa ?_ GE114.out) | exact HB.out)⟩
    ·rw [if_neg c4] at H
     have c4b0 : decide (x6_1 < (a0.size : Int)) = false := decide_eq_false c4
     clear c4
     simp only [Option.some.injEq, Prod.mk.injEq] at H
     obtain ⟨rfl, rfl, rfl⟩ := H
     go_wp2
     go_ret3
     exact ⟨_, by first | rfl | (simp <;> rfl) | (simp [*] <;> rfl), by (with_reducible repeat (first | apply Kd.R_alloc | apply Kd.R_drewN | apply Kd.R_drew)); exact HO_5.out, by repeat (first | (with_reducible first | exact HB.out | apply xA2 | apply xA0 | apply xA3) | exact HB.out)⟩

end Go.Proofs.YtknbfhhmjbnemaaDoor.P
end
section
namespace Go.Proofs.YtknbfhhmjbnemaaDoor.P
open Go.RowKit Go.Proofs.YtknbfhhmjbnemaaDoorW.PrintWords Go.Proofs.YtknbfhhmjbnemaaDoorW.PrintLast Go.Proofs.YtknbfhhmjbnemaaDoorW.PrintMore

/-- A file's statements. -/
def xE6 : Nat → List S60 → Int → List S25 → PR (List S25)
 | 0, _, _, _ => none
 | k + 1, T, en, acc => if acc.length ≤ 1000000 then (if T = [] then some (.ok (acc, T)) else pbd (xIx k T en) fun x T1 => xE6 k T1 en (acc ++ [x])) else none
theorem xEv : ∀ k T en acc, LeO (xE6 k T en acc) (xE6 (k + 1) T en acc)
 | 0, _, _, _ => fun r h => by simp [xE6] at h
 | k + 1, T, en, acc => by
  rw [xE6, xE6]
  repeat' first
   | (with_reducible exact xEv k _ _ _)
   | (with_reducible exact xHq _ _ _)
   | (with_reducible exact LeO.refl _)
   | (with_reducible refine LeO.ite ?_ ?_)
   | (with_reducible refine LeO.pbd ?_ (fun _ _ => ?_))
/-- What Parse hands back. -/
def xK9 (w : World) (n : S25) (er at_ : Int) (e : Ending) (w' : World) : Prop := ∃ v, e = .returned (.tuple #[.agg #[.string n.f0, .string n.f1, .int .i64 n.f2, .int .i64 n.f3, v], .int .i64 er, .int .i64 at_]) ∧ Kd.N k25 25 w' w.heap.size (fun k => w.heap.size ≤ k) v n.f4 ∧ Below w.heap.size w w'
theorem results9 (tmps : Array Value) (w : World) (bn be ba : Nat) (a b c d f : Value) (E K : Int) (h2 : (tmps[2]?).getD undef = .pointer (some ⟨bn, 0, none⟩)) (h3 : (tmps[3]?).getD undef = .pointer (some ⟨be, 0, none⟩)) (h4 : (tmps[4]?).getD undef = .pointer (some ⟨ba, 0, none⟩))
  (hn : w.heap[bn]? = some (.cells #[a, b, c, d, f] 25 (0, 0))) (he : w.heap[be]? = some (.cells #[.int .i64 E] 26 (0, 0))) (hk : w.heap[ba]? = some (.cells #[.int .i64 K] 3 (0, 0))) :
  (results Tryd.f9 tmps).run Tryd.prog w = .ok (.tuple #[.agg #[a, b, c, d, f], .int .i64 E, .int .i64 K]) w := by
 have he0 : w.cell? ⟨be, 0, none⟩ = some (.int .i64 E) := (xA4 he 0).trans rfl
 have hk0 : w.cell? ⟨ba, 0, none⟩ = some (.int .i64 K) := (xA4 hk 0).trans rfl
 have n0 : w.cell? ⟨bn, 0, none⟩ = some a := (xA4 hn 0).trans rfl
 have n1 : w.cell? ⟨bn, 1, none⟩ = some b := (xA4 hn 1).trans rfl
 have n2 : w.cell? ⟨bn, 2, none⟩ = some c := (xA4 hn 2).trans rfl
 have n3 : w.cell? ⟨bn, 3, none⟩ = some d := (xA4 hn 3).trans rfl
 have n4 : w.cell? ⟨bn, 4, none⟩ = some f := (xA4 hn 4).trans rfl
 simp [results, Tryd.results9, go_sem, h2, h3, h4, he0, hk0, n0, n1, n2, n3, n4]
set_option maxHeartbeats 16000000 in
set_option maxRecDepth 100000 in
theorem xJn (k : Nat) (s : ByteArray) (T : List S60) (er at_ : Int) (w : World) (h : xBi.f k s = some (T, er, at_)) (he : ¬ er = 0) :
  Calls Tryd.prog 9 #[.string s] w (xK9 w z25 er at_) := by
 have hmf : ∀ (fn : Fn) (first cap : Array Value) (w : World), (Instr.makeFunc fn first cap).run Tryd.prog w = .ok (.func fn first cap) w := fun _ _ _ _ => rfl
 have hu25 := Tryd.underlying25
 have HS := Aside0.mk h
 have d0 : (er != 0) = true := by simpa using he
 have d1 : (er == 0) = false := by simpa using he
 clear h he
 have HN := Aside0.mk (show (((w.alloc (.cells #[.string (⟨#[]⟩ : ByteArray), .string (⟨#[]⟩ : ByteArray), .int .i64 0, .int .i64 0, .slice none 0 0] 25 (0, 0))).alloc (.cells #[.int .i64 0] 26 (0, 0))).alloc (.cells #[.int .i64 0] 3 (0, 0))).heap[w.heap.size]? = some (.cells #[.string (⟨#[]⟩ : ByteArray), .string (⟨#[]⟩ : ByteArray), .int .i64 0, .int .i64 0, .slice none 0 0] 25 (0, 0)) from xA6 (xA6 (xBj _ _) _) _)
 have HE := Aside0.mk (show (((w.alloc (.cells #[.string (⟨#[]⟩ : ByteArray), .string (⟨#[]⟩ : ByteArray), .int .i64 0, .int .i64 0, .slice none 0 0] 25 (0, 0))).alloc (.cells #[.int .i64 0] 26 (0, 0))).alloc (.cells #[.int .i64 0] 3 (0, 0))).heap[w.heap.size + 1]? = some (.cells #[.int .i64 0] 26 (0, 0)) from xA6 (by have := xBj (w.alloc (.cells #[.string (⟨#[]⟩ : ByteArray), .string (⟨#[]⟩ : ByteArray), .int .i64 0, .int .i64 0, .slice none 0 0] 25 (0, 0))) (.cells #[.int .i64 0] 26 (0, 0)); rwa [World.size_alloc] at this) _)
 have HA := Aside0.mk (show (((w.alloc (.cells #[.string (⟨#[]⟩ : ByteArray), .string (⟨#[]⟩ : ByteArray), .int .i64 0, .int .i64 0, .slice none 0 0] 25 (0, 0))).alloc (.cells #[.int .i64 0] 26 (0, 0))).alloc (.cells #[.int .i64 0] 3 (0, 0))).heap[w.heap.size + 1 + 1]? = some (.cells #[.int .i64 0] 3 (0, 0)) from by have := xBj ((w.alloc (.cells #[.string (⟨#[]⟩ : ByteArray), .string (⟨#[]⟩ : ByteArray), .int .i64 0, .int .i64 0, .slice none 0 0] 25 (0, 0))).alloc (.cells #[.int .i64 0] 26 (0, 0))) (.cells #[.int .i64 0] 3 (0, 0)); rwa [World.size_alloc, World.size_alloc] at this)
 have HB := Aside0.mk (show Below w.heap.size w (((w.alloc (.cells #[.string (⟨#[]⟩ : ByteArray), .string (⟨#[]⟩ : ByteArray), .int .i64 0, .int .i64 0, .slice none 0 0] 25 (0, 0))).alloc (.cells #[.int .i64 0] 26 (0, 0))).alloc (.cells #[.int .i64 0] 3 (0, 0))) from xA2 (xA2 (xA2 (Below.refl _ _) _) _) _)
 go_enter_defers Tryd.func9, Tryd.ntmps9
 go_upto_region 1 with (fail)
 generalize (((w.alloc (.cells #[.string (⟨#[]⟩ : ByteArray), .string (⟨#[]⟩ : ByteArray), .int .i64 0, .int .i64 0, .slice none 0 0] 25 (0, 0))).alloc (.cells #[.int .i64 0] 26 (0, 0))).alloc (.cells #[.int .i64 0] 3 (0, 0))) = w1 at *
 have NE1 := Aside0.mk (show w.heap.size + 1 ≠ w.heap.size + 1 + 1 by omega)
 have NE2 := Aside0.mk (show w.heap.size ≠ w.heap.size + 1 by omega)
 have NE3 := Aside0.mk (show w.heap.size ≠ w.heap.size + 1 + 1 by omega)
 have GE1 := Aside0.mk (show w.heap.size ≤ w.heap.size + 1 by omega)
 have GE2 := Aside0.mk (show w.heap.size ≤ w.heap.size + 1 + 1 by omega)
 generalize hbe : w.heap.size + 1 = be at *
 generalize hba : be + 1 = ba at *
 clear hbe hba
 have nba := NE1.out
 have nba' := NE1.out.symm
 go_upto_region 2 with (go_at_call 17; (with_reducible refine (xBi.calls k s T er at_ w1 HS.out).mono ?_); rintro e w2 ⟨v0, rfl, hR, hb⟩; have HR := Aside0.mk hR; have HB2 := Aside0.mk (xBv HB.out HB.out.size hb); have HN2 := Aside0.mk (xAx HN.out hb); have HE2 := Aside0.mk (xAx HE.out hb); have HA2 := Aside0.mk (xAx HA.out hb); have c0 := (xA4 HE2.out 0).trans rfl; have f0 := xA5 HE2.out 0; have c1 := (xA4 HA2.out 0).trans rfl; have f1 := xA5 HA2.out 0; clear hR hb)
 generalize hW : World.setCell (World.setCell w2 _ _) _ _ = W3
 have HN3 := Aside0.mk (show W3.heap[w.heap.size]? = some (.cells #[.string (⟨#[]⟩ : ByteArray), .string (⟨#[]⟩ : ByteArray), .int .i64 0, .int .i64 0, .slice none 0 0] 25 (0, 0)) from by rw [← hW]; exact xAh (p := ⟨ba, 0, none⟩) (xAh (p := ⟨be, 0, none⟩) HN2.out NE2.out _) NE3.out _)
 have HE3 := Aside0.mk (show W3.heap[be]? = some (.cells #[.int .i64 er] 26 (0, 0)) from by rw [← hW]; exact xAh (p := ⟨ba, 0, none⟩) (xA1 HE2.out 0 _ rfl) NE1.out _)
 have HA3 := Aside0.mk (show W3.heap[ba]? = some (.cells #[.int .i64 at_] 3 (0, 0)) from by rw [← hW]; exact xA1 (xAh (p := ⟨be, 0, none⟩) HA2.out NE1.out.symm _) 0 _ rfl)
 have HB3 := Aside0.mk (show Below w.heap.size w W3 from by rw [← hW]; exact (HB2.out.setCell (p := ⟨be, 0, none⟩) GE1.out _).setCell (p := ⟨ba, 0, none⟩) GE2.out _)
 clear hW HN HE HA HB HN2 HE2 HA2 HB2 c0 f0 c1 f1
 have c0 := (xA4 HE3.out 0).trans rfl
 go_upto_region 3 with (fail)
 clear c0
 have HN4 := Aside0.mk (xAc HN3.out)
 have HE4 := Aside0.mk (xAc HE3.out)
 have HA4 := Aside0.mk (xAc HA3.out)
 have HB4 := Aside0.mk (xCb HB3.out)
 have x0 := (xA4 HE4.out 0).trans rfl
 have x1 := (xA4 HA4.out 0).trans rfl
 refine wp_region_noPanic ?_
 refine xDt (n := 6) (S := fun w' => w'.cell? ⟨be, 0, none⟩ = some (.int .i64 er) ∧ w'.cell? ⟨ba, 0, none⟩ = some (.int .i64 at_)) (ds := [5]) #[false, false, false, false, false, false] (by kernel_rfl) rfl rfl ?hS (fun hHeld => ?_)
 case hS => exact ⟨x0, x1⟩
 generalize World.drew W3 = W4 at *
 refine xC1 (i := 0) (N := some 15) (v := ?_) (a' := ?_) #[true, false, false, false, false, false] rfl rfl (by kernel_rfl) (fun _ _ _ h => h) (Or.inl ⟨by rfl, ?_⟩) ?_ ?_
 rotate_left
 ·intro w'
  go_simp
  with_reducible rfl
 rotate_left
 ·simp only [Act.put, List.setIfInBounds_toArray, List.set_cons_zero, List.set_cons_succ, xB1, xB2]
  rfl
 refine xDu (i := 1) (N := some 16) (v := ?_) (a' := ?_) #[true, true, false, false, false, false] rfl rfl (by kernel_rfl) (fun _ _ _ h => h) (Or.inl ⟨by rfl, ?_⟩) hHeld ?_ ?_
 rotate_left
 ·rintro w' ⟨s0, s1⟩
  go_simp
  with_reducible rfl
 rotate_left
 ·simp only [Act.put, List.setIfInBounds_toArray, List.set_cons_zero, List.set_cons_succ, xB1, xB2]
  rfl
 refine xDu (i := 2) (N := some 17) (v := ?_) (a' := ?_) #[true, true, true, false, false, false] rfl rfl (by kernel_rfl) (fun _ _ _ h => h) (Or.inl ⟨by rfl, ?_⟩) hHeld ?_ ?_
 rotate_left
 ·rintro w' ⟨s0, s1⟩
  go_simp
  with_reducible rfl
 rotate_left
 ·simp only [Act.put, List.setIfInBounds_toArray, List.set_cons_zero, List.set_cons_succ, xB1, xB2]
  rfl
 obtain ⟨c0, c1, c2, c3, c4, f0, f1, f2, f3, f4⟩ := ex5 HN4.out
 refine one_ (i := 3) (N := none) #[true, true, true, true, false, false] rfl rfl (by kernel_rfl) (by decide) (fun K hK => ?_)
 refine xF3 (w1 := ?_) (by rfl) rfl ?_ ?_
 rotate_left
 ·go_simp
  rfl
 have HE5 := Aside0.mk (xAh (p := ⟨w.heap.size, 4, none⟩) (xAh (p := ⟨w.heap.size, 3, none⟩) (xAh (p := ⟨w.heap.size, 2, none⟩) (xAh (p := ⟨w.heap.size, 1, none⟩) (xAh (p := ⟨w.heap.size, 0, none⟩) HE4.out NE2.out.symm (.string (⟨#[]⟩ : ByteArray))) NE2.out.symm (.string (⟨#[]⟩ : ByteArray))) NE2.out.symm (.int .i64 0)) NE2.out.symm (.int .i64 0)) NE2.out.symm (.slice none 0 0))
 have HA5 := Aside0.mk (xAh (p := ⟨w.heap.size, 4, none⟩) (xAh (p := ⟨w.heap.size, 3, none⟩) (xAh (p := ⟨w.heap.size, 2, none⟩) (xAh (p := ⟨w.heap.size, 1, none⟩) (xAh (p := ⟨w.heap.size, 0, none⟩) HA4.out NE3.out.symm (.string (⟨#[]⟩ : ByteArray))) NE3.out.symm (.string (⟨#[]⟩ : ByteArray))) NE3.out.symm (.int .i64 0)) NE3.out.symm (.int .i64 0)) NE3.out.symm (.slice none 0 0))
 have HN5 := Aside0.mk (xA1 (xA1 (xA1 (xA1 (xA1 HN4.out 0 (.string (⟨#[]⟩ : ByteArray)) rfl) 1 (.string (⟨#[]⟩ : ByteArray)) rfl) 2 (.int .i64 0) rfl) 3 (.int .i64 0) rfl) 4 (.slice none 0 0) rfl)
 have HB5 := Aside0.mk (((((HB4.out.setCell (p := ⟨w.heap.size, 0, none⟩) (Nat.le_refl _) (.string (⟨#[]⟩ : ByteArray))).setCell (p := ⟨w.heap.size, 1, none⟩) (Nat.le_refl _) (.string (⟨#[]⟩ : ByteArray))).setCell (p := ⟨w.heap.size, 2, none⟩) (Nat.le_refl _) (.int .i64 0)).setCell (p := ⟨w.heap.size, 3, none⟩) (Nat.le_refl _) (.int .i64 0)).setCell (p := ⟨w.heap.size, 4, none⟩) (Nat.le_refl _) (.slice none 0 0))
 clear c0 f0 c1 f1 c2 f2 c3 f3 c4 f4
 have y0 := (xA4 HE5.out 0).trans rfl
 have f0 := xA5 HE5.out 0
 have y1 := (xA4 HA5.out 0).trans rfl
 have f1 := xA5 HA5.out 0
 try clear hHeld
 refine hK.out _ _ ⟨y0, y1⟩ (fun hHeld => ?_)
 clear hK K
 generalize World.setCell (World.setCell (World.setCell (World.setCell (World.setCell W4 _ _) _ _) _ _) _ _) _ _ = W5 at *
 refine one_ (i := 4) (N := none) #[true, true, true, true, true, false] rfl rfl (by kernel_rfl) (by decide) (fun K hK => ?_)
 refine xF3 (w1 := ?_) (by rfl) rfl ?_ ?_
 rotate_left
 ·go_simp
  rfl
 have HE6 := Aside0.mk (xA1 HE5.out 0 (.int .i64 er) rfl)
 have HA6 := Aside0.mk (xAh (p := ⟨be, 0, none⟩) HA5.out NE1.out.symm (.int .i64 er))
 have HN6 := Aside0.mk (xAh (p := ⟨be, 0, none⟩) HN5.out NE2.out (.int .i64 er))
 have HB6 := Aside0.mk (HB5.out.setCell (p := ⟨be, 0, none⟩) GE1.out (.int .i64 er))
 clear y0 y1 f0 f1
 have y0 := (xA4 HE6.out 0).trans rfl
 have y1 := (xA4 HA6.out 0).trans rfl
 have f1 := xA5 HA6.out 0
 try clear hHeld
 refine hK.out _ _ ⟨y0, y1⟩ (fun hHeld => ?_)
 clear hK K
 refine xG0 (i := 5) (N := none) #[true, true, true, true, true, true] rfl rfl (by kernel_rfl) (by decide) (fun K hK => ?_)
 refine xF3 (w1 := ?_) (by rfl) rfl ?_ ?_
 rotate_left
 ·go_simp
  rfl
 refine hK.out _ _ ?_
 clear hK K
 refine xFe (by kernel_rfl) ?_
 refine NoPanic.normal ?_
 go_wp2
 have g1 := xAh (p := ⟨ba, 0, none⟩) HN6.out NE3.out (.int .i64 at_)
 have g2 := xAh (p := ⟨ba, 0, none⟩) HE6.out NE1.out (.int .i64 at_)
 have g3 := xA1 HA6.out 0 (.int .i64 at_) rfl
 exact ⟨_, results9 _ _ w.heap.size be ba _ _ _ _ _ _ _ rfl rfl rfl g1 g2 g3, ⟨_, rfl, Kd.N_nil _ _ _ _ _, HB6.out.setCell (p := ⟨ba, 0, none⟩) GE2.out _⟩⟩

section
variable {P : Program} {ops : Array Oper} {Q : Exit → Act → World → Prop}
/-- A post with another word for the normal end. -/
def Qn (Kc : Act → World → Prop) (Q : Exit → Act → World → Prop) : Exit → Act → World → Prop
 | .normal, a, w => Kc a w
 | e, a, w => Q e a w
/-- An event's law in its list form serves as one step of a region that draws. -/
theorem xF2 {i : Nat} {o : Oper} {a : Act} {w : World} {Kc : Act → World → Prop} (ho : ops[i]? = some o) (h : wpList P ops (Qn Kc Q) [o] a w) : wpOp P ops Q i Kc a w := by
  unfold wpOp
  simp only [ho]
  unfold wpList at h
  split
  · rename_i hw
    rw [if_pos hw] at h
    rcases h with h | ⟨h1, h2⟩
    · left
      unfold Oper.wp at *
      generalize (execOp a.eval o).run P w = r at *
      cases r with
      | ok n w' =>
        cases n <;> first
          | exact h
          | (refine Calls.mono h fun e w'' he => ?_
             cases e <;> exact he)
          | exact Rows.mono h fun u w'' he => he
      | halt x w' => cases x <;> exact h
    · exact .inr ⟨h1, h2⟩
  · rename_i hw
    rw [if_neg hw] at h
    exact h
end
section
variable {P : Program} {ops : Array Oper} {Q : Exit → Act → World → Prop} {md : Region.Mode} {S : World → Prop} {ds : List Nat}
end
section
variable {P : Program} {ops : Array Oper} {Q : Exit → Act → World → Prop} {md : Region.Mode} {S : World → Prop} {ds : List Nat}
end

theorem xIn : (Tryd.prog.info? 25).map (·.size) = some 5 := by kernel_rfl
/-- What Parse makes of a file's statements. -/
def parseO (w : World) (r : Except PErr (List S25 × List S60)) : Ending → World → Prop := match r with | .ok (L, _) => xK9 w ⟨⟨#[102, 105, 108, 101]⟩, ⟨#[]⟩, 0, 0, L⟩ 0 (-1) | .error x => xK9 w z25 x.1 x.2
/-- A row of tokens is read by its block alone. -/
theorem xMz {w w1 : World} {A : Option Addr} {n : Nat} {T : List S60} (h : Kd.C k60 w A n T) (hb : ∀ a, A = some a → w1.heap[a.block]? = w.heap[a.block]?) : Kd.C k60 w1 A n T := by
 obtain ⟨h1, h2, h3⟩ := h
 refine ⟨h1, h2, fun hp => ?_⟩
 obtain ⟨ad, rfl, hc⟩ := h3 hp
 refine ⟨ad, rfl, fun j p hj => ?_⟩
 obtain ⟨c, hl, hK, hcc⟩ := hc j p hj
 refine ⟨c, hl, ?_, fun i u hu => ?_⟩
 ·rw [xKd hK]
  exact k60_mk w1 p
 ·rw [← hcc i u hu]
  simp [World.cell?, xG3, hb ad rfl]
theorem xLf {B : Nat} {w W : World} (h : Below B w W) (p : Addr) (v : Value) : Below B (w.setCell p v) (W.setCell p v) := by
 refine ⟨h.os, h.tape, h.output, by simpa [World.setCell] using h.size, fun k hk => ?_⟩
 simp only [World.setCell, Array.getElem?_modify]
 rw [h.block k hk]
theorem PsS.both {w0 w W : World} {g : Nat} {T : List S60} {en : Int} (h : PsS w0 w W g T en) {b j t : Nat} {cs : Array Value} (hb : w0.heap[b]? = some (.cells cs t (0, 0))) (ht : t ≠ 60) (hb0 : b ≠ 0) (v : Value) :
  PsS (w0.setCell ⟨b, j, none⟩ v) (W.setCell ⟨b, j, none⟩ v) (W.setCell ⟨b, j, none⟩ v) g T en := by
 obtain ⟨⟨A, c, hbk, hc, hC, hT⟩, hg, hB, hK, m, hm⟩ := h
 have hne : ∀ a, A = some a → a.block ≠ b := by
  rintro a ha e
  obtain ⟨cs', h2⟩ := hT a ha
  rw [e, hb] at h2
  injection h2 with h2
  injection h2 with _ h3 _
  exact ht h3
 have hsz : (w0.setCell ⟨b, j, none⟩ v).heap.size = w0.heap.size := by simp [World.setCell]
 have hgb : g ≠ b := by have := xBs hb; omega
 refine ⟨⟨A, c, xAh (p := ⟨b, j, none⟩) hbk hgb v, hc, xMz hC (fun a ha => Below.heap_setCell w0 ⟨b, j, none⟩ v _ (hne a ha)), fun a ha => ?_⟩, by rw [hsz]; exact hg, by rw [hsz]; exact xLf hB _ _, xAk.refl _ _ _, m, ?_⟩
 ·obtain ⟨cs', h2⟩ := hT a ha
  exact ⟨cs', (Below.heap_setCell w0 ⟨b, j, none⟩ v _ (hne a ha)).trans h2⟩
 ·have h4 : (w0.setCell ⟨b, j, none⟩ v).heap[0]? = w0.heap[0]? := Below.heap_setCell w0 ⟨b, j, none⟩ v 0 (fun e => hb0 e.symm)
  rw [← hm]
  simp [World.cell?, h4]
theorem PsS.grow {w0 w W W1 : World} {g : Nat} {T : List S60} {en : Int} {row : Option Nat} (h : PsS w0 w W g T en) (hg : W.grownBy W1 row) (hne : some g ≠ row) (hr : ∀ k, row = some k → w0.heap.size ≤ k) : PsS w0 W1 W1 g T en := by
 obtain ⟨⟨A, c, hbk, hc, hC⟩, hgg, hB, hK, hm⟩ := h
 exact ⟨⟨A, c, xBk hbk hg hne, hc, hC⟩, hgg, xDo hB row hB.size hg (fun k hk => hr k hk), xAk.refl _ _ _, hm⟩
/-- The result boxes of Parse. -/
structure LpB (w W : World) (S0 bn be ba : Nat) (n4 : Value) (a0 : Int) : Prop where
 nb : W.heap[bn]? = some (.cells #[.string (⟨#[102, 105, 108, 101]⟩ : ByteArray), .string (⟨#[]⟩ : ByteArray), .int .i64 0, .int .i64 0, n4] 25 (0, 0))
 eb : W.heap[be]? = some (.cells #[.int .i64 0] 26 (0, 0))
 ab : W.heap[ba]? = some (.cells #[.int .i64 a0] 3 (0, 0))
 bel : Below w.heap.size w W
 n1 : bn < S0
 n2 : be < S0
 n3 : ba < S0
 n4 : w.heap.size ≤ bn
 n5 : w.heap.size ≤ be
 n6 : w.heap.size ≤ ba
 n0 : 0 < w.heap.size
section
variable {w W W1 w0 : World} {S0 bn be ba g : Nat} {n4 : Value} {a0 : Int}
theorem LpB.below (h : LpB w W S0 bn be ba n4 a0) (hb : Below W.heap.size W W1) : LpB w W1 S0 bn be ba n4 a0 :=
 ⟨xAx h.nb hb, xAx h.eb hb, xAx h.ab hb, xBv h.bel h.bel.size hb, h.n1, h.n2, h.n3, h.n4, h.n5, h.n6, h.n0⟩
/-- Behind a call of the parser's. -/
theorem LpB.keep (h : LpB w W S0 bn be ba n4 a0) (h0 : Below S0 w0 W) (h1 : Below S0 w0 W1) (hk : xAk W W1 g none) (hg : S0 ≤ g) : LpB w W1 S0 bn be ba n4 a0 := by
 have := h.n1; have := h.n2; have := h.n3; have := h.n4
 refine ⟨hk.blk h.nb (by omega) (by simp), hk.blk h.eb (by omega) (by simp), hk.blk h.ab (by omega) (by simp), ?_, h.n1, h.n2, h.n3, h.n4, h.n5, h.n6, h.n0⟩
 refine ⟨(h1.os.trans h0.os.symm).trans h.bel.os, (h1.tape.trans h0.tape.symm).trans h.bel.tape, (h1.output.trans h0.output.symm).trans h.bel.output, Nat.le_trans h.bel.size hk.1, fun k hk2 => ?_⟩
 rw [h1.block k (by omega), ← h0.block k (by omega)]
 exact h.bel.block k hk2
theorem LpB.grown {row : Option Nat} (h : LpB w W S0 bn be ba n4 a0) (hg : W.grownBy W1 row) (hr : ∀ k, row = some k → S0 ≤ k) : LpB w W1 S0 bn be ba n4 a0 := by
 have := h.n1; have := h.n2; have := h.n3; have := h.n4
 refine ⟨xBk h.nb hg (fun e => by have := hr _ e.symm; omega), xBk h.eb hg (fun e => by have := hr _ e.symm; omega), xBk h.ab hg (fun e => by have := hr _ e.symm; omega), xDo h.bel row h.bel.size hg (fun k hk => by have := hr k hk; omega), h.n1, h.n2, h.n3, h.n4, h.n5, h.n6, h.n0⟩
theorem LpB.setL (h : LpB w W S0 bn be ba n4 a0) (v : Value) : LpB w (W.setCell ⟨bn, 4, none⟩ v) S0 bn be ba v a0 :=
 ⟨xA1 h.nb 4 v rfl, xAh (p := ⟨bn, 4, none⟩) h.eb (xF7 h.eb h.nb (by decide)) v, xAh (p := ⟨bn, 4, none⟩) h.ab (xF7 h.ab h.nb (by decide)) v, h.bel.setCell (p := ⟨bn, 4, none⟩) h.n4 v, h.n1, h.n2, h.n3, h.n4, h.n5, h.n6, h.n0⟩
end
/-- Where Parse's loop stands: g the parser's box; S0 the heap's size ahead of it. -/
structure LpS (w W : World) (S0 bn be ba g : Nat) (T : List S60) (en a0 : Int) (Lv : Value) (L : List S25) : Prop where
 b : LpB w W S0 bn be ba Lv a0
 ps : ∃ w0, w0.heap.size = S0 ∧ PsS w0 W W g T en
 row : Kd.N k25 25 W w.heap.size (fun k => S0 ≤ k ∧ k ≠ g) Lv L
section
variable {w W W1 w0 : World} {S0 bn be ba g : Nat} {T T' : List S60} {en a0 : Int} {Lv : Value} {L : List S25}
theorem LpS.ge (h : LpS w W S0 bn be ba g T en a0 Lv L) : S0 ≤ g := by
 obtain ⟨w0, hs, hp⟩ := h.ps
 exact hs ▸ hp.ge
theorem LpS.lt (h : LpS w W S0 bn be ba g T en a0 Lv L) : g < W.heap.size := by
 obtain ⟨w0, hs, hp⟩ := h.ps
 exact hp.lt
theorem LpS.below (h : LpS w W S0 bn be ba g T en a0 Lv L) (hb : Below W.heap.size W W1) : LpS w W1 S0 bn be ba g T en a0 Lv L := by
 obtain ⟨w0, hs, hp⟩ := h.ps
 exact ⟨h.b.below hb, ⟨w0, hs, (hp.below hb).start⟩, Kd.N_below h.row hb⟩
theorem LpS.drew (h : LpS w W S0 bn be ba g T en a0 Lv L) : LpS w W.drew S0 bn be ba g T en a0 Lv L := h.below (xCb (Below.refl _ _))
theorem LpS.call (h : LpS w W S0 bn be ba g T en a0 Lv L) (hs : w0.heap.size = S0) (h0 : PsS w0 W W g T en) (h1 : PsS w0 W W1 g T' en) : LpS w W1 S0 bn be ba g T' en a0 Lv L :=
 ⟨h.b.keep (hs ▸ h0.bel) (hs ▸ h1.bel) h1.kb h.ge, ⟨w0, hs, h1.start⟩, Kd.N_keep h.row h1.kb (fun k hk => hk.2)⟩
theorem LpS.fault (h : LpS w W S0 bn be ba g T en a0 Lv L) (hs : w0.heap.size = S0) (h0 : PsS w0 W W g T en) {x : PErr} {e : Ending} (h1 : PBad w0 W g x e W1) : LpB w W1 S0 bn be ba Lv a0 :=
 h.b.keep (hs ▸ h0.bel) (hs ▸ h1.2.1) h1.2.2 h.ge
/-- Between the row's growing and its store. -/
structure LpA (w W : World) (S0 bn be ba g : Nat) (T : List S60) (en a0 : Int) (Lv : Value) (v : Value) (L : List S25) : Prop where
 b : LpB w W S0 bn be ba Lv a0
 ps : ∃ w0, w0.heap.size = S0 ∧ PsS w0 W W g T en
 row : Kd.N k25 25 W w.heap.size (fun k => S0 ≤ k ∧ k ≠ g) v L
theorem LpA.mk' (h : LpS w W S0 bn be ba g T en a0 Lv L) {ys : List S25} {v : Value} (hg : W.grownBy W1 Lv.ownBlock) (hr : Kd.N k25 25 W1 w.heap.size (fun k => S0 ≤ k ∧ k ≠ g) v ys) : LpA w W1 S0 bn be ba g T en a0 Lv v ys := by
 obtain ⟨w0, hs, hp⟩ := h.ps
 exact ⟨h.b.grown hg (fun k hk => (h.row.1 k hk).1), ⟨w0, hs, hp.grow hg (fun e => (h.row.1 g e.symm).2 rfl) (fun k hk => hs ▸ (h.row.1 k hk).1)⟩, hr⟩
/-- The row's element was stored. -/
theorem LpA.grown {v : Value} (h : LpA w W S0 bn be ba g T en a0 Lv v L) {ys : List S25} {row : Option Nat} (hv : row = v.ownBlock) (hg : W.grownBy W1 row) (hr : Kd.N k25 25 W1 w.heap.size (fun k => S0 ≤ k ∧ k ≠ g) v ys) : LpA w W1 S0 bn be ba g T en a0 Lv v ys := by
 subst hv
 obtain ⟨w0, hs, hp⟩ := h.ps
 exact ⟨h.b.grown hg (fun k hk => (h.row.1 k hk).1), ⟨w0, hs, hp.grow hg (fun e => (h.row.1 g e.symm).2 rfl) (fun k hk => hs ▸ (h.row.1 k hk).1)⟩, hr⟩
/-- .. and the file's node has the row. -/
theorem LpA.setL {v : Value} (h : LpA w W S0 bn be ba g T en a0 Lv v L) : LpS w (W.setCell ⟨bn, 4, none⟩ v) S0 bn be ba g T en a0 v L := by
 obtain ⟨w0, hs, hp⟩ := h.ps
 have hn := h.b.n1
 have hb : w0.heap[bn]? = some (.cells #[.string (⟨#[102, 105, 108, 101]⟩ : ByteArray), .string (⟨#[]⟩ : ByteArray), .int .i64 0, .int .i64 0, Lv] 25 (0, 0)) := (hp.bel.block bn (by omega)).symm.trans h.b.nb
 refine ⟨h.b.setL v, ⟨w0.setCell ⟨bn, 4, none⟩ v, by simpa [World.setCell] using hs, hp.both hb (by decide) (by have := h.b.n4; have := h.b.n0; omega) v⟩, Kd.N_far (p := ⟨bn, 4, none⟩) h.row (fun k hk => by show k ≠ bn; omega) v⟩
end
/-- Behind the call, the literal and the append, in whatever order. -/
def LpJ (w W : World) (S0 bn be ba g : Nat) (T : List S60) (en a0 : Int) (Lv : Value) (L : List S25) (x : S25) (s : Value × Value × Value) : Prop :=
 ∃ (v : Value) (gR c8 base : Nat), s.1 = .agg #[.string x.f0, .string x.f1, .int .i64 x.f2, .int .i64 x.f3, v] ∧ s.2.2 = .slice (some ⟨gR, 0, none⟩) (L.length + 1) c8 ∧
  LpA w W S0 bn be ba g T en a0 Lv (.slice (some ⟨gR, 0, none⟩) (L.length + 1) c8) (L ++ [z25]) ∧ Kd.N k25 25 W base (fun k => (S0 ≤ k ∧ k ≠ g) ∧ k ≠ gR) v x.f4
section
variable {w W W1 W2 w0 : World} {S0 bn be ba g : Nat} {T T' : List S60} {en a0 : Int} {Lv : Value} {L : List S25}
theorem LpS.rowlt (h : LpS w W S0 bn be ba g T en a0 Lv L) : ∀ k, Lv.ownBlock = some k → k < W.heap.size := Kd.N_lt h.row
/-- The call came ahead of the append: b0 the heap's size ahead of the call. -/
theorem LpJ.first {x : S25} {v v37 v36 : Value} {b0 base : Nat} (h : LpS w W S0 bn be ba g T en a0 Lv L) (hN : Kd.N k25 25 W base (fun k => b0 ≤ k) v x.f4) (hb : ∀ k, Lv.ownBlock = some k → k < b0) (hg0 : g < b0)
  (hg : W.grownBy W1 Lv.ownBlock) (hr : Kd.N k25 25 W1 w.heap.size (fun k => S0 ≤ k ∧ k ≠ g) v37 (L ++ [z25])) (hat : v37.ownBlock = Lv.ownBlock ∨ ∃ b, v37.ownBlock = some b ∧ W.heap.size ≤ b) :
  LpJ w W1 S0 bn be ba g T en a0 Lv L x (.agg #[.string x.f0, .string x.f1, .int .i64 x.f2, .int .i64 x.f3, v], v36, v37) := by
 obtain ⟨gR, cap, hv, _⟩ := Kd.N_form hr (by simp)
 have hlen : (L ++ [z25]).length = L.length + 1 := by simp
 rw [hlen] at hv
 have h1 := Kd.N_after (u := Lv) (u1 := v37) (Kd.N_mono (ok' := fun k => (b0 ≤ k) ∧ some k ≠ Lv.ownBlock) hN (fun k hk => ⟨hk, fun e => by have := hb k e.symm; omega⟩)) hg hat
 subst hv
 refine ⟨v, gR, cap, base, rfl, rfl, LpA.mk' h hg hr, Kd.N_mono h1 (fun k hk => ⟨⟨by have := h.ge; omega, by have := hk.1; omega⟩, fun e => hk.2 (by rw [e]; simp [Value.ownBlock])⟩)⟩
/-- The row's last element was stored. -/
theorem LpS.stored {gR n c : Nat} {ys : List S25} (h : LpS w W S0 bn be ba g T en a0 (.slice (some ⟨gR, 0, none⟩) n c) L) (hg : W.grownBy W1 (some gR)) (hr : Kd.N k25 25 W1 w.heap.size (fun k => S0 ≤ k ∧ k ≠ g) (.slice (some ⟨gR, 0, none⟩) n c) ys) : LpS w W1 S0 bn be ba g T en a0 (.slice (some ⟨gR, 0, none⟩) n c) ys := by
 have h1 : LpA w W S0 bn be ba g T en a0 (.slice (some ⟨gR, 0, none⟩) n c) (.slice (some ⟨gR, 0, none⟩) n c) L := ⟨h.b, h.ps, h.row⟩
 have h2 := h1.grown (row := some gR) (by simp [Value.ownBlock]) hg hr
 exact ⟨h2.b, h2.ps, h2.row⟩
theorem xK1 {α : Type} (l : List α) (z x : α) : (l ++ [z]).set l.length x = l ++ [x] := by
 rw [List.set_append_right _ _ (Nat.le_refl _)]
 simp
end
/-- What stands behind Parse's last statement. -/
structure End9 (w : World) (ds : List Deferred) (bn be ba : Nat) (L : List S25) (e : Exit) (a : Act) (W : World) : Prop where
 e : e = .normal
 d : a.defers = ds
 t2 : (a.tmps[2]?).getD undef = .pointer (some ⟨bn, 0, none⟩)
 t3 : (a.tmps[3]?).getD undef = .pointer (some ⟨be, 0, none⟩)
 t4 : (a.tmps[4]?).getD undef = .pointer (some ⟨ba, 0, none⟩)
 row : ∃ Lv, W.heap[bn]? = some (.cells #[.string (⟨#[102, 105, 108, 101]⟩ : ByteArray), .string (⟨#[]⟩ : ByteArray), .int .i64 0, .int .i64 0, Lv] 25 (0, 0)) ∧ Kd.N k25 25 W w.heap.size (fun k => w.heap.size ≤ k) Lv L
 eb : W.heap[be]? = some (.cells #[.int .i64 0] 26 (0, 0))
 ab : W.heap[ba]? = some (.cells #[.int .i64 (-1)] 3 (0, 0))
 bel : Below w.heap.size w W
section
variable {P : Program} {Q : Exit → Act → World → Prop}
/-- A region's post where it may panic in a function that defers: the frame's parts that the deferred calls use. -/
def QP (Q : Exit → Act → World → Prop) (ds : List Deferred) (b2 b3 b4 : Value) (Pc : List PanicEntry → World → Prop) : Exit → Act → World → Prop
 | .panic c, a, w => a.defers = ds ∧ (a.tmps[2]?).getD undef = b2 ∧ (a.tmps[3]?).getD undef = b3 ∧ (a.tmps[4]?).getD undef = b4 ∧ Pc c w
 | e, a, w => Q e a w
theorem xIh {id : Nat} {ops : Array Oper} {b : Bool} {a : Act} {w : World} (ds : List Deferred) (b2 b3 b4 : Value) (Pc : List PanicEntry → World → Prop)
  (hp : ∀ c (a : Act) w, a.defers = ds → (a.tmps[2]?).getD undef = b2 → (a.tmps[3]?).getD undef = b3 → (a.tmps[4]?).getD undef = b4 → Pc c w → Q (.panic c) a w)
  (h : (Code.region id ops b).wp P (QP Q ds b2 b3 b4 Pc) a w) : (Code.region id ops b).wp P Q a w :=
 Code.wp_mono (fun e a w h => by
  cases e with
  | panic c => exact hp c a w h.1 h.2.1 h.2.2.1 h.2.2.2.1 h.2.2.2.2
  | _ => exact h) h
theorem QP.hq {ds : List Deferred} {b2 b3 b4 : Value} {Pc : List PanicEntry → World → Prop} {N : Option Tmp} {n : Tmp} {v : Value} (hN : N = some n) (h2 : n ≠ 2) (h3 : n ≠ 3) (h4 : n ≠ 4) : ∀ c (a : Act) w, QP Q ds b2 b3 b4 Pc (.panic c) (a.put N v) w → QP Q ds b2 b3 b4 Pc (.panic c) a w := by
 subst hN
 rintro c ⟨t, d⟩ w ⟨h0, ha, hb, hc, hd⟩
 simp only [Act.put, Array.getElem?_setIfInBounds] at *
 rw [if_neg h2] at ha
 rw [if_neg h3] at hb
 rw [if_neg h4] at hc
 exact ⟨h0, ha, hb, hc, hd⟩
variable {ops : Array Oper} {md : Region.Mode} {S : World → Prop} {ds : List Nat}
/-- One of ds may come up: by an event's law in its list form. -/
theorem lastW_ {i : Nat} {oi : Oper} {fuel : Nat} {l : Array Bool} {a : Act} {w : World} (l' : Array Bool) (hi : ops[i]? = some oi) (hc : xHo md ops l l' i = true) (hd : i ∈ ds)
  (h : wpList P ops (Qn (fun a' w' => xB8 P md ops Q S ds fuel l' a' w') Q) [oi] a w) : xB8 P md ops Q S ds (fuel + 1) l a w := by
 simp only [xHo, Bool.and_eq_true, beq_iff_eq] at hc
 obtain ⟨h1, h2⟩ := hc
 subst h2
 refine xEs h1 (by simp) (fun j hj => ?_)
 obtain rfl : j = i := by simpa using hj
 exact wpOp_mono (fun a' w' h' => ⟨fun hn => absurd hd hn, h'⟩) (xF2 hi h)
/-- Two may come up, both of ds: list forms. -/
theorem twoE_ {i j : Nat} {oi oj : Oper} {fuel : Nat} {l : Array Bool} {a : Act} {w : World} (li lj : Array Bool) (hi : ops[i]? = some oi) (hj : ops[j]? = some oj)
  (hc : (Region.ready md ops l == [i, j] && l.setIfInBounds i true == li && l.setIfInBounds j true == lj) = true) (hdi : i ∈ ds) (hdj : j ∈ ds) (hij : i ≠ j)
  (h1 : wpList P ops (Qn (fun a' w' => xB8 P md ops Q S ds fuel li a' w') Q) [oi] a w)
  (h2 : wpList P ops (Qn (fun a' w' => xB8 P md ops Q S ds fuel lj a' w') Q) [oj] a w) : xB8 P md ops Q S ds (fuel + 1) l a w := by
 simp only [Bool.and_eq_true, beq_iff_eq] at hc
 obtain ⟨⟨h3, h4⟩, h5⟩ := hc
 subst h4
 subst h5
 refine xEs h3 (by simp) (fun m hm => ?_)
 by_cases hmi : m = i
 ·subst hmi
  exact wpOp_mono (fun a' w' h' => ⟨fun hn => absurd hdi hn, h'⟩) (xF2 hi h1)
 ·obtain rfl : m = j := by simpa [hmi] using hm
  exact wpOp_mono (fun a' w' h' => ⟨fun hn => absurd hdj hn, h'⟩) (xF2 hj h2)
end
end Go.Proofs.YtknbfhhmjbnemaaDoor.P
end
