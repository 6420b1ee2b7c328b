/- Proved here, for this seat's claims: what the functions that the laws reach compute: the texts of this work, one behind the other, laid by a program of this session. Conditions: none beside the statement's own. -/
import Derived.Test.YtknbfhhmjbnemaaDoorMP1
import Derived.Recover
import Derived.Defers
import Derived.Shelf.Abstract
import Derived.Lib.OthersKept
import Derived.Laws.Externs
import Derived.Lib.UnsafeStr
import Derived.Lib.AppendIntMem
set_option linter.unusedVariables false
set_option linter.unusedSimpArgs false
section
namespace Go.Proofs.YtknbfhhmjbnemaaDoor.P
open Go.RowKit Go.Proofs.YtknbfhhmjbnemaaDoorW.PrintWords Go.Proofs.YtknbfhhmjbnemaaDoorW.PrintLast Go.Proofs.YtknbfhhmjbnemaaDoorW.PrintMore

theorem xHn {α β γ : Type} (x : PR α) (f : α → List S60 → PR β) (g : β → List S60 → PR γ) : pbd (pbd x f) g = pbd x (fun a T => pbd (f a T) g) := by
 unfold pbd
 rcases x with _ | x | ⟨a, T⟩ <;> rfl
theorem pbd_ok {α β : Type} (a : α) (T : List S60) (f : α → List S60 → PR β) : pbd (some (.ok (a, T))) f = f a T := rfl
set_option maxHeartbeats 16000000 in
set_option maxRecDepth 100000 in
theorem xKl (k : Nat) (ih : xDx k) (ihs : ∀ k', k' ≤ k → xDx k') (g : Nat) (t : S60) (T : List S60) (en nest : Int) (r : Except PErr (S25 × List S60)) (w0 w : World) (hS : PsS w0 w w g (t :: T) en) (hn0 : ¬ (nest < 0 ∨ nest > 100)) (hn : ¬ nest > 12) (h0 : t.f0 = 0) (h1 : xE6 t.f1 = true) (h : pexprT k t T en nest = some r) :
  Calls Tryd.prog 37 #[.pointer (some ⟨g, 0, none⟩), .int .i64 nest] w (PRes w0 w g en (xDz w) r) := by
 have hu25 := Tryd.underlying25
 have hu60 := Tryd.underlying60
 have GW := Aside0.mk hS.lt
 have WW := Aside0.mk hS.bel.size
 have IH := Aside0.mk ih
 have IHS := Aside0.mk ihs
 unfold pexprT at h
 have HH := Aside0.mk h
 have RS0 := Aside0.mk (hS.alloc (.cells #[.string (⟨#[]⟩ : ByteArray), .string (⟨#[]⟩ : ByteArray), .int .i64 0, .int .i64 0, .slice none 0 0] 25 (0, 0)))
 have HR4 := Aside0.mk (xBn w (.cells #[.string (⟨#[]⟩ : ByteArray), .string (⟨#[]⟩ : ByteArray), .int .i64 0, .int .i64 0, .slice none 0 0] 25 (0, 0)))
 clear hS ih ihs h
 have dn : decide (nest > 12) = false := decide_eq_false hn
 have dn' : decide (12 < nest) = false := decide_eq_false hn
 obtain ⟨ad, c, hbk, hc, hC, y0, y1, y2, y3⟩ := RS0.out.head
 have x0 := (xAb hbk 0).trans rfl
 have hl : 0 < (t :: T).length := by simp
 clear hbk hC
 generalize (t :: T).length = n at *
 have d1 : (0 : Int) < (n : Int) := by omega
 have d2 : ((n : Int) == 0) = false := by simp; omega
 have e0 : (t.f0 == 0) = true := by simpa using h0
 have e0' : (t.f0 != 0) = false := by simpa using h0
 clear h0
 have HT := Aside0.mk ((xGa t.f1).trans (by rw [h1]))
 clear h1
 go_enter Tryd.func37, Tryd.ntmps37
 go_upto_region 7 with (go_at_call 69; (with_reducible refine (xCd.calls _ true _ HT.out).mono ?_); rintro e w1 ⟨rfl, ⟨nd, rfl⟩⟩; have RS1 := Aside0.mk (RS0.out.drewN nd); have HR1 := Aside0.mk (xA5 HR4.out nd))
 clear x0 y0 y1 y2 y3 RS0 HR4 hc hl d1 d2
 generalize World.drewN (World.alloc w _) nd = w1 at *
 have RS2 := Aside0.mk RS1.out.drew
 have HR2 := Aside0.mk (xA8 HR1.out)
 clear RS1 HR1
 obtain ⟨ad1, c1, hbk, hc1, hC, y0, y1, y2, y3⟩ := RS2.out.head
 have x0 := (xAb hbk 0).trans rfl
 have hl : 0 < (t :: T).length := by simp
 clear hbk hC y0 y2 y3
 generalize hn1 : (t :: T).length = n1 at *
 have d1 : (0 : Int) < (n1 : Int) := by omega
 refine xDa (n := 12) (S := fun w' => w'.cell? ⟨g, 0, none⟩ = some (.slice (some ad1) n1 c1) ∧ w'.cell? ⟨ad1.block, ad1.off + 1, none⟩ = some (.string t.f1)) (ds := [11]) #[false, false, false, false, false, false, false, false, false, false, false, false] (by kernel_rfl) rfl rfl ?hS (fun hHeld => ?_)
 case hS => exact ⟨x0, y1⟩
 generalize World.drew w1 = w2 at *
 refine xBy (i := 0) (N := some 42) (v := ?_) (a' := ?_) #[true, false, false, false, false, false, false, false, false, false, false, false] rfl rfl (by kernel_rfl) (fun _ _ _ h => h) (Or.inl ⟨by rfl, ?_⟩) ?_ ?_
 rotate_left
 ·intro w'
  go_simp
  with_reducible rfl
 rotate_left
 ·simp only [Act.put, List.setIfInBounds_toArray, List.set_cons_zero, List.set_cons_succ, xB0, xB1]
  rfl
 refine xBy (i := 1) (N := some 43) (v := ?_) (a' := ?_) #[true, true, false, false, false, false, false, false, false, false, false, false] rfl rfl (by kernel_rfl) (fun _ _ _ h => h) (Or.inl ⟨by rfl, ?_⟩) ?_ ?_
 rotate_left
 ·intro w'
  go_simp
  with_reducible rfl
 rotate_left
 ·simp only [Act.put, List.setIfInBounds_toArray, List.set_cons_zero, List.set_cons_succ, xB0, xB1]
  rfl
 refine xBy (i := 2) (N := some 44) (v := ?_) (a' := ?_) #[true, true, true, false, false, false, false, false, false, false, false, false] rfl rfl (by kernel_rfl) (fun _ _ _ h => h) (Or.inl ⟨by rfl, ?_⟩) ?_ ?_
 rotate_left
 ·intro w'
  go_simp
  with_reducible rfl
 rotate_left
 ·simp only [Act.put, List.setIfInBounds_toArray, List.set_cons_zero, List.set_cons_succ, xB0, xB1]
  rfl
 refine xCr (i := 3) (N := some 45) (v := ?_) (a' := ?_) #[true, true, true, true, false, false, false, false, false, false, false, false] rfl rfl (by kernel_rfl) (fun _ _ _ h => h) (Or.inl ⟨by rfl, ?_⟩) hHeld ?_ ?_
 rotate_left
 ·rintro w' ⟨s0, s1⟩
  go_simp
  with_reducible rfl
 rotate_left
 ·simp only [Act.put, List.setIfInBounds_toArray, List.set_cons_zero, List.set_cons_succ, xB0, xB1]
  rfl
 refine xBy (i := 4) (N := some 46) (v := ?_) (a' := ?_) #[true, true, true, true, true, false, false, false, false, false, false, false] rfl rfl (by kernel_rfl) (fun _ _ _ h => h) (Or.inl ⟨by rfl, ?_⟩) ?_ ?_
 rotate_left
 ·intro w'
  go_simp
  with_reducible rfl
 rotate_left
 ·simp only [Act.put, List.setIfInBounds_toArray, List.set_cons_zero, List.set_cons_succ, xB0, xB1]
  rfl
 refine xBy (i := 5) (N := some 47) (v := ?_) (a' := ?_) #[true, true, true, true, true, true, false, false, false, false, false, false] rfl rfl (by kernel_rfl) (fun _ _ _ h => h) (Or.inl ⟨by rfl, ?_⟩) ?_ ?_
 rotate_left
 ·intro w'
  go_simp
  with_reducible rfl
 rotate_left
 ·simp only [Act.put, List.setIfInBounds_toArray, List.set_cons_zero, List.set_cons_succ, xB0, xB1]
  rfl
 refine xCr (i := 6) (N := some 48) (v := ?_) (a' := ?_) #[true, true, true, true, true, true, true, false, false, false, false, false] rfl rfl (by kernel_rfl) (fun _ _ _ h => h) (Or.inl ⟨by rfl, ?_⟩) hHeld ?_ ?_
 rotate_left
 ·rintro w' ⟨s0, s1⟩
  go_simp
  with_reducible rfl
 rotate_left
 ·simp only [Act.put, List.setIfInBounds_toArray, List.set_cons_zero, List.set_cons_succ, xB0, xB1]
  rfl
 refine xBy (i := 7) (N := some 49) (v := ?_) (a' := ?_) #[true, true, true, true, true, true, true, true, false, false, false, false] rfl rfl (by kernel_rfl) (fun _ _ _ h => h) (Or.inl ⟨by rfl, ?_⟩) ?_ ?_
 rotate_left
 ·intro w'
  go_simp
  with_reducible rfl
 rotate_left
 ·simp only [Act.put, List.setIfInBounds_toArray, List.set_cons_zero, List.set_cons_succ, xB0, xB1]
  rfl
 refine join_ (σ := Nat) 1 #[true, true, true, true, true, true, true, true, true, true, true, false] (fun bn => [(50, .int .i64 (xCa (t :: T) en)), (51, .agg #[.string t.f1, .string ⟨#[]⟩, .int .i64 0, .int .i64 (xCa (t :: T) en), .slice none 0 0]), (6, .pointer (some ⟨bn, 0, none⟩))]) (fun bn w' => bn = w2.heap.size ∧ w'.heap[bn]? = some (.cells #[.string (⟨#[]⟩ : ByteArray), .string (⟨#[]⟩ : ByteArray), .int .i64 0, .int .i64 0, .slice none 0 0] 25 (0, 0)) ∧ Below w2.heap.size w2 w') ?cont ?go
 case go =>
  intro hcont
  have HC := Aside0.mk hcont
  clear hcont
  refine two_ (i := 8) (j := 10) (Ni := some 50) (Nj := some 6) #[true, true, true, true, true, true, true, true, true, false, false, false] #[true, true, true, true, true, true, true, true, false, false, true, false] rfl rfl rfl rfl (by kernel_rfl) (by decide) (by decide) ?_ ?_
  ·intro K hK
   refine xF6 Tryd.func30 (by kernel_rfl) rfl #[.pointer (some ⟨g, 0, none⟩)] (by rfl) rfl rfl (by first | rfl | (simp [Act.eval]; done) | (go_simp; done)) ?_
   refine (xDb g (t :: T) en w0 w2 RS2.out.start).mono ?_
   rintro e w' ⟨rfl, rfl⟩
   refine ⟨_, rfl, ?_⟩
   try clear hHeld
   refine hK.out _ _ ⟨x0, y1⟩ (fun hHeld => ?_)
   clear hK K
   refine xCm (a' := ?_) ?_ ?_
   rotate_left
   ·simp only [Act.put, List.setIfInBounds_toArray, List.set_cons_zero, List.set_cons_succ, xB0, xB1]
    rfl
   refine xBy (i := 9) (N := some 51) (v := ?_) (a' := ?_) #[true, true, true, true, true, true, true, true, true, true, false, false] rfl rfl (by kernel_rfl) (fun _ _ _ h => h) (Or.inl ⟨by rfl, ?_⟩) ?_ ?_
   rotate_left
   ·intro w'
    go_simp
    with_reducible rfl
   rotate_left
   ·simp only [Act.put, List.setIfInBounds_toArray, List.set_cons_zero, List.set_cons_succ, xB0, xB1]
    rfl
   refine one_ (i := 10) (N := some 6) #[true, true, true, true, true, true, true, true, true, true, true, false] rfl rfl (by kernel_rfl) (by decide) (fun K hK => ?_)
   refine xJ5 (by rfl) (N := 6) rfl (cs := #[.string (⟨#[]⟩ : ByteArray), .string (⟨#[]⟩ : ByteArray), .int .i64 0, .int .i64 0, .slice none 0 0]) (t := 25) ?hr ?_
   case hr => first | (go_simp; done) | (go_simp; rfl)
   intro bn hbn w3 hbox hb
   have HB3 := Aside0.mk hb
   have NB := Aside0.mk hbox
   have HG := Aside0.mk hbn
   have x0' := xAq hb x0
   have y1' := xAq hb y1
   clear hb hbox hbn
   try clear hHeld
   refine hK.out _ _ ⟨x0', y1'⟩ (fun hHeld => ?_)
   clear hK K
   refine xCm (a' := ?_) ?_ ?_
   rotate_left
   ·simp only [Act.put, List.setIfInBounds_toArray, List.set_cons_zero, List.set_cons_succ, xB0, xB1]
    rfl
   exact HC.out bn w3 ⟨HG.out, NB.out, HB3.out⟩
  ·intro K hK
   refine xJ5 (by rfl) (N := 6) rfl (cs := #[.string (⟨#[]⟩ : ByteArray), .string (⟨#[]⟩ : ByteArray), .int .i64 0, .int .i64 0, .slice none 0 0]) (t := 25) ?hr ?_
   case hr => first | (go_simp; done) | (go_simp; rfl)
   intro bn hbn w3 hbox hb
   have HB3 := Aside0.mk hb
   have NB := Aside0.mk hbox
   have HG := Aside0.mk hbn
   have x0' := xAq hb x0
   have y1' := xAq hb y1
   clear hb hbox hbn
   try clear hHeld
   refine hK.out _ _ ⟨x0', y1'⟩ (fun hHeld => ?_)
   clear hK K
   refine xCm (a' := ?_) ?_ ?_
   rotate_left
   ·simp only [Act.put, List.setIfInBounds_toArray, List.set_cons_zero, List.set_cons_succ, xB0, xB1]
    rfl
   refine one_ (i := 8) (N := some 50) #[true, true, true, true, true, true, true, true, true, false, true, false] rfl rfl (by kernel_rfl) (by decide) (fun K hK => ?_)
   refine xF6 Tryd.func30 (by kernel_rfl) rfl #[.pointer (some ⟨g, 0, none⟩)] (by rfl) rfl rfl (by first | rfl | (simp [Act.eval]; done) | (go_simp; done)) ?_
   refine (xDb g (t :: T) en w0 w3 (RS2.out.below HB3.out).start).mono ?_
   rintro e w' ⟨rfl, rfl⟩
   refine ⟨_, rfl, ?_⟩
   try clear hHeld
   refine hK.out _ _ ⟨x0', y1'⟩ (fun hHeld => ?_)
   clear hK K
   refine xCm (a' := ?_) ?_ ?_
   rotate_left
   ·simp only [Act.put, List.setIfInBounds_toArray, List.set_cons_zero, List.set_cons_succ, xB0, xB1]
    rfl
   refine xBy (i := 9) (N := some 51) (v := ?_) (a' := ?_) #[true, true, true, true, true, true, true, true, true, true, true, false] rfl rfl (by kernel_rfl) (fun _ _ _ h => h) (Or.inl ⟨by rfl, ?_⟩) ?_ ?_
   rotate_left
   ·intro w'
    go_simp
    with_reducible rfl
   rotate_left
   ·simp only [Act.put, List.setIfInBounds_toArray, List.set_cons_zero, List.set_cons_succ, xB0, xB1]
    rfl
   exact HC.out bn w' ⟨HG.out, NB.out, HB3.out⟩
 case cont =>
  rintro bn w3 ⟨hbn, hbox, hb⟩
  have HB3 := Aside0.mk hb
  have NB := Aside0.mk hbox
  have HG := Aside0.mk hbn
  clear hb hbox hbn x0 y1 hHeld
  refine xCm (a' := ?_) ?_ ?_
  rotate_left
  ·simp only [xHm, Act.put, List.setIfInBounds_toArray, List.set_cons_zero, List.set_cons_succ]
   rfl
  obtain ⟨c_0, c_1, c_2, c_3, c_4, f_0, f_1, f_2, f_3, f_4⟩ := ex5 NB.out
  refine xGv (i := 11) (N := none) #[true, true, true, true, true, true, true, true, true, true, true, true] rfl rfl (by kernel_rfl) (by decide) (fun K hK => ?_)
  refine xFz (w1 := ?_) (by rfl) rfl ?_ ?_
  rotate_left
  ·go_simp
   rfl
  refine hK.out _ _ ?_
  clear hK K
  refine xEf (by kernel_rfl) ?_
  go_upto_region 8 with (fail)
  generalize hW : World.setCell (World.setCell (World.setCell (World.setCell (World.setCell w3 _ _) _ _) _ _) _ _) _ _ = W3
  have ES0 := Aside0.mk (show ExP w0 w W3 g (t :: T) en w.heap.size bn t.f1 ⟨#[]⟩ 0 (xCa (t :: T) en) (.slice none 0 0) [] from by
   have hlt := xBx HR2.out
   have hge : w2.heap.size ≤ bn := Nat.le_of_eq HG.out.symm
   have hb := ((((HB3.out.setCell (p := ⟨bn, 0, none⟩) hge (.string t.f1)).setCell (p := ⟨bn, 1, none⟩) hge (.string ⟨#[]⟩)).setCell (p := ⟨bn, 2, none⟩) hge (.int .i64 0)).setCell (p := ⟨bn, 3, none⟩) hge (.int .i64 (xCa (t :: T) en))).setCell (p := ⟨bn, 4, none⟩) hge (.slice none 0 0)
   rw [hW] at hb
   refine ⟨RS2.out.below hb, xAt HR2.out hb, ?_, Kd.N_nil _ _ _ _ _, Nat.le_refl _, by omega, by omega, GW.out, WW.out⟩
   rw [← hW]
   exact xAh (xAh (xAh (xAh (xAh NB.out 0 _ rfl) 1 _ rfl) 2 _ rfl) 3 _ rfl) 4 _ rfl)
  clear hW HB3 NB HG RS2 HR2 c_0 c_1 c_2 c_3 c_4 f_0 f_1 f_2 f_3 f_4 hc1 hl d1 hn1
  obtain ⟨ad2, c2, hbk, hc2, hC, y0, y1, y2, y3⟩ := ES0.out.rs.head
  have x0 := (xAb hbk 0).trans rfl
  have z0 := xAr hbk 0
  have HX := Aside0.mk (ES0.out.rs.start.cut hbk hc2 hC)
  clear hbk hC y0 y1 y2 y3
  have hl1 : 1 ≤ (t :: T).length := by simp
  have HLT := Aside0.mk (show (t :: T).length - 1 = T.length by simp)
  generalize hn2 : (t :: T).length = n2 at hc2 x0 hl1 HLT
  have d1 : (1 : Int) ≤ (n2 : Int) := by omega
  go_upto_region 9 with (fail)
  generalize hW : World.setCell W3 _ _ = W4
  have ESi := Aside0.mk (ES0.out.call (show PsS w0 W3 W4 g T en from by rw [← hW]; have := HX.out; rw [← HLT.out] at this; exact this))
  clear hW HX x0 z0 hc2 hl1 d1 hn2 ES0
  generalize (if c2 = 1 then some ad2 else some (⟨ad2.block, ad2.off + 4, none⟩ : Addr)) = AA
  have hn1 : 0 ≤ nest := by omega
  have hn2 : nest ≤ 12 := by omega
  have HWR := Aside0.mk (show wrap64 (nest + 1) = nest + 1 from (by unfold wrap64; omega))
  have hh := HH.out
  clear HH
  rcases xCw hh with ⟨x, hx, rfl⟩ | ⟨u, T1, hx, h1⟩
  ·have HX := Aside0.mk hx
   clear hx hh
   go_wp2_with (go_at_call 36; (with_reducible refine (xEb HX.out g w0 _ ESi.out.rs.start).mono ?_); rintro e w2 ⟨rfl, h2⟩; exact ⟨rfl, ESi.out.rs.bad ⟨rfl, h2⟩⟩)
  have HX := Aside0.mk hx
  have HH := Aside0.mk h1
  clear hx h1 hh
  go_upto_region 10 with (go_at_call 36; (with_reducible refine (xFa HX.out g w0 _ ESi.out.rs.start).mono ?_); rintro e w_1 ⟨rfl, h2⟩; have ES1 := Aside0.mk (ESi.out.call h2); clear h2)
  clear HX ESi
  refine xDa (n := 10) (S := fun w' => w'.cell? ⟨bn, 4, none⟩ = some (.slice none 0 0)) (ds := [9]) #[false, false, false, false, false, false, false, false, false, false] (by kernel_rfl) rfl rfl ?hS (fun hHeld => ?_)
  case hS => exact (xAb (xA8 ES1.out.nb) 4).trans rfl
  have ESd_2 := Aside0.mk ES1.out.drew
  clear ES1
  generalize World.drew w_1 = wd_2 at *
  have x4 := (xAb ESd_2.out.nb 4).trans rfl
  refine xBy (i := 0) (N := some 62) (v := ?_) (a' := ?_) #[true, false, false, false, false, false, false, false, false, false] rfl rfl (by kernel_rfl) (fun _ _ _ h => h) (Or.inl ⟨by rfl, ?_⟩) ?_ ?_
  rotate_left
  ·intro w'
   go_simp
   with_reducible rfl
  rotate_left
  ·simp only [Act.put, List.setIfInBounds_toArray, List.set_cons_zero, List.set_cons_succ, xB0, xB1]
   rfl
  refine xBy (i := 2) (N := some 64) (v := ?_) (a' := ?_) #[true, false, true, false, false, false, false, false, false, false] rfl rfl (by kernel_rfl) (fun _ _ _ h => h) (Or.inl ⟨by rfl, ?_⟩) ?_ ?_
  rotate_left
  ·intro w'
   go_simp
   with_reducible rfl
  rotate_left
  ·simp only [Act.put, List.setIfInBounds_toArray, List.set_cons_zero, List.set_cons_succ, xB0, xB1]
   rfl
  refine xBy (i := 3) (N := some 65) (v := ?_) (a' := ?_) #[true, false, true, true, false, false, false, false, false, false] rfl rfl (by kernel_rfl) (fun _ _ _ h => h) (Or.inl ⟨by rfl, ?_⟩) ?_ ?_
  rotate_left
  ·intro w'
   go_simp
   with_reducible rfl
  rotate_left
  ·simp only [Act.put, List.setIfInBounds_toArray, List.set_cons_zero, List.set_cons_succ, xB0, xB1]
   rfl
  refine xBy (i := 4) (N := some 66) (v := ?_) (a' := ?_) #[true, false, true, true, true, false, false, false, false, false] rfl rfl (by kernel_rfl) (fun _ _ _ h => h) (Or.inl ⟨by rfl, ?_⟩) ?_ ?_
  rotate_left
  ·intro w'
   go_simp
   with_reducible rfl
  rotate_left
  ·simp only [Act.put, List.setIfInBounds_toArray, List.set_cons_zero, List.set_cons_succ, xB0, xB1]
   rfl
  refine xCr (i := 1) (N := some 63) (v := ?_) (a' := ?_) #[true, true, true, true, true, false, false, false, false, false] rfl rfl (by kernel_rfl) (fun _ _ _ h => h) (Or.inl ⟨by rfl, ?_⟩) hHeld ?_ ?_
  rotate_left
  ·rintro w' s0
   go_simp
   with_reducible rfl
  rotate_left
  ·simp only [Act.put, List.setIfInBounds_toArray, List.set_cons_zero, List.set_cons_succ, xB0, xB1]
   rfl
  have hh := HH.out
  clear HH
  rcases xCw hh with ⟨x, hx, rfl⟩ | ⟨a2, T2, hx, h1⟩
  ·have HX := Aside0.mk hx
   clear hx hh
   refine one_ (i := 5) (N := some 67) #[true, true, true, true, true, true, false, false, false, false] rfl rfl (by kernel_rfl) (by decide) (fun K hK => ?_)
   refine xF1 Tryd.func37 (by kernel_rfl) rfl #[.pointer (some ⟨g, 0, none⟩), .int .i64 (wrap64 (nest + 1))] (by rfl) rfl rfl (by first | rfl | (simp [Act.eval]; done) | (go_simp; done)) (R := PRes (α := S25) w0 wd_2 g en (xDz wd_2) (.error x)) (by rw [HWR.out]; exact (IH.out).use g _ en _ _ w0 wd_2 ESd_2.out.rs.start HX.out) ?_
   rintro e w2 ⟨rfl, h2⟩
   exact .inl ⟨_, rfl, ⟨rfl, ESd_2.out.rs.bad ⟨rfl, h2⟩⟩⟩
  have HX := Aside0.mk hx
  have HH := Aside0.mk h1
  clear hx h1 hh
  refine one_ (i := 5) (N := some 67) #[true, true, true, true, true, true, false, false, false, false] rfl rfl (by kernel_rfl) (by decide) (fun K hK => ?_)
  refine xF1 Tryd.func37 (by kernel_rfl) rfl #[.pointer (some ⟨g, 0, none⟩), .int .i64 (wrap64 (nest + 1))] (by rfl) rfl rfl (by first | rfl | (simp [Act.eval]; done) | (go_simp; done)) (R := PRes (α := S25) w0 wd_2 g en (xDz wd_2) (.ok (a2, T2))) (by rw [HWR.out]; exact (IH.out).use g _ en _ _ w0 wd_2 ESd_2.out.rs.start HX.out) ?_
  rintro e w2_2 ⟨⟨v, rfl, hN⟩, h2⟩
  obtain ⟨A_2, c_2, rfl⟩ := Kd.N_slice hN
  have ESc_2 := Aside0.mk (ESd_2.out.call h2)
  have SZ := Aside0.mk h2.kb.1
  have HV := Aside0.mk hN
  clear hN h2
  refine .inr ⟨_, rfl, ?_⟩
  try clear hHeld
  refine hK.out _ _ ((xAb ESc_2.out.nb 4).trans rfl) (fun hHeld => ?_)
  clear hK K
  refine xCm (a' := ?_) ?_ ?_
  rotate_left
  ·show Act.put _ (some 67) _ = _
   simp only [Act.put, List.setIfInBounds_toArray, List.set_cons_zero, List.set_cons_succ, xB0, xB1]
   rfl
  refine one_ (i := 6) (N := some 68) #[true, true, true, true, true, true, true, false, false, false] rfl rfl (by kernel_rfl) (by decide) (fun K hK => ?_)
  refine Kd.N_lit_step k25 (w0 := w2_2) w2_2.heap.size 25 (by rfl) (N' := 68) rfl (xs := [a2]) (inner := [.string a2.f0, .string a2.f1, .int .i64 a2.f2, .int .i64 a2.f3, .slice A_2 a2.f4.length c_2]) (ok := (fun k => wd_2.heap.size ≤ k)) (okp := (fun k => wd_2.heap.size ≤ k)) ?hr ((Reps.none _ _).snoc (xDe HV.out) rfl) (fun _ hk => hk) ?hf (Below.refl _ _) (Nat.le_refl _) (by show 1 ≤ 9223372036854775807; decide) ?_
  case hr => first | (go_simp; done) | (go_simp; rfl)
  case hf => exact SZ.out
  intro v7 w7_2 hN7 hb7 hg7 hat7
  obtain ⟨A7, c7, rfl⟩ := Kd.N_slice hN7
  have ESp_2 := Aside0.mk (ESc_2.out.below hb7)
  have HN7 := Aside0.mk hN7
  clear hN7 hb7 hg7 hat7
  try clear hHeld
  refine hK.out _ _ ((xAb ESp_2.out.nb 4).trans rfl) (fun hHeld => ?_)
  clear hK K
  refine xCm (a' := ?_) ?_ ?_
  rotate_left
  ·show Act.put _ (some 68) _ = _
   simp only [Act.put, List.setIfInBounds_toArray, List.set_cons_zero, List.set_cons_succ, xB0, xB1]
   rfl
  refine one_ (i := 7) (N := some 69) #[true, true, true, true, true, true, true, true, false, false] rfl rfl (by kernel_rfl) (by decide) (fun K hK => ?_)
  refine Kd.N_append_rows_step k25 (w0 := w7_2) w.heap.size (by rfl) (.tmp 63) (.tmp 68) 23 25 (.agg #[.string (⟨#[]⟩ : ByteArray), .string (⟨#[]⟩ : ByteArray), .int .i64 0, .int .i64 0, .slice none 0 0]) 72 rfl Tryd.underlying23 xIz rfl (by decide) (by decide) (.slice none 0 0) ([] : List S25) [a2] A7 1 c7 (fun k => w.heap.size ≤ k ∧ k ≠ w.heap.size ∧ k ≠ bn) (fun k => wd_2.heap.size ≤ k) rfl rfl ESp_2.out.row (Kd.N_F HN7.out) ?hokp ?hfresh (Below.refl _ _) ?hbase (by first | omega | (simp; done) | (simp; omega)) ?_
  case hokp => intro k hk; have h1 := ESd_2.out.lt.1; have h2 := ESd_2.out.lt.2.1; have h3 := ESd_2.out.rs.kb.1; exact ⟨⟨by omega, by omega, by omega⟩, fun e => by have := (ESd_2.out.lt.2.2 k e.symm).1; omega⟩
  case hfresh => intro k hk; have h1 := ESp_2.out.lt.1; have h2 := ESp_2.out.lt.2.1; have h3 := ESp_2.out.rs.kb.1; exact ⟨by omega, by omega, by omega⟩
  case hbase => exact ESp_2.out.rs.kb.1
  intro v8 w8_2 hN8 hb8 hg8 hat8
  obtain ⟨A8_2, c8_2, hv8⟩ := Kd.N_slice hN8
  rw [show (([] : List S25) ++ [a2]).length = 1 by simp] at hv8
  subst hv8
  have ESa := Aside0.mk (ESp_2.out.append hN8 hg8)
  obtain ⟨_, _, hnb8⟩ := ESp_2.out.grown hN8 hg8
  have hn4b := (xAb hnb8 4).trans rfl
  have hf4b := xAr hnb8 4
  clear hN8 hb8 hg8 hat8 hnb8
  try clear hHeld
  refine hK.out _ _ hn4b (fun hHeld => ?_)
  clear hK K
  refine xCm (a' := ?_) ?_ ?_
  rotate_left
  ·show Act.put _ (some 69) _ = _
   simp only [Act.put, List.setIfInBounds_toArray, List.set_cons_zero, List.set_cons_succ, xB0, xB1]
   rfl
  refine xBy (i := 8) (N := some 70) (v := ?_) (a' := ?_) #[true, true, true, true, true, true, true, true, true, false] rfl rfl (by kernel_rfl) (fun _ _ _ h => h) (Or.inl ⟨by rfl, ?_⟩) ?_ ?_
  rotate_left
  ·intro w'
   go_simp
   with_reducible rfl
  rotate_left
  ·simp only [Act.put, List.setIfInBounds_toArray, List.set_cons_zero, List.set_cons_succ, xB0, xB1]
   rfl
  refine xGv (i := 9) (N := none) #[true, true, true, true, true, true, true, true, true, true] rfl rfl (by kernel_rfl) (by decide) (fun K hK => ?_)
  refine xFz (w1 := ?_) (by rfl) rfl ?_ ?_
  rotate_left
  ·go_simp
   rfl
  refine hK.out _ _ ?_
  clear hK K
  refine xEf (by kernel_rfl) ?_
  clear hHeld x4 hn4b hf4b ESd_2 ESc_2 ESp_2 HN7 HV SZ HX
  go_upto_region 11 with (fail)
  generalize hW9 : World.setCell w8_2 _ _ = W9_2
  have ESb2 := Aside0.mk (show ExP w0 w W9_2 g _ en w.heap.size bn t.f1 ⟨#[]⟩ 0 (xCa (t :: T) en) (.slice A8_2 1 c8_2) (([] : List S25) ++ [a2]) from by rw [← hW9]; exact ESa.out)
  clear hW9 ESa
  have x0_ := (xAb ESb2.out.nb 0).trans rfl
  go_upto_block 0 with (fail)
  clear x0_
  by_cases hq0 : t.f1.toList = ([108, 105, 110, 101, 97, 114] : List UInt8)
  ·skip
   have hq := HH.out
   clear HH
   rw [if_pos hq0] at hq
   have HH := Aside0.mk hq
   clear hq
   exact absurd HH.out (by simp [pbd])
  have e0 : (t.f1.toList == ([108, 105, 110, 101, 97, 114] : List UInt8)) = false := beq_eq_false_iff_ne.2 hq0
  have hq := HH.out
  clear HH
  rw [if_neg hq0] at hq
  have HH := Aside0.mk hq
  clear hq
  clear hq0
  by_cases hq1 : t.f1.toList = ([115, 110, 97, 112, 115, 104, 111, 116] : List UInt8)
  ·skip
   have hq := HH.out
   clear HH
   rw [if_pos hq1] at hq
   have HH := Aside0.mk hq
   clear hq
   exact absurd HH.out (by simp [pbd])
  have e1 : (t.f1.toList == ([115, 110, 97, 112, 115, 104, 111, 116] : List UInt8)) = false := beq_eq_false_iff_ne.2 hq1
  have hq := HH.out
  clear HH
  rw [if_neg hq1] at hq
  have HH := Aside0.mk hq
  clear hq
  clear hq1
  by_cases hq2 : t.f1.toList = ([99, 114, 121, 112, 116] : List UInt8) ∨ t.f1.toList = ([105, 110, 116, 101, 103, 114, 105, 116, 121] : List UInt8) ∨ t.f1.toList = ([118, 101, 114, 105, 116, 121] : List UInt8)
  ·skip
   have hq := HH.out
   clear HH
   rw [if_pos hq2] at hq
   have HH := Aside0.mk hq
   clear hq
   exact absurd HH.out (by simp [pbd])
  obtain ⟨hq3, hq4, hq5⟩ : ¬ t.f1.toList = ([99, 114, 121, 112, 116] : List UInt8) ∧ ¬ t.f1.toList = ([105, 110, 116, 101, 103, 114, 105, 116, 121] : List UInt8) ∧ ¬ t.f1.toList = ([118, 101, 114, 105, 116, 121] : List UInt8) := ⟨fun h => hq2 (.inl h), fun h => hq2 (.inr (.inl h)), fun h => hq2 (.inr (.inr h))⟩
  have hq := HH.out
  clear HH
  rw [if_neg hq2] at hq
  have HH := Aside0.mk hq
  clear hq
  have e2 : (t.f1.toList == ([99, 114, 121, 112, 116] : List UInt8)) = false := beq_eq_false_iff_ne.2 hq3
  have e3 : (t.f1.toList == ([105, 110, 116, 101, 103, 114, 105, 116, 121] : List UInt8)) = false := beq_eq_false_iff_ne.2 hq4
  have e4 : (t.f1.toList == ([118, 101, 114, 105, 116, 121] : List UInt8)) = false := beq_eq_false_iff_ne.2 hq5
  clear hq2 hq3 hq4 hq5
  go_upto_block 1 with (fail)
  go_wp2_with (fail)
  go_loopg [] k (fun kx wr => ∃ (kk : Nat) (TT : List S60) (acc : List S25) (Lv : Value), kk ≤ kx ∧ kk ≤ k ∧ Aside0 (ExP w0 w wr g TT en w.heap.size bn t.f1 ⟨#[]⟩ 0 (xCa (t :: T) en) Lv acc) ∧ Aside0 (pbd (pexprs kk TT en nest acc) (fun L T3 => pbd (some (xF4 T3 en RP)) fun _ T4 => some (.ok ((⟨t.f1, ⟨#[]⟩, 0, t.f3, L⟩ : S25), T4))) = some r))
  case atStart => exact ⟨k, _, _, _, Nat.le_refl _, Nat.le_refl _, ESb2, HH⟩
  case round =>
   clear HH ESb2
   obtain ⟨kk, TT, acc, Lv, hk1, hk2, EL, HH⟩ := hrel
   cases kk with
   | zero => exact absurd HH.out (by rw [pexprs]; simp [pbd])
   | succ kk =>
    have hl := HH.out
    clear HH
    rw [pexprs] at hl
    obtain ⟨AL, cL, rfl⟩ := Kd.N_slice EL.out.row
    by_cases hb : acc.length ≤ 1000000
    case neg => rw [if_neg hb] at hl; cases hl
    rw [if_pos hb] at hl
    cases hp : pis TT CM with
    | false =>
     rw [hp, if_neg (by decide)] at hl
     have HH := Aside0.mk hl
     have HP := Aside0.mk hp
     clear hl hp
     go_upto_region 29 with (go_at_call 38; (with_reducible refine (xEn g _ en _ w0 _ EL.out.rs.start).mono ?_); rintro e w_l ⟨rfl, h2⟩; rw [HP.out] at h2 ⊢; have ESl := Aside0.mk (EL.out.call h2); clear h2)
     have hq := HH.out
     clear HH
     rw [pbd_ok] at hq
     have HH := Aside0.mk hq
     clear hq
     have hh := HH.out
     clear HH
     rcases xCw hh with ⟨x, hx, rfl⟩ | ⟨u, T12, hx, h1⟩
     ·have HX := Aside0.mk hx
      clear hx hh
      go_wp2_with (go_at_call 36; (with_reducible refine (xEb HX.out g w0 _ ESl.out.rs.start).mono ?_); rintro e w2 ⟨rfl, h2⟩; exact ⟨rfl, ESl.out.rs.bad ⟨rfl, h2⟩⟩)
     have HX := Aside0.mk hx
     have HH := Aside0.mk h1
     clear hx h1 hh
     go_upto_region 30 with (go_at_call 36; (with_reducible refine (xFa HX.out g w0 _ ESl.out.rs.start).mono ?_); rintro e w_12 ⟨rfl, h2⟩; have ES12 := Aside0.mk (ESl.out.call h2); clear h2)
     clear HX ESl
     have hh := HH.out
     clear HH
     simp only [Option.some.injEq] at hh
     subst hh
     obtain ⟨hn0, hn1, hn2, hn3, hn4⟩ := ey5 ES12.out.nb
     obtain ⟨hr0, hr1, hr2, hr3, hr4, hf0, hf1, hf2, hf3, hf4⟩ := ex5 ES12.out.r4
     go_wp2
     have RSz := ((((((((((ES12.out.rs).far (b := w.heap.size) (j := 0) (Nat.ne_of_lt GW.out) (Nat.le_refl _) WW.out (.string t.f1))).far (b := w.heap.size) (j := 1) (Nat.ne_of_lt GW.out) (Nat.le_refl _) WW.out (.string ⟨#[]⟩))).far (b := w.heap.size) (j := 2) (Nat.ne_of_lt GW.out) (Nat.le_refl _) WW.out (.int .i64 0))).far (b := w.heap.size) (j := 3) (Nat.ne_of_lt GW.out) (Nat.le_refl _) WW.out (.int .i64 (xCa (t :: T) en)))).far (b := w.heap.size) (j := 4) (Nat.ne_of_lt GW.out) (Nat.le_refl _) WW.out (.slice AL acc.length cL))
     have hNz := Kd.N_far (p := ⟨w.heap.size, 4, none⟩) (Kd.N_far (p := ⟨w.heap.size, 3, none⟩) (Kd.N_far (p := ⟨w.heap.size, 2, none⟩) (Kd.N_far (p := ⟨w.heap.size, 1, none⟩) (Kd.N_far (p := ⟨w.heap.size, 0, none⟩) ES12.out.row (fun k hk => hk.2.1) (.string t.f1)) (fun k hk => hk.2.1) (.string ⟨#[]⟩)) (fun k hk => hk.2.1) (.int .i64 0)) (fun k hk => hk.2.1) (.int .i64 (xCa (t :: T) en))) (fun k hk => hk.2.1) (.slice AL acc.length cL)
     refine bodyPost_ret (results_cell_row rfl _ _ w.heap.size 25 #[.string t.f1, .string ⟨#[]⟩, .int .i64 0, .int .i64 (xCa (t :: T) en), .slice AL acc.length cL] (0, 0) _ rfl (xAh (xAh (xAh (xAh (xAh ES12.out.r4 0 (.string t.f1) rfl) 1 (.string ⟨#[]⟩) rfl) 2 (.int .i64 0) rfl) 3 (.int .i64 (xCa (t :: T) en)) rfl) 4 (.slice AL acc.length cL) rfl) Tryd.underlying25 rfl (by kernel_rfl)) rfl ?_
     exact ⟨⟨_, rfl, Kd.N_mono hNz (fun k hk => hk.1)⟩, RSz⟩
    | true =>
     rw [hp, if_pos rfl] at hl
     have HH := Aside0.mk hl
     have HP := Aside0.mk hp
     clear hl hp
     have hq := HH.out
     clear HH
     simp only [xHn] at hq
     have HH := Aside0.mk hq
     clear hq
     go_upto_region 13 with (go_at_call 38; (with_reducible refine (xEn g _ en _ w0 _ EL.out.rs.start).mono ?_); rintro e w_l ⟨rfl, h2⟩; rw [HP.out] at h2 ⊢; have ESl := Aside0.mk (EL.out.call h2); clear h2)
     refine xDa (n := 10) (S := fun w' => w'.cell? ⟨bn, 4, none⟩ = some (.slice AL acc.length cL)) (ds := [9]) #[false, false, false, false, false, false, false, false, false, false] (by kernel_rfl) rfl rfl ?hS (fun hHeld => ?_)
     case hS => exact (xAb (xA8 ESl.out.nb) 4).trans rfl
     have ESd_13 := Aside0.mk ESl.out.drew
     clear ESl
     generalize World.drew w_l = wd_13 at *
     have x4 := (xAb ESd_13.out.nb 4).trans rfl
     refine xBy (i := 0) (N := some 75) (v := ?_) (a' := ?_) #[true, false, false, false, false, false, false, false, false, false] rfl rfl (by kernel_rfl) (fun _ _ _ h => h) (Or.inl ⟨by rfl, ?_⟩) ?_ ?_
     rotate_left
     ·intro w'
      go_simp
      with_reducible rfl
     rotate_left
     ·simp only [Act.put, List.setIfInBounds_toArray, List.set_cons_zero, List.set_cons_succ, xB0, xB1]
      rfl
     refine xBy (i := 2) (N := some 77) (v := ?_) (a' := ?_) #[true, false, true, false, false, false, false, false, false, false] rfl rfl (by kernel_rfl) (fun _ _ _ h => h) (Or.inl ⟨by rfl, ?_⟩) ?_ ?_
     rotate_left
     ·intro w'
      go_simp
      with_reducible rfl
     rotate_left
     ·simp only [Act.put, List.setIfInBounds_toArray, List.set_cons_zero, List.set_cons_succ, xB0, xB1]
      rfl
     refine xBy (i := 3) (N := some 78) (v := ?_) (a' := ?_) #[true, false, true, true, false, false, false, false, false, false] rfl rfl (by kernel_rfl) (fun _ _ _ h => h) (Or.inl ⟨by rfl, ?_⟩) ?_ ?_
     rotate_left
     ·intro w'
      go_simp
      with_reducible rfl
     rotate_left
     ·simp only [Act.put, List.setIfInBounds_toArray, List.set_cons_zero, List.set_cons_succ, xB0, xB1]
      rfl
     refine xBy (i := 4) (N := some 79) (v := ?_) (a' := ?_) #[true, false, true, true, true, false, false, false, false, false] rfl rfl (by kernel_rfl) (fun _ _ _ h => h) (Or.inl ⟨by rfl, ?_⟩) ?_ ?_
     rotate_left
     ·intro w'
      go_simp
      with_reducible rfl
     rotate_left
     ·simp only [Act.put, List.setIfInBounds_toArray, List.set_cons_zero, List.set_cons_succ, xB0, xB1]
      rfl
     refine xCr (i := 1) (N := some 76) (v := ?_) (a' := ?_) #[true, true, true, true, true, false, false, false, false, false] rfl rfl (by kernel_rfl) (fun _ _ _ h => h) (Or.inl ⟨by rfl, ?_⟩) hHeld ?_ ?_
     rotate_left
     ·rintro w' s0
      go_simp
      with_reducible rfl
     rotate_left
     ·simp only [Act.put, List.setIfInBounds_toArray, List.set_cons_zero, List.set_cons_succ, xB0, xB1]
      rfl
     have hh := HH.out
     clear HH
     rcases xCw hh with ⟨x, hx, rfl⟩ | ⟨a13, T13, hx, h1⟩
     ·have HX := Aside0.mk hx
      clear hx hh
      refine one_ (i := 5) (N := some 80) #[true, true, true, true, true, true, false, false, false, false] rfl rfl (by kernel_rfl) (by decide) (fun K hK => ?_)
      refine xF1 Tryd.func37 (by kernel_rfl) rfl #[.pointer (some ⟨g, 0, none⟩), .int .i64 (wrap64 (nest + 1))] (by rfl) rfl rfl (by first | rfl | (simp [Act.eval]; done) | (go_simp; done)) (R := PRes (α := S25) w0 wd_13 g en (xDz wd_13) (.error x)) (by rw [HWR.out]; exact (IHS.out kk (Nat.le_of_succ_le hk2)).use g _ en _ _ w0 wd_13 ESd_13.out.rs.start HX.out) ?_
      rintro e w2 ⟨rfl, h2⟩
      exact .inl ⟨_, rfl, ⟨rfl, ESd_13.out.rs.bad ⟨rfl, h2⟩⟩⟩
     have HX := Aside0.mk hx
     have HH := Aside0.mk h1
     clear hx h1 hh
     refine one_ (i := 5) (N := some 80) #[true, true, true, true, true, true, false, false, false, false] rfl rfl (by kernel_rfl) (by decide) (fun K hK => ?_)
     refine xF1 Tryd.func37 (by kernel_rfl) rfl #[.pointer (some ⟨g, 0, none⟩), .int .i64 (wrap64 (nest + 1))] (by rfl) rfl rfl (by first | rfl | (simp [Act.eval]; done) | (go_simp; done)) (R := PRes (α := S25) w0 wd_13 g en (xDz wd_13) (.ok (a13, T13))) (by rw [HWR.out]; exact (IHS.out kk (Nat.le_of_succ_le hk2)).use g _ en _ _ w0 wd_13 ESd_13.out.rs.start HX.out) ?_
     rintro e w2_13 ⟨⟨v, rfl, hN⟩, h2⟩
     obtain ⟨A_13, c_13, rfl⟩ := Kd.N_slice hN
     have ESc_13 := Aside0.mk (ESd_13.out.call h2)
     have SZ := Aside0.mk h2.kb.1
     have HV := Aside0.mk hN
     clear hN h2
     refine .inr ⟨_, rfl, ?_⟩
     try clear hHeld
     refine hK.out _ _ ((xAb ESc_13.out.nb 4).trans rfl) (fun hHeld => ?_)
     clear hK K
     refine xCm (a' := ?_) ?_ ?_
     rotate_left
     ·show Act.put _ (some 80) _ = _
      simp only [Act.put, List.setIfInBounds_toArray, List.set_cons_zero, List.set_cons_succ, xB0, xB1]
      rfl
     refine one_ (i := 6) (N := some 81) #[true, true, true, true, true, true, true, false, false, false] rfl rfl (by kernel_rfl) (by decide) (fun K hK => ?_)
     refine Kd.N_lit_step k25 (w0 := w2_13) w2_13.heap.size 25 (by rfl) (N' := 81) rfl (xs := [a13]) (inner := [.string a13.f0, .string a13.f1, .int .i64 a13.f2, .int .i64 a13.f3, .slice A_13 a13.f4.length c_13]) (ok := (fun k => wd_13.heap.size ≤ k)) (okp := (fun k => wd_13.heap.size ≤ k)) ?hr ((Reps.none _ _).snoc (xDe HV.out) rfl) (fun _ hk => hk) ?hf (Below.refl _ _) (Nat.le_refl _) (by show 1 ≤ 9223372036854775807; decide) ?_
     case hr => first | (go_simp; done) | (go_simp; rfl)
     case hf => exact SZ.out
     intro v7 w7_13 hN7 hb7 hg7 hat7
     obtain ⟨A7, c7, rfl⟩ := Kd.N_slice hN7
     have ESp_13 := Aside0.mk (ESc_13.out.below hb7)
     have HN7 := Aside0.mk hN7
     clear hN7 hb7 hg7 hat7
     try clear hHeld
     refine hK.out _ _ ((xAb ESp_13.out.nb 4).trans rfl) (fun hHeld => ?_)
     clear hK K
     refine xCm (a' := ?_) ?_ ?_
     rotate_left
     ·show Act.put _ (some 81) _ = _
      simp only [Act.put, List.setIfInBounds_toArray, List.set_cons_zero, List.set_cons_succ, xB0, xB1]
      rfl
     refine one_ (i := 7) (N := some 82) #[true, true, true, true, true, true, true, true, false, false] rfl rfl (by kernel_rfl) (by decide) (fun K hK => ?_)
     refine Kd.N_append_rows_step k25 (w0 := w7_13) w.heap.size (by rfl) (.tmp 76) (.tmp 81) 23 25 (.agg #[.string (⟨#[]⟩ : ByteArray), .string (⟨#[]⟩ : ByteArray), .int .i64 0, .int .i64 0, .slice none 0 0]) 72 rfl Tryd.underlying23 xIz rfl (by decide) (by decide) (.slice AL acc.length cL) acc [a13] A7 1 c7 (fun k => w.heap.size ≤ k ∧ k ≠ w.heap.size ∧ k ≠ bn) (fun k => wd_13.heap.size ≤ k) rfl rfl ESp_13.out.row (Kd.N_F HN7.out) ?hokp ?hfresh (Below.refl _ _) ?hbase (by first | omega | (simp; done) | (simp; omega)) ?_
     case hokp => intro k hk; have h1 := ESd_13.out.lt.1; have h2 := ESd_13.out.lt.2.1; have h3 := ESd_13.out.rs.kb.1; exact ⟨⟨by omega, by omega, by omega⟩, fun e => by have := (ESd_13.out.lt.2.2 k e.symm).1; omega⟩
     case hfresh => intro k hk; have h1 := ESp_13.out.lt.1; have h2 := ESp_13.out.lt.2.1; have h3 := ESp_13.out.rs.kb.1; exact ⟨by omega, by omega, by omega⟩
     case hbase => exact ESp_13.out.rs.kb.1
     intro v8 w8_13 hN8 hb8 hg8 hat8
     obtain ⟨A8_13, c8_13, hv8⟩ := Kd.N_slice hN8
     rw [show (acc ++ [a13]).length = (acc.length + 1) by simp] at hv8
     subst hv8
     have ESa := Aside0.mk (ESp_13.out.append hN8 hg8)
     obtain ⟨_, _, hnb8⟩ := ESp_13.out.grown hN8 hg8
     have hn4b := (xAb hnb8 4).trans rfl
     have hf4b := xAr hnb8 4
     clear hN8 hb8 hg8 hat8 hnb8
     try clear hHeld
     refine hK.out _ _ hn4b (fun hHeld => ?_)
     clear hK K
     refine xCm (a' := ?_) ?_ ?_
     rotate_left
     ·show Act.put _ (some 82) _ = _
      simp only [Act.put, List.setIfInBounds_toArray, List.set_cons_zero, List.set_cons_succ, xB0, xB1]
      rfl
     refine xBy (i := 8) (N := some 83) (v := ?_) (a' := ?_) #[true, true, true, true, true, true, true, true, true, false] rfl rfl (by kernel_rfl) (fun _ _ _ h => h) (Or.inl ⟨by rfl, ?_⟩) ?_ ?_
     rotate_left
     ·intro w'
      go_simp
      with_reducible rfl
     rotate_left
     ·simp only [Act.put, List.setIfInBounds_toArray, List.set_cons_zero, List.set_cons_succ, xB0, xB1]
      rfl
     refine xGv (i := 9) (N := none) #[true, true, true, true, true, true, true, true, true, true] rfl rfl (by kernel_rfl) (by decide) (fun K hK => ?_)
     refine xFz (w1 := ?_) (by rfl) rfl ?_ ?_
     rotate_left
     ·go_simp
      rfl
     refine hK.out _ _ ?_
     clear hK K
     refine xEf (by kernel_rfl) ?_
     clear hHeld x4 hn4b hf4b ESd_13 ESc_13 ESp_13 HN7 HV SZ HX
     generalize hW9 : World.setCell w8_13 _ _ = W9_13
     have ESb13 := Aside0.mk (show ExP w0 w W9_13 g _ en w.heap.size bn t.f1 ⟨#[]⟩ 0 (xCa (t :: T) en) (.slice A8_13 (acc.length + 1) c8_13) (acc ++ [a13]) from by rw [← hW9]; exact ESa.out)
     clear hW9 ESa
     go_wp2
     go_roundg kk
     case rel => exact ⟨kk, _, _, _, Nat.le_refl _, Nat.le_of_succ_le hk2, ESb13, HH⟩
     case measure => omega

theorem xJo (k : Nat) (ih : ∀ k', k' ≤ k → xDx k') : xDx (k + 1) := by
 intro g T en nest r w0 w hS h
 rw [pexpr] at h
 by_cases hn0 : nest < 0 ∨ nest > 100
 ·rw [if_pos hn0] at h
  cases h
 rw [if_neg hn0] at h
 by_cases hn : nest > 12
 ·rw [if_pos hn] at h
  exact xJp g T en nest r w0 w hS hn0 hn (Option.some.inj h).symm
 rw [if_neg hn] at h
 by_cases ht : ptgt T = true
 ·rw [if_pos ht] at h
  obtain ⟨t, T, rfl, h0, h1⟩ := xKi ht
  exact xKl k (ih k (Nat.le_refl k)) ih g t T en nest r w0 w hS hn0 hn h0 h1 h
 ·rw [if_neg ht] at h
  rcases xJh ht with rfl | ⟨t, T, rfl, h0 | ⟨h0, h1⟩⟩
  ·exact xJn g en nest r w0 w hS hn0 hn h
  ·exact xJm g t T en nest r w0 w hS hn0 hn h0 h
  ·exact xJl g t T en nest r w0 w hS hn0 hn h0 h1 h
theorem xEo : ∀ k k', k' ≤ k → xDx k'
 | 0, k', hk => by
  obtain rfl : k' = 0 := by omega
  intro g T en nest r w0 w hS h
  simp [pexpr] at h
 | k + 1, k', hk => by
  rcases Nat.lt_or_ge k' (k + 1) with h | h
  ·exact xEo k k' (by omega)
  ·obtain rfl : k' = k + 1 := by omega
   exact xJo k (xEo k)
theorem xKm (k : Nat) : xDx k := xEo k k (Nat.le_refl k)

/-- A statement's word. -/
def pstw (t : S60) : Bool := ((t.f1.toList == ([100, 101, 118, 105, 99, 101] : List UInt8)) || (t.f1.toList == ([106, 111, 117, 114, 110, 97, 108] : List UInt8)) || (t.f1.toList == ([107, 101, 121] : List UInt8)) || (t.f1.toList == ([114, 111, 111, 116] : List UInt8)) || (t.f1.toList == ([118, 111, 108, 117, 109, 101] : List UInt8)) || (t.f1.toList == ([101, 120, 112, 111, 114, 116] : List UInt8))) && (t.f0 == 0)
set_option maxHeartbeats 4000000 in
set_option maxRecDepth 100000 in
theorem xHc (t : S60) (w : World) : Calls Tryd.prog 32 #[tokV t] w fun e w' => e = .returned (.bool (pstw t)) ∧ Below w.heap.size w w' := by
 unfold tokV pstw
 have hu60 := Tryd.underlying60
 cases h1 : (t.f1.toList == ([100, 101, 118, 105, 99, 101] : List UInt8)) with
 | true =>
  go_enter Tryd.func32, Tryd.ntmps32
  go_wp2
  go_ret
  exact ⟨by simp, xA1 (Below.refl _ _) _⟩
 | false =>
  cases h2 : (t.f1.toList == ([106, 111, 117, 114, 110, 97, 108] : List UInt8)) with
  | true =>
   go_enter Tryd.func32, Tryd.ntmps32
   go_wp2
   go_ret
   exact ⟨by simp, xA1 (Below.refl _ _) _⟩
  | false =>
   cases h3 : (t.f1.toList == ([107, 101, 121] : List UInt8)) with
   | true =>
    go_enter Tryd.func32, Tryd.ntmps32
    go_wp2
    go_ret
    exact ⟨by simp, xA1 (Below.refl _ _) _⟩
   | false =>
    cases h4 : (t.f1.toList == ([114, 111, 111, 116] : List UInt8)) with
    | true =>
     go_enter Tryd.func32, Tryd.ntmps32
     go_wp2
     go_ret
     exact ⟨by simp, xA1 (Below.refl _ _) _⟩
    | false =>
     cases h5 : (t.f1.toList == ([118, 111, 108, 117, 109, 101] : List UInt8)) with
     | true =>
      go_enter Tryd.func32, Tryd.ntmps32
      go_wp2
      go_ret
      exact ⟨by simp, xA1 (Below.refl _ _) _⟩
     | false =>
      cases h6 : (t.f1.toList == ([101, 120, 112, 111, 114, 116] : List UInt8)) with
      | true =>
       go_enter Tryd.func32, Tryd.ntmps32
       go_wp2
       go_ret
       exact ⟨by simp, xA1 (Below.refl _ _) _⟩
      | false =>
       go_enter Tryd.func32, Tryd.ntmps32
       go_wp2
       go_ret
       exact ⟨by simp, xA1 (Below.refl _ _) _⟩
abbrev EQ : ByteArray := ⟨#[61]⟩
abbrev SC : ByteArray := ⟨#[59]⟩
abbrev RO : ByteArray := ⟨#[114, 101, 97, 100, 111, 110, 108, 121]⟩
def phexN (t : S60) : S25 := ⟨⟨#[104, 101, 120]⟩, t.f1, 0, t.f3, []⟩
/-- A statement, behind its word and its name. -/
def pstail (k : Nat) (t nm : S60) (pl : Int) (T2 : List S60) (en : Int) : PR S25 :=
 pbd (if t.f1.toList = ([100, 101, 118, 105, 99, 101] : List UInt8) ∨ t.f1.toList = ([106, 111, 117, 114, 110, 97, 108] : List UInt8) then
   none
  else if t.f1.toList = ([107, 101, 121] : List UInt8) ∨ t.f1.toList = ([114, 111, 111, 116] : List UInt8) then
   none
  else if t.f1.toList = ([118, 111, 108, 117, 109, 101] : List UInt8) then
   pbd (some (xF4 T2 en EQ)) fun _ T3 => pbd (pexpr k T3 en 1) fun a T4 => some (.ok ((0, [a]), T4))
  else none) fun nl T3 =>
 pbd (some (xF4 T3 en SC)) fun _ T4 => some (.ok (⟨t.f1, nm.f1, nl.1, pl, nl.2⟩, T4))
def pstmt (k : Nat) (T : List S60) (en : Int) : PR S25 :=
 pbd (xJi (fun t => some (pstw t)) T en) fun t T1 =>
 pbd (pof T1 en 0) fun nm T2 => pstail k t nm (xCa T en) T2 en

theorem ExP.made {w0 w W W1 : World} {g b4 bn : Nat} {T : List S60} {en nn pl : Int} {op ss : ByteArray} {Lv : Value} {L : List S25} (h : ExP w0 w W g T en b4 bn op ss nn pl Lv L) (hg : W.grownBy W1 none) : ExP w0 w W1 g T en b4 bn op ss nn pl Lv L :=
 h.call (h.rs.start.grown hg (by simp) (fun k hk => by cases hk))
theorem xL0 (a b : ByteArray) (c d : Int) (e : Value) (w : World) : (Instr.field 25 (.agg #[.string a, .string b, .int .i64 c, .int .i64 d, e]) 1).run Tryd.prog w = .ok (.string b) w := by
 have h1 := Tryd.underlying25
 unfold Instr.field
 simp [go_sem, h1, part, asAgg]
theorem xKz (a b : ByteArray) (c d : Int) (e : Value) (w : World) : (Instr.field 25 (.agg #[.string a, .string b, .int .i64 c, .int .i64 d, e]) 2).run Tryd.prog w = .ok (.int .i64 c) w := by
 have h1 := Tryd.underlying25
 unfold Instr.field
 simp [go_sem, h1, part, asAgg]
set_option maxHeartbeats 16000000 in
set_option maxRecDepth 100000 in
theorem xDp (k : Nat) (g : Nat) (T : List S60) (en : Int) (r : Except PErr (S25 × List S60)) (w0 w : World) (hS : PsS w0 w w g T en) (h : pstmt k T en = some r) :
    Calls Tryd.prog 19 #[.pointer (some ⟨g, 0, none⟩)] w (PRes w0 w g en (xDz w) r) := by
  have hu25 := Tryd.underlying25
  have hu60 := Tryd.underlying60
  have hF1 := xL0
  have hF2 := xKz
  have GW := Aside0.mk hS.lt
  have WW := Aside0.mk hS.bel.size
  have IH := Aside0.mk (xKm k)
  unfold pstmt at h
  have HH := Aside0.mk h
  have RS0 := Aside0.mk (hS.alloc (.cells #[.string (⟨#[]⟩ : ByteArray), .string (⟨#[]⟩ : ByteArray), .int .i64 0, .int .i64 0, .slice none 0 0] 25 (0, 0)))
  have HR4 := Aside0.mk (xBn w (.cells #[.string (⟨#[]⟩ : ByteArray), .string (⟨#[]⟩ : ByteArray), .int .i64 0, .int .i64 0, .slice none 0 0] 25 (0, 0)))
  have EG := Aside0.mk (show Enters Tryd.prog 32 from enters_of Tryd.func32 (by kernel_rfl) rfl)
  clear hS h
  go_enter Tryd.func19, Tryd.ntmps19
  go_upto_region 2 with (go_at_call 30; (with_reducible refine (xDb g _ en w0 _ RS0.out.start).mono ?_); rintro e w' ⟨rfl, rfl⟩)
  generalize World.alloc w _ = w1 at *
  have hh := HH.out
  clear HH
  rcases xCw hh with ⟨x, hx, rfl⟩ | ⟨t, T1, hx, h1⟩
  · have HX := Aside0.mk hx
    clear hx hh
    go_wp2_with (go_at_call 31; (with_reducible refine (xE7 g 32 #[] (fun t => some (pstw t)) _ en _ w0 _ EG.out RS0.out.start (fun t b w1 hb hB => by cases hb; simpa using xHc t w1) HX.out).mono ?_); rintro e w2 ⟨rfl, h2⟩; exact ⟨rfl, RS0.out.bad ⟨rfl, h2⟩⟩)
  have HX := Aside0.mk hx
  have HH := Aside0.mk h1
  clear hx h1 hh
  go_upto_region 4 with (go_at_call 31; (with_reducible refine (xE7 g 32 #[] (fun t => some (pstw t)) _ en _ w0 _ EG.out RS0.out.start (fun t b w1 hb hB => by cases hb; simpa using xHc t w1) HX.out).mono ?_); rintro e w2 ⟨rfl, h2⟩; unfold tokV; have RS2 := Aside0.mk (RS0.out.call h2); have HR2 := Aside0.mk (h2.kb.blk HR4.out (Nat.ne_of_gt GW.out) (by simp)); have hne : w.heap.size ≠ w2.heap.size := Nat.ne_of_lt (xBx HR2.out); have hne' := hne.symm; clear h2)
  generalize hW : World.alloc (World.alloc w2 _) _ = W3
  clear RS0 HR4 HX
  have HBN := Aside0.mk (Nat.ne_of_lt (Nat.lt_succ_of_lt (xBx HR2.out)))
  have ES0 := Aside0.mk (show ExP w0 w W3 g T1 en w.heap.size (w2.heap.size + 1) t.f1 ⟨#[]⟩ 0 (xCa T en) (.slice none 0 0) [] from by
    have h1 := xBx HR2.out
    rw [← hW]
    refine ⟨(RS2.out.alloc _).alloc _, xA4 (xA4 HR2.out _) _, ?_, Kd.N_nil _ _ _ _ _, Nat.le_refl _, by omega, by omega, GW.out, WW.out⟩
    have h2 := xBn (World.alloc w2 (.cells #[.int .i64 t.f0, .string t.f1, .int .i64 t.f2, .int .i64 t.f3] 60 (0, 0))) (.cells #[.string t.f1, .string ⟨#[]⟩, .int .i64 0, .int .i64 (xCa T en), .slice none 0 0] 25 (0, 0))
    rw [World.size_alloc] at h2
    exact h2)
  generalize hbn : w2.heap.size + 1 = bn at *
  clear hW RS2 HR2 hne hne' HBN
  have hh := HH.out
  clear HH
  rcases xCw hh with ⟨x, hx, rfl⟩ | ⟨nm, T2, hx, h1⟩
  · have HX := Aside0.mk hx
    clear hx hh
    go_wp2_with (go_at_call 33; (with_reducible refine (xCg g _ en _ w0 _ ES0.out.rs.start HX.out).mono ?_); rintro e w4 ⟨rfl, h2⟩; exact ⟨rfl, ES0.out.rs.bad ⟨rfl, h2⟩⟩)
  have HX := Aside0.mk hx
  have HH := Aside0.mk h1
  clear hx h1 hh
  go_upto_region 5 with (go_at_call 33; (with_reducible refine (xCg g _ en _ w0 _ ES0.out.rs.start HX.out).mono ?_); rintro e w4 ⟨rfl, h2⟩; unfold xKq xGd; have ES1 := Aside0.mk (ES0.out.call h2); have hn1 := (xAb ES1.out.nb 1).trans rfl; have hf1 := xAr ES1.out.nb 1; clear h2)
  generalize hW : World.setCell w4 _ _ = W5
  have ES2 := Aside0.mk (show ExP w0 w W5 g T2 en w.heap.size bn t.f1 nm.f1 0 (xCa T en) (.slice none 0 0) [] from by rw [← hW]; exact ES1.out.set_ 1 _ rfl)
  clear hW ES0 ES1 hn1 hf1 HX
  have x0_ := (xAb ES2.out.nb 0).trans rfl
  go_upto_block 0 with (fail)
  clear x0_
  have hq := HH.out
  clear HH
  unfold pstail at hq
  have HH := Aside0.mk hq
  clear hq
  by_cases hq0 : t.f1.toList = ([100, 101, 118, 105, 99, 101] : List UInt8) ∨ t.f1.toList = ([106, 111, 117, 114, 110, 97, 108] : List UInt8)
  · skip
    have hq := HH.out
    clear HH
    rw [if_pos hq0] at hq
    have HH := Aside0.mk hq
    clear hq
    exact absurd HH.out (by simp [pbd])
  have hq := HH.out
  clear HH
  rw [if_neg hq0] at hq
  have HH := Aside0.mk hq
  clear hq
  obtain ⟨ha, hb⟩ : ¬ t.f1.toList = ([100, 101, 118, 105, 99, 101] : List UInt8) ∧ ¬ t.f1.toList = ([106, 111, 117, 114, 110, 97, 108] : List UInt8) := ⟨fun h => hq0 (.inl h), fun h => hq0 (.inr h)⟩
  have e0 : (t.f1.toList == ([100, 101, 118, 105, 99, 101] : List UInt8)) = false := beq_eq_false_iff_ne.2 ha
  have e1 : (t.f1.toList == ([106, 111, 117, 114, 110, 97, 108] : List UInt8)) = false := beq_eq_false_iff_ne.2 hb
  clear hq0 ha hb
  by_cases hq0 : t.f1.toList = ([107, 101, 121] : List UInt8) ∨ t.f1.toList = ([114, 111, 111, 116] : List UInt8)
  · skip
    have hq := HH.out
    clear HH
    rw [if_pos hq0] at hq
    have HH := Aside0.mk hq
    clear hq
    exact absurd HH.out (by simp [pbd])
  have hq := HH.out
  clear HH
  rw [if_neg hq0] at hq
  have HH := Aside0.mk hq
  clear hq
  obtain ⟨ha, hb⟩ : ¬ t.f1.toList = ([107, 101, 121] : List UInt8) ∧ ¬ t.f1.toList = ([114, 111, 111, 116] : List UInt8) := ⟨fun h => hq0 (.inl h), fun h => hq0 (.inr h)⟩
  have e2 : (t.f1.toList == ([107, 101, 121] : List UInt8)) = false := beq_eq_false_iff_ne.2 ha
  have e3 : (t.f1.toList == ([114, 111, 111, 116] : List UInt8)) = false := beq_eq_false_iff_ne.2 hb
  clear hq0 ha hb
  by_cases hq0 : t.f1.toList = ([118, 111, 108, 117, 109, 101] : List UInt8)
  · skip
    have hq := HH.out
    clear HH
    rw [if_pos hq0] at hq
    have HH := Aside0.mk hq
    clear hq
    have e4 : (t.f1.toList == ([118, 111, 108, 117, 109, 101] : List UInt8)) = true := by rw [hq0]; rfl
    clear hq0
    have hq := HH.out
    clear HH
    simp only [xHn] at hq
    have HH := Aside0.mk hq
    clear hq
    have hh := HH.out
    clear HH
    rcases xCw hh with ⟨x, hx, rfl⟩ | ⟨u, T_ES3, hx, h1⟩
    · have HX := Aside0.mk hx
      clear hx hh
      go_wp2_with (go_at_call 36; (with_reducible refine (xEb HX.out g w0 _ ES2.out.rs.start).mono ?_); rintro e w2 ⟨rfl, h2⟩; exact ⟨rfl, ES2.out.rs.bad ⟨rfl, h2⟩⟩)
    have HX := Aside0.mk hx
    have HH := Aside0.mk h1
    clear hx h1 hh
    go_upto_region 15 with (go_at_call 36; (with_reducible refine (xFa HX.out g w0 _ ES2.out.rs.start).mono ?_); rintro e w6 ⟨rfl, h2⟩; have ES3 := Aside0.mk (ES2.out.call h2); clear h2)
    clear HX ES2
    have hh := HH.out
    clear HH
    rcases xCw hh with ⟨x, hx, rfl⟩ | ⟨a, T4, hx, h1⟩
    · have HX := Aside0.mk hx
      clear hx hh
      go_wp2_with (go_at_call 37; (with_reducible refine (IH.out.use g _ en 1 _ w0 _ ES3.out.rs.start HX.out).mono ?_); rintro e w7 ⟨rfl, h2⟩; exact ⟨rfl, ES3.out.rs.bad ⟨rfl, h2⟩⟩)
    have HX := Aside0.mk hx
    have HH := Aside0.mk h1
    clear hx h1 hh
    go_upto_region 19 with (first | (go_at_call 37; (with_reducible refine (IH.out.use g _ en 1 _ w0 _ ES3.out.rs.start HX.out).mono ?_); rintro e w8 ⟨⟨v, rfl, hN⟩, h2⟩; obtain ⟨A, c, rfl⟩ := Kd.N_slice hN; have ES4 := Aside0.mk (ES3.out.call h2); have FKx := Aside0.mk (xDe (Kd.N_mono (ok' := fun k => w.heap.size ≤ k ∧ k ≠ w.heap.size ∧ k ≠ bn) hN (fun k hk => by have h1 := ES3.out.lt; have h3 := ES3.out.rs.kb.1; exact ⟨by omega, by omega, by omega⟩))); clear hN h2) | ((with_reducible refine xBq (N := 46) rfl ?_); refine Kd.N_lit k25 (w0 := w8) w.heap.size 25 rfl (N' := 46) rfl (xs := [a]) (inner := [.string a.f0, .string a.f1, .int .i64 a.f2, .int .i64 a.f3, .slice A a.f4.length c]) (ok := (fun k => w.heap.size ≤ k ∧ k ≠ w.heap.size ∧ k ≠ bn)) (okp := (fun k => w.heap.size ≤ k ∧ k ≠ w.heap.size ∧ k ≠ bn)) ?hr ((Reps.none _ _).snoc FKx.out rfl) (fun _ hk => hk) ?hf (Below.refl _ _) ?hz (by show 1 ≤ 9223372036854775807; decide) ?_; (case hr => first | (go_simp; done) | (go_simp; rfl)); (case hf => have h1 := ES4.out.lt; have h2 := ES4.out.rs.kb.1; exact ⟨h2, by omega, by omega⟩); (case hz => exact ES4.out.rs.kb.1); intro v7 w7 hN7 hb7 hg7 hat7; obtain ⟨A7, c7, rfl⟩ := Kd.N_slice hN7; have ESo := Aside0.mk (ES4.out.made hg7); have HN7 := Aside0.mk hN7; have hn4 := (xAb ESo.out.nb 4).trans rfl; have hf4 := xAr ESo.out.nb 4; clear hN7 hb7 hg7 hat7))
    clear FKx HX
    generalize hW : World.setCell w7 _ _ = W9
    have ESl := Aside0.mk (show ExP w0 w W9 g _ en w.heap.size bn t.f1 nm.f1 0 (xCa T en) (.slice A7 1 c7) [a] from by rw [← hW]; exact ESo.out.setL HN7.out)
    clear hW ESo HN7 hn4 hf4
    clear ES3 ES4
    have hq := HH.out
    clear HH
    rw [pbd_ok] at hq
    have HH := Aside0.mk hq
    clear hq
    have hh := HH.out
    clear HH
    rcases xCw hh with ⟨x, hx, rfl⟩ | ⟨u, T_ESf, hx, h1⟩
    · have HX := Aside0.mk hx
      clear hx hh
      go_wp2_with (go_at_call 36; (with_reducible refine (xEb HX.out g w0 _ ESl.out.rs.start).mono ?_); rintro e w2 ⟨rfl, h2⟩; exact ⟨rfl, ESl.out.rs.bad ⟨rfl, h2⟩⟩)
    have HX := Aside0.mk hx
    have HH := Aside0.mk h1
    clear hx h1 hh
    go_upto_region 20 with (go_at_call 36; (with_reducible refine (xFa HX.out g w0 _ ESl.out.rs.start).mono ?_); rintro e wf ⟨rfl, h2⟩; have ESf := Aside0.mk (ESl.out.call h2); clear h2)
    clear HX ESl
    have hh := HH.out
    clear HH
    simp only [Option.some.injEq] at hh
    subst hh
    obtain ⟨hn0, hn1, hn2, hn3, hn4⟩ := ey5 ESf.out.nb
    obtain ⟨hr0, hr1, hr2, hr3, hr4, hf0, hf1, hf2, hf3, hf4⟩ := ex5 ESf.out.r4
    go_wp2
    have RSz := ((((((((((ESf.out.rs).far (b := w.heap.size) (j := 0) (Nat.ne_of_lt GW.out) (Nat.le_refl _) WW.out (.string t.f1))).far (b := w.heap.size) (j := 1) (Nat.ne_of_lt GW.out) (Nat.le_refl _) WW.out (.string nm.f1))).far (b := w.heap.size) (j := 2) (Nat.ne_of_lt GW.out) (Nat.le_refl _) WW.out (.int .i64 0))).far (b := w.heap.size) (j := 3) (Nat.ne_of_lt GW.out) (Nat.le_refl _) WW.out (.int .i64 (xCa T en)))).far (b := w.heap.size) (j := 4) (Nat.ne_of_lt GW.out) (Nat.le_refl _) WW.out (.slice A7 1 c7))
    have hNz := Kd.N_far (p := ⟨w.heap.size, 4, none⟩) (Kd.N_far (p := ⟨w.heap.size, 3, none⟩) (Kd.N_far (p := ⟨w.heap.size, 2, none⟩) (Kd.N_far (p := ⟨w.heap.size, 1, none⟩) (Kd.N_far (p := ⟨w.heap.size, 0, none⟩) ESf.out.row (fun k hk => hk.2.1) (.string t.f1)) (fun k hk => hk.2.1) (.string nm.f1)) (fun k hk => hk.2.1) (.int .i64 0)) (fun k hk => hk.2.1) (.int .i64 (xCa T en))) (fun k hk => hk.2.1) (.slice A7 1 c7)
    refine bodyPost_ret (results_cell_row rfl _ _ w.heap.size 25 #[.string t.f1, .string nm.f1, .int .i64 0, .int .i64 (xCa T en), .slice A7 1 c7] (0, 0) _ rfl (xAh (xAh (xAh (xAh (xAh ESf.out.r4 0 (.string t.f1) rfl) 1 (.string nm.f1) rfl) 2 (.int .i64 0) rfl) 3 (.int .i64 (xCa T en)) rfl) 4 (.slice A7 1 c7) rfl) Tryd.underlying25 rfl (by kernel_rfl)) rfl ?_
    exact ⟨⟨_, rfl, Kd.N_mono hNz (fun k hk => hk.1)⟩, RSz⟩
  have hq := HH.out
  clear HH
  rw [if_neg hq0] at hq
  have HH := Aside0.mk hq
  clear hq
  exact absurd HH.out (by simp [pbd])

theorem assert40 (v : Value) (w : World) : (Instr.typeAssert (.iface 40 v) 20 40 true).run Tryd.prog w = .ok (.tuple #[v, .bool true]) w := by
 have h := Tryd.underlying40
 unfold Instr.typeAssert
 simp [go_sem, h]
theorem wp_act {P : Program} {c : Code} {Q : Exit → Act → World → Prop} {t0 t : Array Value} {d : List Deferred} {w : World} (h : t0 = t) (h1 : Code.wp P c Q { tmps := t, defers := d } w) : Code.wp P c Q { tmps := t0, defers := d } w := h ▸ h1
theorem xIe (a b c : Value) (w : World) : CallsD Tryd.prog 18 #[a, b, c] .returning w fun e u' w' => e = .returned (.tuple #[]) ∧ u' = .returning ∧ w' = w := by
 refine callsD_of_wpS Tryd.func18 rfl fun c₀ cs hu => ?_
 apply wpS_seq
 apply wpS_region
 simp [wpOpsS, go_sem, recoverD, hu, Tryd.ntmps18, Exit.thenS]
 apply wpS_seq
 apply wpS_region
 simp [wpOpsS, go_sem, Exit.thenS]
 refine wpS_cond (t := false) (by simp [Act.eval, Array.replicate]) ?_
 simp only [Bool.false_eq_true, if_false]
 refine wpS_of_wp (wp_skip ?_)
 cases c₀
 simp_all [bodyPostS, results, Tryd.results18]
set_option maxRecDepth 100000 in
set_option maxHeartbeats 4000000 in
theorem xF5 (bn be ba S : Nat) (x : PErr) (cs1 cs2 cs3 cs4 cs5 : Value) (e0 a0 : Int) (w : World)
  (hn : w.heap[bn]? = some (.cells #[cs1, cs2, cs3, cs4, cs5] 25 (0, 0))) (he : w.heap[be]? = some (.cells #[.int .i64 e0] 26 (0, 0))) (ha : w.heap[ba]? = some (.cells #[.int .i64 a0] 3 (0, 0))) :
  CallsD Tryd.prog 18 #[.pointer (some ⟨bn, 0, none⟩), .pointer (some ⟨be, 0, none⟩), .pointer (some ⟨ba, 0, none⟩)] (.panicking (xEr x)) w fun e u' w' =>
   e = .returned (.tuple #[]) ∧ u' = .panicking [{ v := .iface 40 (.agg #[.int .i64 x.1, .int .i64 x.2]), recovered := true }] ∧
   w'.heap[bn]? = some (.cells #[.string ⟨#[]⟩, .string ⟨#[]⟩, .int .i64 0, .int .i64 0, .slice none 0 0] 25 (0, 0)) ∧ w'.heap[be]? = some (.cells #[.int .i64 x.1] 26 (0, 0)) ∧ w'.heap[ba]? = some (.cells #[.int .i64 x.2] 3 (0, 0)) ∧
   (∀ S w00, S ≤ bn → S ≤ be → S ≤ ba → Below S w00 w → Below S w00 w') := by
 have hbe : bn ≠ be := xDw hn he (by decide)
 have hba : bn ≠ ba := xDw hn ha (by decide)
 have hea : be ≠ ba := xDw he ha (by decide)
 unfold xEr
 refine callsD_of_wpS Tryd.func18 rfl fun c₀ cs hu => ?_
 apply wpS_seq
 apply wpS_region
 simp [wpOpsS, go_sem, recoverD, hu, Tryd.ntmps18, Exit.thenS]
 apply wpS_seq
 apply wpS_region
 simp [wpOpsS, go_sem, Exit.thenS]
 refine wpS_cond (t := true) (by simp [Act.eval, Array.replicate]) ?_
 simp only [if_true]
 refine wpS_of_wp ?_
 refine wp_act (t := #[.pointer (some ⟨bn, 0, none⟩), .pointer (some ⟨be, 0, none⟩), .pointer (some ⟨ba, 0, none⟩), .iface 40 (.agg #[.int .i64 x.1, .int .i64 x.2]), undef, undef, .iface 40 (.agg #[.int .i64 x.1, .int .i64 x.2]), .iface 40 (.agg #[.int .i64 x.1, .int .i64 x.2]), .bool true, undef, undef, undef, undef, undef, undef, undef, undef, undef, undef, undef, undef, undef]) ?_ ?_
 ·apply Array.toList_inj.mp
  simp only [Array.toList_append, Array.toList_setIfInBounds, Array.toList_replicate, List.replicate, List.set, List.cons_append, List.nil_append]
 have hta := assert40
 have hu25 := Tryd.underlying25
 have hu40 := Tryd.underlying40
 have HN := Aside0.mk (xA4 hn (.cells #[.int .i64 x.1, .int .i64 x.2] 40 (0, 0)))
 have HE := Aside0.mk (xA4 he (.cells #[.int .i64 x.1, .int .i64 x.2] 40 (0, 0)))
 have HA := Aside0.mk (xA4 ha (.cells #[.int .i64 x.1, .int .i64 x.2] 40 (0, 0)))
 have HF := Aside0.mk (xBn w (.cells #[.int .i64 x.1, .int .i64 x.2] 40 (0, 0)))
 have HU := Aside0.mk hu
 have l1 := xBx hn
 have l2 := xBx he
 have l3 := xBx ha
 clear hn he ha hu
 go_upto_region 5 with (fail)
 generalize hW : World.alloc w _ = W1 at *
 have HB := Aside0.mk (show Below w.heap.size w W1 from by rw [← hW]; exact xA1 (Below.refl _ _) _)
 have HNE := Aside0.mk (And.intro (Nat.ne_of_gt l1) (And.intro (Nat.ne_of_gt l2) (Nat.ne_of_gt l3)))
 have HL1 := Aside0.mk (Nat.le_of_lt l1)
 clear hW l1 l2 l3
 generalize w.heap.size = bf at HF HNE ⊢
 have HN1 := Aside0.mk (xA8 HN.out)
 have HE1 := Aside0.mk (xA8 HE.out)
 have HA1 := Aside0.mk (xA8 HA.out)
 have HF1 := Aside0.mk (xA8 HF.out)
 have x0 := (xAb HF1.out 0).trans rfl
 have x1 := (xAb HF1.out 1).trans rfl
 refine xDa (n := 8) (S := fun w' => w'.cell? ⟨bf, 0, none⟩ = some (.int .i64 x.1) ∧ w'.cell? ⟨bf, 1, none⟩ = some (.int .i64 x.2)) (ds := [7]) #[false, false, false, false, false, false, false, false] (by kernel_rfl) rfl rfl ?hS (fun hHeld => ?_)
 case hS => exact ⟨x0, x1⟩
 have HB1 := Aside0.mk (show ∀ S w00, S ≤ bn → Below S w00 w → Below S w00 W1.drew from fun S w00 hs h => xCe (xC5 h (Nat.le_trans hs HL1.out) HB.out))
 generalize World.drew W1 = W2 at *
 refine xBy (i := 0) (N := some 17) (v := ?_) (a' := ?_) #[true, false, false, false, false, false, false, false] rfl rfl (by kernel_rfl) (fun _ _ _ h => h) (Or.inl ⟨by rfl, ?_⟩) ?_ ?_
 rotate_left
 ·intro w'
  go_simp
  with_reducible rfl
 rotate_left
 ·simp only [Act.put, List.setIfInBounds_toArray, List.set_cons_zero, List.set_cons_succ, xB0, xB1]
  rfl
 refine xBy (i := 1) (N := some 18) (v := ?_) (a' := ?_) #[true, true, false, false, false, false, false, false] rfl rfl (by kernel_rfl) (fun _ _ _ h => h) (Or.inl ⟨by rfl, ?_⟩) ?_ ?_
 rotate_left
 ·intro w'
  go_simp
  with_reducible rfl
 rotate_left
 ·simp only [Act.put, List.setIfInBounds_toArray, List.set_cons_zero, List.set_cons_succ, xB0, xB1]
  rfl
 refine xBy (i := 3) (N := some 20) (v := ?_) (a' := ?_) #[true, true, false, true, false, false, false, false] rfl rfl (by kernel_rfl) (fun _ _ _ h => h) (Or.inl ⟨by rfl, ?_⟩) ?_ ?_
 rotate_left
 ·intro w'
  go_simp
  with_reducible rfl
 rotate_left
 ·simp only [Act.put, List.setIfInBounds_toArray, List.set_cons_zero, List.set_cons_succ, xB0, xB1]
  rfl
 refine xCr (i := 2) (N := some 19) (v := ?_) (a' := ?_) #[true, true, true, true, false, false, false, false] rfl rfl (by kernel_rfl) (fun _ _ _ h => h) (Or.inl ⟨by rfl, ?_⟩) hHeld ?_ ?_
 rotate_left
 ·rintro w' ⟨s0, s1⟩
  go_simp
  with_reducible rfl
 rotate_left
 ·simp only [Act.put, List.setIfInBounds_toArray, List.set_cons_zero, List.set_cons_succ, xB0, xB1]
  rfl
 refine xCr (i := 4) (N := some 21) (v := ?_) (a' := ?_) #[true, true, true, true, true, false, false, false] rfl rfl (by kernel_rfl) (fun _ _ _ h => h) (Or.inl ⟨by rfl, ?_⟩) hHeld ?_ ?_
 rotate_left
 ·rintro w' ⟨s0, s1⟩
  go_simp
  with_reducible rfl
 rotate_left
 ·simp only [Act.put, List.setIfInBounds_toArray, List.set_cons_zero, List.set_cons_succ, xB0, xB1]
  rfl
 obtain ⟨c0, c1, c2, c3, c4, f0, f1, f2, f3, f4⟩ := ex5 HN1.out
 refine one_ (i := 5) (N := none) #[true, true, true, true, true, true, false, false] rfl rfl (by kernel_rfl) (by decide) (fun K hK => ?_)
 refine xFz (w1 := ?_) (by rfl) rfl ?_ ?_
 rotate_left
 ·go_simp
  rfl
 have HF1_5 := Aside0.mk (xAk (p := ⟨bn, 4, none⟩) (xAk (p := ⟨bn, 3, none⟩) (xAk (p := ⟨bn, 2, none⟩) (xAk (p := ⟨bn, 1, none⟩) (xAk (p := ⟨bn, 0, none⟩) HF1.out (HNE.out.1) (.string ⟨#[]⟩)) (HNE.out.1) (.string ⟨#[]⟩)) (HNE.out.1) (.int .i64 0)) (HNE.out.1) (.int .i64 0)) (HNE.out.1) (.slice none 0 0))
 have HE1_5 := Aside0.mk (xAk (p := ⟨bn, 4, none⟩) (xAk (p := ⟨bn, 3, none⟩) (xAk (p := ⟨bn, 2, none⟩) (xAk (p := ⟨bn, 1, none⟩) (xAk (p := ⟨bn, 0, none⟩) HE1.out (hbe.symm) (.string ⟨#[]⟩)) (hbe.symm) (.string ⟨#[]⟩)) (hbe.symm) (.int .i64 0)) (hbe.symm) (.int .i64 0)) (hbe.symm) (.slice none 0 0))
 have HA1_5 := Aside0.mk (xAk (p := ⟨bn, 4, none⟩) (xAk (p := ⟨bn, 3, none⟩) (xAk (p := ⟨bn, 2, none⟩) (xAk (p := ⟨bn, 1, none⟩) (xAk (p := ⟨bn, 0, none⟩) HA1.out (hba.symm) (.string ⟨#[]⟩)) (hba.symm) (.string ⟨#[]⟩)) (hba.symm) (.int .i64 0)) (hba.symm) (.int .i64 0)) (hba.symm) (.slice none 0 0))
 have HN1_5 := Aside0.mk (xAh (xAh (xAh (xAh (xAh HN1.out 0 (.string ⟨#[]⟩) rfl) 1 (.string ⟨#[]⟩) rfl) 2 (.int .i64 0) rfl) 3 (.int .i64 0) rfl) 4 (.slice none 0 0) rfl)
 clear c0 f0 c1 f1 c2 f2 c3 f3 c4 f4
 have y0 := (xAb HF1_5.out 0).trans rfl
 have y1 := (xAb HF1_5.out 1).trans rfl
 try clear hHeld
 refine hK.out _ _ ⟨y0, y1⟩ (fun hHeld => ?_)
 clear hK K
 have HB2 := Aside0.mk (show ∀ S w00, S ≤ bn → S ≤ be → S ≤ ba → Below S w00 w → Below S w00 (((((W2.setCell ⟨bn, 0, none⟩ (.string ⟨#[]⟩)).setCell ⟨bn, 1, none⟩ (.string ⟨#[]⟩)).setCell ⟨bn, 2, none⟩ (.int .i64 0)).setCell ⟨bn, 3, none⟩ (.int .i64 0)).setCell ⟨bn, 4, none⟩ (.slice none 0 0)) from fun S w00 h1 h2 h3 h => (((((HB1.out S w00 h1 h).setCell (p := ⟨bn, 0, none⟩) h1 _).setCell (p := ⟨bn, 1, none⟩) h1 _).setCell (p := ⟨bn, 2, none⟩) h1 _).setCell (p := ⟨bn, 3, none⟩) h1 _).setCell (p := ⟨bn, 4, none⟩) h1 _)
 generalize World.setCell (World.setCell (World.setCell (World.setCell (World.setCell W2 _ _) _ _) _ _) _ _) _ _ = W3 at *
 have c0 := (xAb HE1_5.out 0).trans rfl
 have f0 := xAr HE1_5.out 0
 refine one_ (i := 6) (N := none) #[true, true, true, true, true, true, true, false] rfl rfl (by kernel_rfl) (by decide) (fun K hK => ?_)
 refine xFz (w1 := ?_) (by rfl) rfl ?_ ?_
 rotate_left
 ·go_simp
  rfl
 have HF1_5_6 := Aside0.mk (xAk (p := ⟨be, 0, none⟩) HF1_5.out (HNE.out.2.1) (.int .i64 x.1))
 have HN1_5_6 := Aside0.mk (xAk (p := ⟨be, 0, none⟩) HN1_5.out (hbe) (.int .i64 x.1))
 have HA1_5_6 := Aside0.mk (xAk (p := ⟨be, 0, none⟩) HA1_5.out (hea.symm) (.int .i64 x.1))
 have HE1_5_6 := Aside0.mk (xAh HE1_5.out 0 (.int .i64 x.1) rfl)
 clear c0 f0 y0 y1
 have y0 := (xAb HF1_5_6.out 0).trans rfl
 have y1 := (xAb HF1_5_6.out 1).trans rfl
 try clear hHeld
 refine hK.out _ _ ⟨y0, y1⟩ (fun hHeld => ?_)
 clear hK K
 have c0 := (xAb HA1_5_6.out 0).trans rfl
 have f0 := xAr HA1_5_6.out 0
 refine xGv (i := 7) (N := none) #[true, true, true, true, true, true, true, true] rfl rfl (by kernel_rfl) (by decide) (fun K hK => ?_)
 refine xFz (w1 := ?_) (by rfl) rfl ?_ ?_
 rotate_left
 ·go_simp
  rfl
 refine hK.out _ _ ?_
 clear hK K
 refine xEf (by kernel_rfl) ?_
 have g1 := xAk (p := ⟨ba, 0, none⟩) HN1_5_6.out hba (.int .i64 x.2)
 have g2 := xAk (p := ⟨ba, 0, none⟩) HE1_5_6.out hea (.int .i64 x.2)
 have g3 := xAh HA1_5_6.out 0 (.int .i64 x.2) rfl
 exact ⟨rfl, _, rfl, _, results_none rfl _ _ _, rfl, rfl, g1, g2, g3, fun S w00 h1 h2 h3 h => ((HB2.out S w00 h1 h2 h3 h).setCell (p := ⟨be, 0, none⟩) h2 _).setCell (p := ⟨ba, 0, none⟩) h3 _⟩
end Go.Proofs.YtknbfhhmjbnemaaDoor.P
end
section
namespace Go.Proofs.YtknbfhhmjbnemaaDoor.P
open Go.RowKit Go.Proofs.YtknbfhhmjbnemaaDoorW.PrintWords Go.Proofs.YtknbfhhmjbnemaaDoorW.PrintLast Go.Proofs.YtknbfhhmjbnemaaDoorW.PrintMore
attribute [local go_sem] xB9 xBe

/-! ### xCb: function 64 -/
def xCb.f (a0 : Int) : Option (Bool) := if a0 ≥ 48 then (some (decide (a0 ≤ 57))) else (some false)
set_option maxHeartbeats 8000000 in
set_option maxRecDepth 100000 in
theorem xCb.calls (a0 : Int) (r : Bool) (w : World) (h : xCb.f a0 = some r) :
  Calls Tryd.prog 64 #[.int .u8 a0] w fun e w' => e = .returned (.bool r) ∧ Drawn0 w w' := by
 have H : (if a0 ≥ 48 then (some (decide (a0 ≤ 57))) else (some false)) = some r := h
 clear h
 by_cases c2 : a0 ≥ 48
 ·rw [if_pos c2] at H
  have c2b0 : decide (48 ≤ a0) = true := decide_eq_true c2
  clear c2
  obtain rfl := Option.some.inj H
  go_enter Tryd.func64, Tryd.ntmps64
  go_wp2
  go_ret
  exact ⟨by first | rfl | (simp; done) | (simp [*]; done), by repeat (first | exact Drawn0.refl _ | apply Drawn0.step)⟩
 ·rw [if_neg c2] at H
  have c2b0 : decide (48 ≤ a0) = false := decide_eq_false c2
  clear c2
  obtain rfl := Option.some.inj H
  go_enter Tryd.func64, Tryd.ntmps64
  go_wp2
  go_ret
  exact ⟨by first | rfl | (simp; done) | (simp [*]; done), by repeat (first | exact Drawn0.refl _ | apply Drawn0.step)⟩

end Go.Proofs.YtknbfhhmjbnemaaDoor.P
end
section
namespace Go.Proofs.YtknbfhhmjbnemaaDoor.P
open Go.RowKit Go.Proofs.YtknbfhhmjbnemaaDoorW.PrintWords Go.Proofs.YtknbfhhmjbnemaaDoorW.PrintLast Go.Proofs.YtknbfhhmjbnemaaDoorW.PrintMore
attribute [local go_sem] xB9 xBe

/-! ### xEp: function 65 -/
def xEp.f (a0 : Int) : Option (Bool) := (xCb.f a0).bind fun t105 => (if t105 = true then (some true) else (if a0 ≥ 97 then (some (decide (a0 ≤ 102))) else (some false)))
set_option maxHeartbeats 8000000 in
set_option maxRecDepth 100000 in
theorem xEp.calls (a0 : Int) (r : Bool) (w : World) (h : xEp.f a0 = some r) :
  Calls Tryd.prog 65 #[.int .u8 a0] w fun e w' => e = .returned (.bool r) ∧ Drawn0 w w' := by
 have H : ((xCb.f a0).bind fun t105 => (if t105 = true then (some true) else (if a0 ≥ 97 then (some (decide (a0 ≤ 102))) else (some false)))) = some r := h
 clear h
 replace H := Option.bind_eq_some_iff.mp H
 obtain ⟨t105, A20, H⟩ := H
 replace H : (if t105 = true then (some true) else (if a0 ≥ 97 then (some (decide (a0 ≤ 102))) else (some false))) = some r := H
 have A2 := Aside0.mk A20
 clear A20
 by_cases c3 : t105 = true
 ·subst c3
  have H1 : (some true) = some r := by rw [if_pos rfl] at H; exact H
  clear H
  have H := H1
  clear H1
  obtain rfl := Option.some.inj H
  go_enter Tryd.func65, Tryd.ntmps65
  go_wp2_with (first | ((with_reducible refine xAj (f := 64) rfl ?_); refine xB6 (some 4) rfl rfl Tryd.func64 (by kernel_rfl) rfl #[.int .u8 a0] rfl (by (try simp only [List.map_toArray, List.map_cons, List.map_nil]); first | done | rfl | (simp only [List.length_drop, List.length_take]; rfl)) ?_; (with_reducible refine (xCb.calls a0 true _ A2.out).mono ?_); rintro e w' ⟨rfl, ⟨nd, rfl⟩⟩; refine ⟨_, rfl, ?_⟩))
  go_ret
  exact ⟨by first | rfl | (simp; done) | (simp [*]; done), by repeat (first | exact Drawn0.refl _ | apply Drawn0.step)⟩
 ·replace c3 := Bool.eq_false_iff.mpr c3
  subst c3
  have H1 : (if a0 ≥ 97 then (some (decide (a0 ≤ 102))) else (some false)) = some r := by rw [if_neg (show ¬ (false = true) by decide)] at H; exact H
  clear H
  have H := H1
  clear H1
  by_cases c4 : a0 ≥ 97
  ·rw [if_pos c4] at H
   have c4b0 : decide (97 ≤ a0) = true := decide_eq_true c4
   clear c4
   obtain rfl := Option.some.inj H
   go_enter Tryd.func65, Tryd.ntmps65
   go_wp2_with (first | ((with_reducible refine xAj (f := 64) rfl ?_); refine xB6 (some 4) rfl rfl Tryd.func64 (by kernel_rfl) rfl #[.int .u8 a0] rfl (by (try simp only [List.map_toArray, List.map_cons, List.map_nil]); first | done | rfl | (simp only [List.length_drop, List.length_take]; rfl)) ?_; (with_reducible refine (xCb.calls a0 false _ A2.out).mono ?_); rintro e w' ⟨rfl, ⟨nd, rfl⟩⟩; refine ⟨_, rfl, ?_⟩))
   go_ret
   exact ⟨by first | rfl | (simp; done) | (simp [*]; done), by repeat (first | exact Drawn0.refl _ | apply Drawn0.step)⟩
  ·rw [if_neg c4] at H
   have c4b0 : decide (97 ≤ a0) = false := decide_eq_false c4
   clear c4
   obtain rfl := Option.some.inj H
   go_enter Tryd.func65, Tryd.ntmps65
   go_wp2_with (first | ((with_reducible refine xAj (f := 64) rfl ?_); refine xB6 (some 4) rfl rfl Tryd.func64 (by kernel_rfl) rfl #[.int .u8 a0] rfl (by (try simp only [List.map_toArray, List.map_cons, List.map_nil]); first | done | rfl | (simp only [List.length_drop, List.length_take]; rfl)) ?_; (with_reducible refine (xCb.calls a0 false _ A2.out).mono ?_); rintro e w' ⟨rfl, ⟨nd, rfl⟩⟩; refine ⟨_, rfl, ?_⟩))
   go_ret
   exact ⟨by first | rfl | (simp; done) | (simp [*]; done), by repeat (first | exact Drawn0.refl _ | apply Drawn0.step)⟩

end Go.Proofs.YtknbfhhmjbnemaaDoor.P
end
section
namespace Go.Proofs.YtknbfhhmjbnemaaDoor.P
open Go.RowKit Go.Proofs.YtknbfhhmjbnemaaDoorW.PrintWords Go.Proofs.YtknbfhhmjbnemaaDoorW.PrintLast Go.Proofs.YtknbfhhmjbnemaaDoorW.PrintMore
attribute [local go_sem] xB9 xBe

/-! ### xD2: function 62 -/
def xD2.f (a0 : Int) : Option (Bool) := if a0 ≥ 97 then (some (decide (a0 ≤ 122))) else (some false)
set_option maxHeartbeats 8000000 in
set_option maxRecDepth 100000 in
theorem xD2.calls (a0 : Int) (r : Bool) (w : World) (h : xD2.f a0 = some r) :
  Calls Tryd.prog 62 #[.int .u8 a0] w fun e w' => e = .returned (.bool r) ∧ Drawn0 w w' := by
 have H : (if a0 ≥ 97 then (some (decide (a0 ≤ 122))) else (some false)) = some r := h
 clear h
 by_cases c2 : a0 ≥ 97
 ·rw [if_pos c2] at H
  have c2b0 : decide (97 ≤ a0) = true := decide_eq_true c2
  clear c2
  obtain rfl := Option.some.inj H
  go_enter Tryd.func62, Tryd.ntmps62
  go_wp2
  go_ret
  exact ⟨by first | rfl | (simp; done) | (simp [*]; done), by repeat (first | exact Drawn0.refl _ | apply Drawn0.step)⟩
 ·rw [if_neg c2] at H
  have c2b0 : decide (97 ≤ a0) = false := decide_eq_false c2
  clear c2
  obtain rfl := Option.some.inj H
  go_enter Tryd.func62, Tryd.ntmps62
  go_wp2
  go_ret
  exact ⟨by first | rfl | (simp; done) | (simp [*]; done), by repeat (first | exact Drawn0.refl _ | apply Drawn0.step)⟩

end Go.Proofs.YtknbfhhmjbnemaaDoor.P
end
section
namespace Go.Proofs.YtknbfhhmjbnemaaDoor.P
open Go.RowKit Go.Proofs.YtknbfhhmjbnemaaDoorW.PrintWords Go.Proofs.YtknbfhhmjbnemaaDoorW.PrintLast Go.Proofs.YtknbfhhmjbnemaaDoorW.PrintMore

/-! what the scanners ask of bytes -/
def xB7 (p : Int → Bool) (s : ByteArray) : Nat → Nat → Nat
 | 0, k => k
 | f + 1, k => if k < s.size ∧ p (bt s k) = true then xB7 p s f (k + 1) else k
theorem xD7 (p : Int → Bool) (s : ByteArray) : ∀ f k, k ≤ s.size → k ≤ xB7 p s f k ∧ xB7 p s f k ≤ s.size
 | 0, k, h => ⟨Nat.le_refl _, h⟩
 | f + 1, k, h => by
  unfold xB7
  split
  ·have := xD7 p s f (k + 1) (by omega)
   omega
  ·exact ⟨Nat.le_refl _, h⟩
theorem xDk (p : Int → Bool) (s : ByteArray) : ∀ f k j, k ≤ j → j < xB7 p s f k → p (bt s j) = true
 | 0, k, j, h1, h2 => by unfold xB7 at h2; omega
 | f + 1, k, j, h1, h2 => by
  unfold xB7 at h2
  split at h2
  ·rename_i hc
   by_cases h : j = k
   ·subst h; exact hc.2
   ·exact xDk p s f (k + 1) j (by omega) h2
  ·omega
def xC2 (c : Int) : Bool := decide (97 ≤ c) && decide (c ≤ 122)
def xAx (c : Int) : Bool := decide (48 ≤ c) && decide (c ≤ 57)
def pHex (c : Int) : Bool := xAx c || (decide (97 ≤ c) && decide (c ≤ 102))
def xC6 (c : Int) : Bool := xC2 c || xAx c || (c == 95)
def xEc (s : ByteArray) (k : Nat) : Bool := decide (k < s.size) && (xC2 (bt s k) || (bt s k == 95))
theorem xD8 (s : ByteArray) (j : Nat) (hj : j < s.size) : (xAl s)[j]? = some (bt s j) := by
 have h := xG9 s j
 unfold rd at h
 rw [Int.toNat_natCast, List.getD_eq_getElem?_getD] at h
 have hl : j < (xAl s).length := by rw [xAz]; exact hj
 rw [List.getElem?_eq_getElem hl] at h ⊢
 rw [← h]
 rfl
theorem xHz (s : ByteArray) (j : Nat) (hj : j < s.size) : (xAl s).take (j + 1) = (xAl s).take j ++ [bt s j] := by
 have hl : j < (xAl s).length := by rw [xAz]; exact hj
 rw [List.take_add_one, xD8 s j hj]
 rfl
theorem seg_snoc (s : ByteArray) (i p : Nat) (h1 : i ≤ p) (h2 : p < s.size) : ((xAl s).drop i).take (p + 1 - i) = ((xAl s).drop i).take (p - i) ++ [bt s p] := by
 rw [show p + 1 - i = (p - i) + 1 by omega, List.take_add_one, List.getElem?_drop, show i + (p - i) = p by omega, xD8 s p h2]
 rfl
theorem seg_fig (s : ByteArray) (i p : Nat) (hp : p ≤ s.size) (h : ∀ j : Nat, i ≤ j → j < p → xAx (bt s j) = true) : ∀ x ∈ ((xAl s).drop i).take (p - i), 48 ≤ x ∧ x ≤ 57 := by
 intro x hx
 obtain ⟨j, hj, rfl⟩ := List.mem_iff_getElem.1 hx
 have hl : j < p - i := by rw [List.length_take] at hj; omega
 have e : (((xAl s).drop i).take (p - i))[j]? = some (bt s ((i + j : Nat) : Int)) := by
  rw [List.getElem?_take, if_pos hl, List.getElem?_drop, xD8 s (i + j) (by omega)]
 rw [List.getElem?_eq_getElem hj] at e
 have h2 := h (i + j) (by omega) (by omega)
 rw [Option.some.inj e]
 unfold xAx at h2
 simpa using h2
end Go.Proofs.YtknbfhhmjbnemaaDoor.P
end
section
namespace Go.Proofs.YtknbfhhmjbnemaaDoor.P
open Go.RowKit Go.Proofs.YtknbfhhmjbnemaaDoorW.PrintWords Go.Proofs.YtknbfhhmjbnemaaDoorW.PrintLast Go.Proofs.YtknbfhhmjbnemaaDoorW.PrintMore
attribute [local go_sem] xB9 xBe

/-! ### xDi: function 29 -/
-- IMPORTS Derived.Shelf.Abstract Derived.Test.YtknbfhhmjbnemaaDoorLexDefs
/-- Only block g may have changed. -/
structure Alone (w w' : World) (g : Nat) : Prop where
 keep : xBo w w' g none
 os : ∀ B, B ≤ g → Below B w w'
theorem Alone.refl (w : World) (g : Nat) : Alone w w g := ⟨xBo.refl _ _ _, fun _ _ => Below.refl _ _⟩
theorem Alone.set {w w1 : World} {g : Nat} (h : Alone w w1 g) (j : Nat) (u : Value) : Alone w (w1.setCell ⟨g, j, none⟩ u) g :=
 ⟨h.keep.set_ j u, fun B hB => (h.os B hB).setCell hB u⟩
theorem Alone.drewN {w w1 : World} {g : Nat} (h : Alone w w1 g) (n : Nat) : Alone w (w1.drewN n) g :=
 ⟨xJu h.keep n, fun B hB => xA0 (h.os B hB) n⟩
theorem Alone.blk {w w1 : World} {g g' : Nat} {o : Obj} (h : Alone w w1 g) (hb : w.heap[g']? = some o) (hg : g' ≠ g) : w1.heap[g']? = some o := h.keep.blk hb hg (by simp)


def xL7 (g : Nat) (p : Int → Bool) : Prop := ∀ (c : Int) (w : World), Calls Tryd.prog g #[.int .u8 c] w fun e w' => e = .returned (.bool (p c)) ∧ Drawn0 w w'

set_option maxHeartbeats 1000000 in
set_option maxRecDepth 100000 in
theorem xJb (g : Nat) (p : Int → Bool) (eg : Enters Tryd.prog g) (hp : xL7 g p) (s : ByteArray) (k bk bs : Nat) (w : World) (hk : k ≤ s.size) (hs : s.size ≤ 9223372036854775807)
  (hbk : w.heap[bk]? = some (.cells #[.int .i64 k] 3 (0, 0))) (hbs : w.heap[bs]? = some (.cells #[.string s] 9 (0, 0))) :
  Calls Tryd.prog 60 #[.func (.func g) #[] #[], .pointer (some ⟨bk, 0, none⟩), .pointer (some ⟨bs, 0, none⟩)] w fun e w' =>
   e = .returned (.string (s.extract k (xB7 p s (s.size - k) k))) ∧ w'.heap[bk]? = some (.cells #[.int .i64 (xB7 p s (s.size - k) k : Nat)] 3 (0, 0)) ∧ Alone w w' bk := by
 have hne : bs ≠ bk := xDw hbs hbk (by decide)
 have HP := Aside0.mk hp
 unfold Enters at eg
 clear hp
 have hc1 : w.cell? ⟨bk, 0, none⟩ = some (.int .i64 k) := (xAb hbk 0).trans rfl
 go_enter Tryd.func60, Tryd.ntmps60
 go_wp2
 clear hc1
 go_loopg [] (s.size - k) (fun kx wr => ∃ j : Nat, k ≤ j ∧ j ≤ s.size ∧ s.size - j ≤ kx ∧ Aside0 (wr.heap[bk]? = some (.cells #[.int .i64 j] 3 (0, 0))) ∧ Aside0 (Alone w wr bk) ∧ Aside0 (xB7 p s (s.size - j) j = xB7 p s (s.size - k) k))
 case atStart => exact ⟨k, Nat.le_refl _, hk, Nat.le_refl _, ⟨hbk⟩, ⟨Alone.refl _ _⟩, ⟨rfl⟩⟩
 case round =>
  obtain ⟨j, hj, hjs, hg, HB, HA, HE⟩ := hrel
  have hc1 : wr.cell? ⟨bk, 0, none⟩ = some (.int .i64 j) := (xAb HB.out 0).trans rfl
  have hc2 : wr.cell? ⟨bs, 0, none⟩ = some (.string s) := (xAb (HA.out.blk hbs hne) 0).trans rfl
  have hf1 : wr.frozen? ⟨bk, 0, none⟩ = false := xAr HB.out 0
  by_cases hlt : j < s.size
  ·have hd : decide ((j : Int) < (s.size : Int)) = true := by simpa using hlt
   have hd2 : decide (j < s.size) = true := by simpa using hlt
   have hb := xCn s j (by simpa using hlt)
   simp only [Int.toNat_natCast] at hb
   have HC := HP.out (bt s j)
   cases hpj : p (bt s j)
   ·rw [hpj] at HC
    have HC' := Aside0.mk HC
    clear HC
    have HPJ := Aside0.mk hpj
    clear hpj
    go_wp2_with (go_at_fn g; refine (HC'.out _).mono ?_; rintro e w' ⟨rfl, ⟨nd, rfl⟩⟩)
    go_ret
    have hE : j = xB7 p s (s.size - k) k := by
     rw [← HE.out]
     cases hq : s.size - j with
     | zero => rfl
     | succ m => unfold xB7; rw [if_neg (by rw [HPJ.out]; simp)]
    rw [← hE]
    exact ⟨rfl, HB.out, HA.out.drewN nd⟩
   ·rw [hpj] at HC
    have HC' := Aside0.mk HC
    clear HC
    have HPJ := Aside0.mk hpj
    clear hpj
    go_wp2_with (go_at_fn g; refine (HC'.out _).mono ?_; rintro e w' ⟨rfl, ⟨nd, rfl⟩⟩)
    go_roundg (s.size - (j + 1))
    case rel => exact ⟨j + 1, by omega, by omega, Nat.le_refl _, ⟨(xBf (w := wr.drewN nd) HB.out 0 _).trans (by go_num)⟩, ⟨(HA.out.drewN nd).set 0 _⟩, ⟨by
     rw [← HE.out]
     obtain ⟨m, hm⟩ : ∃ m, s.size - j = m + 1 := ⟨s.size - j - 1, by omega⟩
     rw [hm, show s.size - (j + 1) = m by omega]
     conv => rhs; unfold xB7
     rw [if_pos ⟨hlt, HPJ.out⟩]⟩⟩
    case measure => omega
  ·have hd : decide ((j : Int) < (s.size : Int)) = false := by simpa using hlt
   have hd2 : decide (j < s.size) = false := by simpa using hlt
   go_wp2
   go_ret
   have hE : j = xB7 p s (s.size - k) k := by
    rw [← HE.out, show s.size - j = 0 by omega]
    rfl
   rw [← hE]
   exact ⟨rfl, HB.out, HA.out⟩

theorem xIf (c : Int) : xD2.f c = some (xC2 c) := by
 unfold xD2.f xC2
 split
 ·rename_i h; simp [show 97 ≤ c from h]
 ·rename_i h; simp [show ¬ 97 ≤ c from h]
theorem xFp (c : Int) : xCb.f c = some (xAx c) := by
 unfold xCb.f xAx
 split
 ·rename_i h; simp [show 48 ≤ c from h]
 ·rename_i h; simp [show ¬ 48 ≤ c from h]
theorem hex_some (c : Int) : xEp.f c = some (pHex c) := by
 unfold xEp.f pHex
 rw [xFp]
 simp only [Option.bind_some]
 split
 ·rename_i h; simp [h]
 ·rename_i h
  simp only [h, Bool.false_or]
  split
  ·rename_i h2; simp [show 97 ≤ c from h2]
  ·rename_i h2; simp [show ¬ 97 ≤ c from h2]
theorem xDu (c : Int) (w : World) : Calls Tryd.prog 62 #[.int .u8 c] w fun e w' => e = .returned (.bool (xC2 c)) ∧ Drawn0 w w' := xD2.calls c _ w (xIf c)
theorem xDv : xL7 64 xAx := fun c w => xCb.calls c _ w (xFp c)
theorem xKy : xL7 65 pHex := fun c w => xEp.calls c _ w (hex_some c)

set_option maxHeartbeats 1000000 in
theorem xJa : xL7 63 xC6 := by
 intro c w
 have HL := xDu c
 have HF := xDv c
 unfold xC6
 cases hl : xC2 c
 ·rw [hl] at HL
  cases hf : xAx c
  ·rw [hf] at HF
   have HL' := Aside0.mk HL
   have HF' := Aside0.mk HF
   clear HL HF hl hf
   go_enter Tryd.func63, Tryd.ntmps63
   go_wp2_with (first | (go_at_call 62; refine (HL'.out _).mono ?_; rintro e w' ⟨rfl, ⟨nd, rfl⟩⟩) | (go_at_call 64; refine (HF'.out _).mono ?_; rintro e w' ⟨rfl, ⟨nd2, rfl⟩⟩))
   go_ret
   exact ⟨by simp, by repeat (first | exact Drawn0.refl _ | apply Drawn0.step)⟩
  ·rw [hf] at HF
   have HL' := Aside0.mk HL
   have HF' := Aside0.mk HF
   clear HL HF hl hf
   go_enter Tryd.func63, Tryd.ntmps63
   go_wp2_with (first | (go_at_call 62; refine (HL'.out _).mono ?_; rintro e w' ⟨rfl, ⟨nd, rfl⟩⟩) | (go_at_call 64; refine (HF'.out _).mono ?_; rintro e w' ⟨rfl, ⟨nd2, rfl⟩⟩))
   go_ret
   exact ⟨by simp, by repeat (first | exact Drawn0.refl _ | apply Drawn0.step)⟩
 ·rw [hl] at HL
  have HL' := Aside0.mk HL
  clear HL HF hl
  go_enter Tryd.func63, Tryd.ntmps63
  go_wp2_with (first | (go_at_call 62; refine (HL'.out _).mono ?_; rintro e w' ⟨rfl, ⟨nd, rfl⟩⟩))
  go_ret
  exact ⟨by simp, by repeat (first | exact Drawn0.refl _ | apply Drawn0.step)⟩


set_option maxHeartbeats 1000000 in
theorem xGi (s : ByteArray) (k bk bs : Nat) (w : World) (hs : s.size ≤ 9223372036854775807)
  (hbk : w.heap[bk]? = some (.cells #[.int .i64 k] 3 (0, 0))) (hbs : w.heap[bs]? = some (.cells #[.string s] 9 (0, 0))) :
  Calls Tryd.prog 61 #[.pointer (some ⟨bk, 0, none⟩), .pointer (some ⟨bs, 0, none⟩)] w fun e w' => e = .returned (.bool (xEc s k)) ∧ Drawn0 w w' := by
 have hc1 : w.cell? ⟨bk, 0, none⟩ = some (.int .i64 k) := (xAb hbk 0).trans rfl
 have hc2 : w.cell? ⟨bs, 0, none⟩ = some (.string s) := (xAb hbs 0).trans rfl
 clear hbk hbs
 by_cases hlt : k < s.size
 ·have hd : decide ((k : Int) < (s.size : Int)) = true := by simpa using hlt
  have hd2 : decide (k < s.size) = true := by simpa using hlt
  have hb := xCn s k (by simpa using hlt)
  simp only [Int.toNat_natCast] at hb
  have HL := xDu (bt s k)
  unfold xEc
  rw [hd2]
  cases hl : xC2 (bt s k)
  ·rw [hl] at HL
   have HL' := Aside0.mk HL
   clear HL hl
   go_enter Tryd.func61, Tryd.ntmps61
   go_wp2_with (first | (go_at_call 62; refine (HL'.out _).mono ?_; rintro e w' ⟨rfl, ⟨nd, rfl⟩⟩))
   go_ret
   exact ⟨by simp, by repeat (first | exact Drawn0.refl _ | apply Drawn0.step)⟩
  ·rw [hl] at HL
   have HL' := Aside0.mk HL
   clear HL hl
   go_enter Tryd.func61, Tryd.ntmps61
   go_wp2_with (first | (go_at_call 62; refine (HL'.out _).mono ?_; rintro e w' ⟨rfl, ⟨nd, rfl⟩⟩))
   go_ret
   exact ⟨by simp, by repeat (first | exact Drawn0.refl _ | apply Drawn0.step)⟩
 ·have hd : decide ((k : Int) < (s.size : Int)) = false := by simpa using hlt
  have hd2 : decide (k < s.size) = false := by simpa using hlt
  unfold xEc
  rw [hd2]
  go_enter Tryd.func61, Tryd.ntmps61
  go_wp2
  go_ret
  exact ⟨by simp, by repeat (first | exact Drawn0.refl _ | apply Drawn0.step)⟩

def xCh (l : List Int) : Int := l.foldl (fun n b => 10 * mn n 1099511627776 + (b - 48)) 0

def xDi.f (a0 : ByteArray) (a1 : Int) : Option (Int × ByteArray × Int × Int × Int × Int × Int) :=
 if 0 ≤ a1 ∧ a1 < (a0.size : Int) ∧ a0.size ≤ 140737488351232 then
  if xC2 (bt a0 a1) = true then
   if a1.toNat + 16 < xB7 xC6 a0 (a0.size - a1.toNat) a1.toNat then some (0, a0.extract a1.toNat (xB7 xC6 a0 (a0.size - a1.toNat) a1.toNat), 0, a1, (xB7 xC6 a0 (a0.size - a1.toNat) a1.toNat : Nat), 102, a1)
   else some (0, a0.extract a1.toNat (xB7 xC6 a0 (a0.size - a1.toNat) a1.toNat), 0, a1, (xB7 xC6 a0 (a0.size - a1.toNat) a1.toNat : Nat), 0, -1)
  else if xAx (bt a0 a1) = true then
   if a1.toNat + 9 < xB7 xAx a0 (a0.size - a1.toNat) a1.toNat then some (1, ⟨#[]⟩, xCh (xAl (a0.extract a1.toNat (xB7 xAx a0 (a0.size - a1.toNat) a1.toNat))), a1, (xB7 xAx a0 (a0.size - a1.toNat) a1.toNat : Nat), 102, a1)
   else if xEc a0 (xB7 xAx a0 (a0.size - a1.toNat) a1.toNat) = true then some (1, ⟨#[]⟩, xCh (xAl (a0.extract a1.toNat (xB7 xAx a0 (a0.size - a1.toNat) a1.toNat))), a1, (xB7 xAx a0 (a0.size - a1.toNat) a1.toNat : Nat), 101, (xB7 xAx a0 (a0.size - a1.toNat) a1.toNat : Nat))
   else some (1, ⟨#[]⟩, xCh (xAl (a0.extract a1.toNat (xB7 xAx a0 (a0.size - a1.toNat) a1.toNat))), a1, (xB7 xAx a0 (a0.size - a1.toNat) a1.toNat : Nat), 0, -1)
  else if bt a0 a1 = 36 then
   if xB7 pHex a0 (a0.size - (a1.toNat + 1)) (a1.toNat + 1) = a1.toNat + 1 then some (2, ⟨#[]⟩, 0, a1, a1 + 1, 101, a1 + 1)
   else if a1.toNat + 129 < xB7 pHex a0 (a0.size - (a1.toNat + 1)) (a1.toNat + 1) then some (2, a0.extract (a1.toNat + 1) (xB7 pHex a0 (a0.size - (a1.toNat + 1)) (a1.toNat + 1)), 0, a1, (xB7 pHex a0 (a0.size - (a1.toNat + 1)) (a1.toNat + 1) : Nat), 102, a1)
   else if xEc a0 (xB7 pHex a0 (a0.size - (a1.toNat + 1)) (a1.toNat + 1)) = true then some (2, a0.extract (a1.toNat + 1) (xB7 pHex a0 (a0.size - (a1.toNat + 1)) (a1.toNat + 1)), 0, a1, (xB7 pHex a0 (a0.size - (a1.toNat + 1)) (a1.toNat + 1) : Nat), 101, (xB7 pHex a0 (a0.size - (a1.toNat + 1)) (a1.toNat + 1) : Nat))
   else some (2, a0.extract (a1.toNat + 1) (xB7 pHex a0 (a0.size - (a1.toNat + 1)) (a1.toNat + 1)), 0, a1, (xB7 pHex a0 (a0.size - (a1.toNat + 1)) (a1.toNat + 1) : Nat), 0, -1)
  else if bt a0 a1 = 40 ∨ bt a0 a1 = 41 ∨ bt a0 a1 = 44 ∨ bt a0 a1 = 61 ∨ bt a0 a1 = 59 then some (3, a0.extract a1.toNat (a1.toNat + 1), 0, a1, a1 + 1, 0, -1)
  else some (3, ⟨#[]⟩, 0, a1, a1, 101, a1)
 else none


theorem xCq (w : World) (a b c : Obj) : (((w.alloc a).alloc b).alloc c).heap[w.heap.size]? = some a :=
 (xA4 (xA4 (xBn w a) b) c)
theorem xCl (w : World) (a b c : Obj) : (((w.alloc a).alloc b).alloc c).heap[w.heap.size + 1]? = some b := by
 have h := xA4 (xBn (w.alloc a) b) c
 rwa [World.size_alloc] at h
theorem xCk (w : World) (a b c : Obj) : (((w.alloc a).alloc b).alloc c).heap[w.heap.size + 1 + 1]? = some c := by
 have h := xBn ((w.alloc a).alloc b) c
 rwa [World.size_alloc, World.size_alloc] at h
theorem xBv (w : World) (a b c : Obj) : Below w.heap.size w (((w.alloc a).alloc b).alloc c) := xA1 (xA1 (xA1 (Below.refl _ _) _) _) _

/-- take, its result and the place behind it under names. -/
theorem xEl (g : Nat) (p : Int → Bool) (eg : Enters Tryd.prog g) (hp : xL7 g p) (s : ByteArray) (k : Nat) (S : ByteArray) (K : Nat) (hK : xB7 p s (s.size - k) k = K) (hS : s.extract k K = S) (bk bs : Nat) (w : World) (hk : k ≤ s.size) (hs : s.size ≤ 9223372036854775807)
  (hbk : w.heap[bk]? = some (.cells #[.int .i64 k] 3 (0, 0))) (hbs : w.heap[bs]? = some (.cells #[.string s] 9 (0, 0))) :
  Calls Tryd.prog 60 #[.func (.func g) #[] #[], .pointer (some ⟨bk, 0, none⟩), .pointer (some ⟨bs, 0, none⟩)] w fun e w' =>
   e = .returned (.string S) ∧ Aside0 (w'.heap[bk]? = some (.cells #[.int .i64 K] 3 (0, 0))) ∧ Aside0 (Alone w w' bk) := by
 refine (xJb g p eg hp s k bk bs w hk hs hbk hbs).mono ?_
 rintro e w' ⟨rfl, h1, h2⟩
 subst hK hS
 exact ⟨rfl, ⟨h1⟩, ⟨h2⟩⟩

theorem xKa (tmps : Array Value) (w : World) (t k : Nat) (a b c d : Value) (K : Int) (h4 : (tmps[4]?).getD undef = .pointer (some ⟨t, 0, none⟩)) (h5 : (tmps[5]?).getD undef = .pointer (some ⟨k, 0, none⟩))
  (ht : w.heap[t]? = some (.cells #[a, b, c, d] 60 (0, 0))) (hk : w.heap[k]? = some (.cells #[.int .i64 K] 3 (0, 0))) :
  (results Tryd.f29 tmps).run Tryd.prog w = .ok (.tuple #[.agg #[a, b, c, d], .int .i64 K, (tmps[6]?).getD undef, (tmps[7]?).getD undef]) w := by
 have hc : w.cell? ⟨k, 0, none⟩ = some (.int .i64 K) := (xAb hk 0).trans rfl
 have h0 : w.cell? ⟨t, 0, none⟩ = some a := (xAb ht 0).trans rfl
 have h1 : w.cell? ⟨t, 1, none⟩ = some b := (xAb ht 1).trans rfl
 have h2 : w.cell? ⟨t, 2, none⟩ = some c := (xAb ht 2).trans rfl
 have h3 : w.cell? ⟨t, 3, none⟩ = some d := (xAb ht 3).trans rfl
 simp [results, Tryd.results29, go_sem, h4, h5, hc, h0, h1, h2, h3]

/-- What holds behind the switch. -/
def OneMid (w : World) (r1 : Int) (r2 : ByteArray) (r3 r4 r5 : Int) (wc : World) : Prop :=
 wc.heap[w.heap.size + 1]? = some (.cells #[.int .i64 r1, .string r2, .int .i64 r3, .int .i64 r4] 60 (0, 0)) ∧ wc.heap[w.heap.size + 1 + 1]? = some (.cells #[.int .i64 r5] 3 (0, 0)) ∧ Below w.heap.size w wc

theorem xJw (s : ByteArray) (i K j : Nat) (hK : K ≤ s.size) (hj : i + j < K) : bt (s.extract i K) j = bt s ((i + j : Nat) : Int) := by
 unfold bt
 simp only [Int.toNat_natCast]
 have h1 : j < (s.extract i K).size := by rw [ByteArray.size_extract]; omega
 have h2 : i + j < s.size := by omega
 rw [dif_pos h1, dif_pos h2]
 congr 2
 exact ByteArray.getElem_extract ..
theorem xDd.far_ {w : World} {k : IntKind} {n g : Nat} {xs : List Int} (h : xDd w k (some ⟨g, 0, none⟩) n xs) {p : Addr} (hne : g ≠ p.block) (v : Value) : xDd (w.setCell p v) k (some ⟨g, 0, none⟩) n xs :=
 ⟨h.1, h.2.1, fun hn => by
  obtain ⟨ad, e, hc⟩ := h.2.2 hn
  injection e with e
  subst e
  refine ⟨_, rfl, fun j hj => ?_⟩
  have := hc j hj
  rw [xEh] at this ⊢
  exact (World.cell?_setCell_other _ _ _ _ (fun e => hne (by rw [e]))).trans this⟩
theorem xHt (l : List Int) (h : ∀ x ∈ l, 48 ≤ x ∧ x ≤ 57) : 0 ≤ xCh l ∧ xCh l ≤ 10995116277769 := by
 unfold xCh
 suffices H : ∀ (l : List Int) (n : Int), (∀ x ∈ l, 48 ≤ x ∧ x ≤ 57) → 0 ≤ n → n ≤ 10995116277769 → 0 ≤ l.foldl (fun n b => 10 * mn n 1099511627776 + (b - 48)) n ∧ l.foldl (fun n b => 10 * mn n 1099511627776 + (b - 48)) n ≤ 10995116277769 from H l 0 h (by omega) (by omega)
 intro l
 induction l with
 | nil => intro n _ h0 h1; exact ⟨h0, h1⟩
 | cons x l ih =>
  intro n hx h0 h1
  have hx0 := hx x List.mem_cons_self
  rw [List.foldl_cons]
  refine ih _ (fun y hy => hx y (List.mem_cons_of_mem _ hy)) ?_ ?_
  ·unfold mn; split <;> omega
  ·unfold mn; split <;> omega
theorem xFn (l : List Int) (b : Int) : xCh (l ++ [b]) = 10 * mn (xCh l) 1099511627776 + (b - 48) := by
 unfold xCh
 rw [List.foldl_append]
 rfl

set_option maxHeartbeats 4000000 in
set_option maxRecDepth 100000 in
theorem xDi.calls (a0 : ByteArray) (a1 : Int) (r1 : Int) (r2 : ByteArray) (r3 : Int) (r4 : Int) (r5 : Int) (r6 : Int) (r7 : Int) (w : World) (h : xDi.f a0 a1 = some (r1, r2, r3, r4, r5, r6, r7)) :
  Calls Tryd.prog 29 #[.string a0, .int .i64 a1] w fun e w' => e = .returned (.tuple #[.agg #[.int .i64 r1, .string r2, .int .i64 r3, .int .i64 r4], .int .i64 r5, .int .i64 r6, .int .i64 r7]) ∧ Below w.heap.size w w' := by
 have H0 := h
 clear h
 unfold xDi.f at H0
 split at H0
 case isFalse => exact absurd H0 (by simp)
 case isTrue hg =>
 obtain ⟨hi0, hi1, hs⟩ := hg
 obtain ⟨i, rfl⟩ := Int.eq_ofNat_of_zero_le hi0
 simp only [Int.toNat_natCast] at H0
 have hi : i < a0.size := by omega
 have H := Aside0.mk H0
 clear H0 hi0 hi1
 have hb := xCn a0 i (by simpa using hi)
 simp only [Int.toNat_natCast] at hb
 have hd : decide ((i : Int) < (a0.size : Int)) = true := by simpa using hi
 have hu60 := Tryd.underlying60
 have HL := xDu (bt a0 i)
 have HF := xDv (bt a0 i)
 have HL' := Aside0.mk HL
 have HF' := Aside0.mk HF
 clear HL HF
 go_enter Tryd.func29, Tryd.ntmps29
 go_upto_block 0 with (fail)
 go_cut [6, 7] (fun v6 v7 wc => v6 = .int .i64 r6 ∧ v7 = .int .i64 r7 ∧ Aside0 (OneMid w r1 r2 r3 r4 r5 wc))
 case first =>
  cases hl : xC2 (bt a0 i)
  ·rw [hl] at HL' H
   simp only [Bool.false_eq_true, if_false] at H
   clear hl
   cases hf : xAx (bt a0 i)
   ·rw [hf] at HF' H
    simp only [Bool.false_eq_true, if_false] at H
    clear hf
    by_cases h36 : bt a0 i = 36
    ·have hq36 : (bt a0 i == 36) = true := by simpa using h36
     rw [if_pos h36] at H
     clear h36
     generalize hK : xB7 pHex a0 (a0.size - (i + 1)) (i + 1) = K at H
     generalize hS : a0.extract (i + 1) K = S at H
     have hKs : i + 1 ≤ K ∧ K ≤ a0.size := by have := xD7 pHex a0 (a0.size - (i + 1)) (i + 1) (by omega); omega
     obtain ⟨hK1, hK2⟩ := hKs
     have hSz : S.size = K - (i + 1) := by rw [← hS, ByteArray.size_extract]; omega
     have HT := xEl 65 pHex (enters_of Tryd.func65 (by kernel_rfl) rfl) xKy a0 (i + 1) S K hK hS
     have HT' := Aside0.mk HT
     have HSz := Aside0.mk hSz
     clear HT hS hK hSz
     have hfk : ∀ (W : World) (x y z : Value), True := fun _ _ _ _ => trivial
     clear hfk
     by_cases hem : K = i + 1
     ·have hS0 : S = ⟨#[]⟩ := by
       have h0 : S.size = 0 := by rw [HSz.out, hem]; omega
       cases S with | mk d => simp only [ByteArray.size] at h0; rw [Array.eq_empty_of_size_eq_zero h0]
      have hr6 := H.out
      rw [if_pos hem] at hr6
      simp only [Option.some.injEq, Prod.mk.injEq] at hr6
      obtain ⟨rfl, rfl, rfl, rfl, rfl, rfl, rfl⟩ := hr6
      clear H HSz
      subst hS0
      have HKe := Aside0.mk hem
      clear hem
      go_wp2_with (first | (go_at_call 62; refine (HL'.out _).mono ?_; rintro e w' ⟨rfl, ⟨nd, rfl⟩⟩) | (go_at_call 64; refine (HF'.out _).mono ?_; rintro e w' ⟨rfl, ⟨nd2, rfl⟩⟩) | (go_at_call 60; refine (HT'.out _ _ _ (by omega) (by omega) ((xBf (xAk (xA5 (xCk _ _ _ _) _) (by dsimp only; omega) _) 0 _).trans (by go_num)) (xAk (xAk (xA5 (xCq _ _ _ _) _) (by dsimp only; omega) _) (by dsimp only; omega) _)).mono ?_; rintro e w1 ⟨rfl, HK1, HA1⟩; have HT1 := Aside0.mk (HA1.out.blk (xAk (xBf (xA5 (xCl _ _ _ _) _) 0 _) (by dsimp only; omega) _) (by omega)); have HS1 := Aside0.mk (HA1.out.blk (xAk (xAk (xA5 (xCq _ _ _ _) _) (by dsimp only; omega) _) (by dsimp only; omega) _) (by omega)); have HB1 := Aside0.mk ((((xA0 (xBv _ _ _ _) _).setCell (p := ⟨w.heap.size + 1, 0, none⟩) (by dsimp only; omega) _).setCell (p := ⟨w.heap.size + 1 + 1, 0, none⟩) (by dsimp only; omega) _).trans (HA1.out.os _ (by omega))); have hc1 := (xAb HT1.out 1).trans rfl; have hf1 := xAr HT1.out 1; have hck := (xAb HK1.out 0).trans rfl) | (go_at_call 61; refine (HG'.out _ (xAk HK1.out (by dsimp only; omega) _) (xAk HS1.out (by dsimp only; omega) _)).mono ?_; rintro e w' ⟨rfl, ⟨nd3, rfl⟩⟩))
      go_quiet (fail)
      go_wp2
      go_meet
      case rel => exact ⟨rfl, by rw [HKe.out]; go_num, ⟨xA5 (xBf HT1.out 1 _) _, (xA5 (xAk HK1.out (by dsimp only; omega) _) _).trans (by rw [HKe.out]; go_num), xA0 (HB1.out.setCell (by dsimp only; omega) _) _⟩⟩
     ·have hne : ¬ S.toList = [] := by
       intro h0
       rw [ByteArray.toList_eq] at h0
       have h1 := congrArg List.length h0
       rw [Array.length_toList] at h1
       have h2 : S.size = 0 := h1
       rw [HSz.out] at h2
       omega
      have hne2 : S.toList.isEmpty = false := by simpa using hne
      have hr6 := H.out
      rw [if_neg hem] at hr6
      by_cases hlong : i + 129 < K
      ·have hl1 : decide ((128 : Int) < (S.size : Int)) = true := by rw [HSz.out]; simp; omega
       have hl2 : decide (128 < S.size) = true := by rw [HSz.out]; simp; omega
       rw [if_pos hlong] at hr6
       simp only [Option.some.injEq, Prod.mk.injEq] at hr6
       obtain ⟨rfl, rfl, rfl, rfl, rfl, rfl, rfl⟩ := hr6
       clear H
       go_wp2_with (first | (go_at_call 62; refine (HL'.out _).mono ?_; rintro e w' ⟨rfl, ⟨nd, rfl⟩⟩) | (go_at_call 64; refine (HF'.out _).mono ?_; rintro e w' ⟨rfl, ⟨nd2, rfl⟩⟩) | (go_at_call 60; refine (HT'.out _ _ _ (by omega) (by omega) ((xBf (xAk (xA5 (xCk _ _ _ _) _) (by dsimp only; omega) _) 0 _).trans (by go_num)) (xAk (xAk (xA5 (xCq _ _ _ _) _) (by dsimp only; omega) _) (by dsimp only; omega) _)).mono ?_; rintro e w1 ⟨rfl, HK1, HA1⟩; have HT1 := Aside0.mk (HA1.out.blk (xAk (xBf (xA5 (xCl _ _ _ _) _) 0 _) (by dsimp only; omega) _) (by omega)); have HS1 := Aside0.mk (HA1.out.blk (xAk (xAk (xA5 (xCq _ _ _ _) _) (by dsimp only; omega) _) (by dsimp only; omega) _) (by omega)); have HB1 := Aside0.mk ((((xA0 (xBv _ _ _ _) _).setCell (p := ⟨w.heap.size + 1, 0, none⟩) (by dsimp only; omega) _).setCell (p := ⟨w.heap.size + 1 + 1, 0, none⟩) (by dsimp only; omega) _).trans (HA1.out.os _ (by omega))); have hc1 := (xAb HT1.out 1).trans rfl; have hf1 := xAr HT1.out 1; have hck := (xAb HK1.out 0).trans rfl) | (go_at_call 61; refine (HG'.out _ (xAk HK1.out (by dsimp only; omega) _) (xAk HS1.out (by dsimp only; omega) _)).mono ?_; rintro e w' ⟨rfl, ⟨nd3, rfl⟩⟩))
       go_meet
       case rel => exact ⟨rfl, rfl, ⟨xBf HT1.out 1 _, xAk HK1.out (by dsimp only; omega) _, HB1.out.setCell (by dsimp only; omega) _⟩⟩
      ·have hl1 : decide ((128 : Int) < (S.size : Int)) = false := by rw [HSz.out]; simp; omega
       have hl2 : decide (128 < S.size) = false := by rw [HSz.out]; simp; omega
       rw [if_neg hlong] at hr6
       have HG := fun W h1 h2 => xGi a0 K (w.heap.size + 1 + 1) w.heap.size W (by omega) h1 h2
       cases hgo : xEc a0 K
       ·rw [hgo] at HG hr6
        simp only [Bool.false_eq_true, if_false, Option.some.injEq, Prod.mk.injEq] at hr6
        obtain ⟨rfl, rfl, rfl, rfl, rfl, rfl, rfl⟩ := hr6
        have HG' := Aside0.mk HG
        clear H hgo HG
        go_wp2_with (first | (go_at_call 62; refine (HL'.out _).mono ?_; rintro e w' ⟨rfl, ⟨nd, rfl⟩⟩) | (go_at_call 64; refine (HF'.out _).mono ?_; rintro e w' ⟨rfl, ⟨nd2, rfl⟩⟩) | (go_at_call 60; refine (HT'.out _ _ _ (by omega) (by omega) ((xBf (xAk (xA5 (xCk _ _ _ _) _) (by dsimp only; omega) _) 0 _).trans (by go_num)) (xAk (xAk (xA5 (xCq _ _ _ _) _) (by dsimp only; omega) _) (by dsimp only; omega) _)).mono ?_; rintro e w1 ⟨rfl, HK1, HA1⟩; have HT1 := Aside0.mk (HA1.out.blk (xAk (xBf (xA5 (xCl _ _ _ _) _) 0 _) (by dsimp only; omega) _) (by omega)); have HS1 := Aside0.mk (HA1.out.blk (xAk (xAk (xA5 (xCq _ _ _ _) _) (by dsimp only; omega) _) (by dsimp only; omega) _) (by omega)); have HB1 := Aside0.mk ((((xA0 (xBv _ _ _ _) _).setCell (p := ⟨w.heap.size + 1, 0, none⟩) (by dsimp only; omega) _).setCell (p := ⟨w.heap.size + 1 + 1, 0, none⟩) (by dsimp only; omega) _).trans (HA1.out.os _ (by omega))); have hc1 := (xAb HT1.out 1).trans rfl; have hf1 := xAr HT1.out 1; have hck := (xAb HK1.out 0).trans rfl) | (go_at_call 61; refine (HG'.out _ (xAk HK1.out (by dsimp only; omega) _) (xAk HS1.out (by dsimp only; omega) _)).mono ?_; rintro e w' ⟨rfl, ⟨nd3, rfl⟩⟩))
        go_meet
        case rel => exact ⟨rfl, rfl, ⟨xA5 (xBf HT1.out 1 _) _, xA5 (xAk HK1.out (by dsimp only; omega) _) _, xA0 (HB1.out.setCell (by dsimp only; omega) _) _⟩⟩
       ·rw [hgo] at HG hr6
        simp only [if_true, Option.some.injEq, Prod.mk.injEq] at hr6
        obtain ⟨rfl, rfl, rfl, rfl, rfl, rfl, rfl⟩ := hr6
        have HG' := Aside0.mk HG
        clear H hgo HG
        go_wp2_with (first | (go_at_call 62; refine (HL'.out _).mono ?_; rintro e w' ⟨rfl, ⟨nd, rfl⟩⟩) | (go_at_call 64; refine (HF'.out _).mono ?_; rintro e w' ⟨rfl, ⟨nd2, rfl⟩⟩) | (go_at_call 60; refine (HT'.out _ _ _ (by omega) (by omega) ((xBf (xAk (xA5 (xCk _ _ _ _) _) (by dsimp only; omega) _) 0 _).trans (by go_num)) (xAk (xAk (xA5 (xCq _ _ _ _) _) (by dsimp only; omega) _) (by dsimp only; omega) _)).mono ?_; rintro e w1 ⟨rfl, HK1, HA1⟩; have HT1 := Aside0.mk (HA1.out.blk (xAk (xBf (xA5 (xCl _ _ _ _) _) 0 _) (by dsimp only; omega) _) (by omega)); have HS1 := Aside0.mk (HA1.out.blk (xAk (xAk (xA5 (xCq _ _ _ _) _) (by dsimp only; omega) _) (by dsimp only; omega) _) (by omega)); have HB1 := Aside0.mk ((((xA0 (xBv _ _ _ _) _).setCell (p := ⟨w.heap.size + 1, 0, none⟩) (by dsimp only; omega) _).setCell (p := ⟨w.heap.size + 1 + 1, 0, none⟩) (by dsimp only; omega) _).trans (HA1.out.os _ (by omega))); have hc1 := (xAb HT1.out 1).trans rfl; have hf1 := xAr HT1.out 1; have hck := (xAb HK1.out 0).trans rfl) | (go_at_call 61; refine (HG'.out _ (xAk HK1.out (by dsimp only; omega) _) (xAk HS1.out (by dsimp only; omega) _)).mono ?_; rintro e w' ⟨rfl, ⟨nd3, rfl⟩⟩))
        go_quiet (fail)
        go_wp2
        go_meet
        case rel => exact ⟨rfl, rfl, ⟨xA5 (xA5 (xBf HT1.out 1 _) _) _, xA5 (xA5 (xAk HK1.out (by dsimp only; omega) _) _) _, xA0 (xA0 (HB1.out.setCell (by dsimp only; omega) _) _) _⟩⟩
    ·have hq36 : (bt a0 i == 36) = false := by simpa using h36
     rw [if_neg h36] at H
     clear h36
     by_cases hsg : bt a0 i = 40 ∨ bt a0 i = 41 ∨ bt a0 i = 44 ∨ bt a0 i = 61 ∨ bt a0 i = 59
     ·have hr6 := H.out
      rw [if_pos hsg] at hr6
      simp only [Option.some.injEq, Prod.mk.injEq] at hr6
      obtain ⟨rfl, rfl, rfl, rfl, rfl, rfl, rfl⟩ := hr6
      clear H
      have hsl : ∀ W : World, (Instr.slice 9 (.string a0) (some (.int .i64 i)) (some (.int .i64 ((i : Int) + 1))) none).run Tryd.prog W = .ok (.string (a0.extract i (i + 1))) W := by
       intro W
       have h := run_slice_string (P := Tryd.prog) (w := W) 9 a0 .i64 .i64 (i : Int) ((i : Int) + 1) Tryd.underlying9 (by omega) (by omega) (by omega)
       rw [h, show ((i : Int) + 1).toNat = i + 1 by omega, Int.toNat_natCast]
      rcases hsg with g | g | g | g | g
      ·have q40 : (bt a0 i == 40) = true := by rw [g]; rfl
       clear g
       go_wp2_with (first | (go_at_call 62; refine (HL'.out _).mono ?_; rintro e w' ⟨rfl, ⟨nd, rfl⟩⟩) | (go_at_call 64; refine (HF'.out _).mono ?_; rintro e w' ⟨rfl, ⟨nd2, rfl⟩⟩))
       go_meet
       case rel => exact ⟨rfl, rfl, ⟨xAk (xBf (xBf (xA5 (xCl _ _ _ _) _) 0 _) 1 _) (by dsimp only; omega) _, xBf (xAk (xAk (xA5 (xCk _ _ _ _) _) (by dsimp only; omega) _) (by dsimp only; omega) _) 0 _, (((xA0 (xBv _ _ _ _) _).setCell (by dsimp only; omega) _).setCell (by dsimp only; omega) _).setCell (by dsimp only; omega) _⟩⟩
      ·have q40 : (bt a0 i == 40) = false := by rw [g]; rfl
       have q41 : (bt a0 i == 41) = true := by rw [g]; rfl
       clear g
       go_wp2_with (first | (go_at_call 62; refine (HL'.out _).mono ?_; rintro e w' ⟨rfl, ⟨nd, rfl⟩⟩) | (go_at_call 64; refine (HF'.out _).mono ?_; rintro e w' ⟨rfl, ⟨nd2, rfl⟩⟩))
       go_meet
       case rel => exact ⟨rfl, rfl, ⟨xAk (xBf (xBf (xA5 (xCl _ _ _ _) _) 0 _) 1 _) (by dsimp only; omega) _, xBf (xAk (xAk (xA5 (xCk _ _ _ _) _) (by dsimp only; omega) _) (by dsimp only; omega) _) 0 _, (((xA0 (xBv _ _ _ _) _).setCell (by dsimp only; omega) _).setCell (by dsimp only; omega) _).setCell (by dsimp only; omega) _⟩⟩
      ·have q40 : (bt a0 i == 40) = false := by rw [g]; rfl
       have q41 : (bt a0 i == 41) = false := by rw [g]; rfl
       have q44 : (bt a0 i == 44) = true := by rw [g]; rfl
       clear g
       go_wp2_with (first | (go_at_call 62; refine (HL'.out _).mono ?_; rintro e w' ⟨rfl, ⟨nd, rfl⟩⟩) | (go_at_call 64; refine (HF'.out _).mono ?_; rintro e w' ⟨rfl, ⟨nd2, rfl⟩⟩))
       go_meet
       case rel => exact ⟨rfl, rfl, ⟨xAk (xBf (xBf (xA5 (xCl _ _ _ _) _) 0 _) 1 _) (by dsimp only; omega) _, xBf (xAk (xAk (xA5 (xCk _ _ _ _) _) (by dsimp only; omega) _) (by dsimp only; omega) _) 0 _, (((xA0 (xBv _ _ _ _) _).setCell (by dsimp only; omega) _).setCell (by dsimp only; omega) _).setCell (by dsimp only; omega) _⟩⟩
      ·have q40 : (bt a0 i == 40) = false := by rw [g]; rfl
       have q41 : (bt a0 i == 41) = false := by rw [g]; rfl
       have q44 : (bt a0 i == 44) = false := by rw [g]; rfl
       have q61 : (bt a0 i == 61) = true := by rw [g]; rfl
       clear g
       go_wp2_with (first | (go_at_call 62; refine (HL'.out _).mono ?_; rintro e w' ⟨rfl, ⟨nd, rfl⟩⟩) | (go_at_call 64; refine (HF'.out _).mono ?_; rintro e w' ⟨rfl, ⟨nd2, rfl⟩⟩))
       go_meet
       case rel => exact ⟨rfl, rfl, ⟨xAk (xBf (xBf (xA5 (xCl _ _ _ _) _) 0 _) 1 _) (by dsimp only; omega) _, xBf (xAk (xAk (xA5 (xCk _ _ _ _) _) (by dsimp only; omega) _) (by dsimp only; omega) _) 0 _, (((xA0 (xBv _ _ _ _) _).setCell (by dsimp only; omega) _).setCell (by dsimp only; omega) _).setCell (by dsimp only; omega) _⟩⟩
      ·have q40 : (bt a0 i == 40) = false := by rw [g]; rfl
       have q41 : (bt a0 i == 41) = false := by rw [g]; rfl
       have q44 : (bt a0 i == 44) = false := by rw [g]; rfl
       have q61 : (bt a0 i == 61) = false := by rw [g]; rfl
       have q59 : (bt a0 i == 59) = true := by rw [g]; rfl
       clear g
       go_wp2_with (first | (go_at_call 62; refine (HL'.out _).mono ?_; rintro e w' ⟨rfl, ⟨nd, rfl⟩⟩) | (go_at_call 64; refine (HF'.out _).mono ?_; rintro e w' ⟨rfl, ⟨nd2, rfl⟩⟩))
       go_meet
       case rel => exact ⟨rfl, rfl, ⟨xAk (xBf (xBf (xA5 (xCl _ _ _ _) _) 0 _) 1 _) (by dsimp only; omega) _, xBf (xAk (xAk (xA5 (xCk _ _ _ _) _) (by dsimp only; omega) _) (by dsimp only; omega) _) 0 _, (((xA0 (xBv _ _ _ _) _).setCell (by dsimp only; omega) _).setCell (by dsimp only; omega) _).setCell (by dsimp only; omega) _⟩⟩
     ·have hr6 := H.out
      rw [if_neg hsg] at hr6
      simp only [Option.some.injEq, Prod.mk.injEq] at hr6
      obtain ⟨rfl, rfl, rfl, rfl, rfl, rfl, rfl⟩ := hr6
      clear H
      simp only [not_or] at hsg
      obtain ⟨g1, g2, g3, g4, g5⟩ := hsg
      have q1 : (bt a0 i == 40) = false := by simpa using g1
      have q2 : (bt a0 i == 41) = false := by simpa using g2
      have q3 : (bt a0 i == 44) = false := by simpa using g3
      have q4 : (bt a0 i == 61) = false := by simpa using g4
      have q5 : (bt a0 i == 59) = false := by simpa using g5
      clear g1 g2 g3 g4 g5
      go_wp2_with (first | (go_at_call 62; refine (HL'.out _).mono ?_; rintro e w' ⟨rfl, ⟨nd, rfl⟩⟩) | (go_at_call 64; refine (HF'.out _).mono ?_; rintro e w' ⟨rfl, ⟨nd2, rfl⟩⟩))
      go_meet
      case rel => exact ⟨rfl, rfl, ⟨xBf (xA5 (xCl _ _ _ _) _) 0 _, xAk (xA5 (xCk _ _ _ _) _) (by dsimp only; omega) _, (xA0 (xBv _ _ _ _) _).setCell (by dsimp only; omega) _⟩⟩
   ·rw [hf] at HF' H
    simp only [if_true] at H
    clear hf
    have hall := xDk xAx a0 (a0.size - i) i
    generalize hK : xB7 xAx a0 (a0.size - i) i = K at H hall
    have hKs : i ≤ K ∧ K ≤ a0.size := by have := xD7 xAx a0 (a0.size - i) i (by omega); omega
    have hdig : ∀ j, j < (a0.extract i K).size → 48 ≤ bt (a0.extract i K) j ∧ bt (a0.extract i K) j ≤ 57 := by
     intro j hj
     rw [ByteArray.size_extract] at hj
     rw [xJw a0 i K j hKs.2 (by omega)]
     have := hall (i + j) (by omega) (by omega)
     simpa [xAx] using this
    clear hall
    generalize hS : a0.extract i K = S at H hdig
    obtain ⟨hK1, hK2⟩ := hKs
    have hSz : S.size = K - i := by rw [← hS, ByteArray.size_extract]; omega
    have HT := xEl 64 xAx (enters_of Tryd.func64 (by kernel_rfl) rfl) xDv a0 i S K hK hS
    have HT' := Aside0.mk HT
    have HSz := Aside0.mk hSz
    have HD := Aside0.mk hdig
    have hS9 : S.size ≤ 140737488351232 := by omega
    clear HT hS hK hSz hdig
    have kc := xFi (P := Tryd.prog) 9 50 5 Tryd.underlying9 Tryd.underlying50 Tryd.underlying5 S
    go_wp2_with (first | (go_at_call 62; refine (HL'.out _).mono ?_; rintro e w' ⟨rfl, ⟨nd, rfl⟩⟩) | (go_at_call 64; refine (HF'.out _).mono ?_; rintro e w' ⟨rfl, ⟨nd2, rfl⟩⟩) | (go_at_call 60; refine (HT'.out _ _ _ (by omega) (by omega) (xAk (xA5 (xCk _ _ _ _) _) (by simp) _) (xAk (xA5 (xCq _ _ _ _) _) (by simp) _)).mono ?_; rintro e w1 ⟨rfl, HK1, HA1⟩; have HT1 := Aside0.mk (HA1.out.blk (xBf (xA5 (xCl _ _ _ _) _) 0 _) (by omega)); have HB1 := Aside0.mk (((xA0 (xBv _ _ _ _) _).setCell (p := ⟨w.heap.size + 1, 0, none⟩) (by simp) _).trans (HA1.out.os _ (by omega)))))
    have HS1 := Aside0.mk (HA1.out.blk (xAk (xA5 (xCq _ _ _ _) _) (by simp) _) (by omega))
    have hsz1 : w.heap.size + 1 + 1 < w1.heap.size := xBx HK1.out
    have HR1 := Aside0.mk (xIk w1 5 S (by omega))
    clear kc HT' HA1
    go_loopg [58] S.size (fun kx v58 wr => ∃ j : Nat, j ≤ S.size ∧ S.size - j ≤ kx ∧ v58 = .int .i64 j ∧ Aside0 (OneMid w 1 ⟨#[]⟩ (xCh ((xAl S).take j)) i K wr) ∧ Aside0 (xDd wr .u8 (some ⟨w1.heap.size, 0, none⟩) S.size (xAl S)) ∧ Aside0 (wr.heap[w.heap.size]? = some (.cells #[.string a0] 9 (0, 0))))
    case atStart => exact ⟨0, Nat.zero_le _, Nat.le_refl _, rfl, ⟨⟨(Lib.bytesWorld_at_old _ _ _ _ (by omega)).trans HT1.out, (Lib.bytesWorld_at_old _ _ _ _ (by omega)).trans HK1.out, xIl HB1.out (by omega) _ _⟩⟩, HR1, ⟨(Lib.bytesWorld_at_old _ _ _ _ (by omega)).trans HS1.out⟩⟩
    case round =>
     obtain ⟨j, hj, hgj, rfl, HM, HR, HS0⟩ := hrel
     clear HL' HF'
     by_cases hlt : j < S.size
     ·have hlt1 : decide ((j : Int) < (S.size : Int)) = true := by simpa using hlt
      have hlt2 : decide (j < S.size) = true := by simpa using hlt
      have hcb : wr.cell? ⟨w1.heap.size, j, none⟩ = some (.int .u8 (bt S j)) := by
       obtain ⟨ad, e1, hc⟩ := HR.out.at_ j (by omega) (by omega)
       injection e1 with e1
       subst e1
       rw [Int.toNat_natCast, xEh, xG9] at hc
       exact hc
      obtain ⟨hb1, hb2⟩ := HD.out j hlt
      have hsn := xFn ((xAl S).take j) (bt S j)
      rw [← xHz S j hlt] at hsn
      have hN := xHt ((xAl S).take j) (by
       intro x hx
       obtain ⟨q, hq, rfl⟩ := List.mem_iff_getElem.1 (List.mem_of_mem_take hx)
       have hq' : q < S.size := by rw [xAz] at hq; exact hq
       have := xD8 S q hq'
       rw [List.getElem?_eq_getElem hq] at this
       injection this with this
       rw [this]
       exact HD.out q hq')
      have HSN := Aside0.mk hsn
      clear hsn
      generalize xCh ((xAl S).take j) = N at HM HSN hN
      generalize bt S j = b at hcb hb1 hb2 HSN
      obtain ⟨hN1, hN2⟩ := hN
      have hcN : wr.cell? ⟨w.heap.size + 1, 2, none⟩ = some (.int .i64 N) := (xAb HM.out.1 2).trans rfl
      have hfN : wr.frozen? ⟨w.heap.size + 1, 2, none⟩ = false := xAr HM.out.1 2
      go_wp2
      all_goals
       go_roundg (S.size - (j + 1))
       case rel => exact ⟨j + 1, by omega, Nat.le_refl _, by go_num, ⟨(xBf HM.out.1 2 _).trans (by rw [HSN.out]; unfold mn; first | (rw [if_neg (by omega)]; rfl) | (rw [if_pos (by omega)]; rfl)), xAk HM.out.2.1 (by simp) _, HM.out.2.2.setCell (by simp) _⟩, ⟨xDd.far_ HR.out (by simp; omega) _⟩, ⟨xAk HS0.out (by simp) _⟩⟩
       case measure => omega
     ·have hlt1 : decide ((j : Int) < (S.size : Int)) = false := by simpa using hlt
      have hlt2 : decide (j < S.size) = false := by simpa using hlt
      obtain rfl : j = S.size := by omega
      have hfull : (xAl S).take S.size = xAl S := List.take_of_length_le (by rw [xAz]; exact Nat.le_refl _)
      rw [hfull] at HM
      clear hfull
      generalize xCh (xAl S) = N at HM H
      have hck : wr.cell? ⟨w.heap.size + 1 + 1, 0, none⟩ = some (.int .i64 K) := (xAb HM.out.2.1 0).trans rfl
      by_cases hlong : i + 9 < K
      ·have hq : decide ((9 : Int) < (K : Int) - (i : Int)) = true := by simp; omega
       have hr6 := H.out
       rw [if_pos hlong] at hr6
       simp only [Option.some.injEq, Prod.mk.injEq] at hr6
       obtain ⟨rfl, rfl, rfl, rfl, rfl, rfl, rfl⟩ := hr6
       clear H
       go_wp2_with (fail)
       go_meet
       case rel => exact ⟨rfl, rfl, HM⟩
      ·have hq : decide ((9 : Int) < (K : Int) - (i : Int)) = false := by simp; omega
       have hr6 := H.out
       rw [if_neg hlong] at hr6
       have HG := xGi a0 K (w.heap.size + 1 + 1) w.heap.size wr (by omega) HM.out.2.1 HS0.out
       cases hgo : xEc a0 K
       ·rw [hgo] at HG hr6
        simp only [Bool.false_eq_true, if_false, Option.some.injEq, Prod.mk.injEq] at hr6
        obtain ⟨rfl, rfl, rfl, rfl, rfl, rfl, rfl⟩ := hr6
        have HG' := Aside0.mk HG
        clear H hgo HG
        go_wp2_with (go_at_call 61; refine HG'.out.mono ?_; rintro e w' ⟨rfl, ⟨nd, rfl⟩⟩)
        go_meet
        case rel => exact ⟨rfl, rfl, ⟨xA5 HM.out.1 _, xA5 HM.out.2.1 _, xA0 HM.out.2.2 _⟩⟩
       ·rw [hgo] at HG hr6
        simp only [if_true, Option.some.injEq, Prod.mk.injEq] at hr6
        obtain ⟨rfl, rfl, rfl, rfl, rfl, rfl, rfl⟩ := hr6
        have HG' := Aside0.mk HG
        clear H hgo HG
        go_wp2_with (go_at_call 61; refine HG'.out.mono ?_; rintro e w' ⟨rfl, ⟨nd, rfl⟩⟩)
        go_quiet (fail)
        go_wp2
        go_meet
        case rel => exact ⟨rfl, rfl, ⟨xA5 (xA5 HM.out.1 _) _, xA5 (xA5 HM.out.2.1 _) _, xA0 (xA0 HM.out.2.2 _) _⟩⟩
  ·rw [hl] at HL' H
   simp only [if_true] at H
   clear hl HF'
   generalize hK : xB7 xC6 a0 (a0.size - i) i = K at H
   generalize hS : a0.extract i K = S at H
   have hKs : i ≤ K ∧ K ≤ a0.size := by have := xD7 xC6 a0 (a0.size - i) i (by omega); omega
   obtain ⟨hK1, hK2⟩ := hKs
   have hSz : S.size = K - i := by rw [← hS, ByteArray.size_extract]; omega
   have HT := xEl 63 xC6 (enters_of Tryd.func63 (by kernel_rfl) rfl) xJa a0 i S K hK hS
   have HT' := Aside0.mk HT
   have HSz := Aside0.mk hSz
   clear HT hS hK hSz
   by_cases hlong : i + 16 < K
   ·have hl1 : decide ((16 : Int) < (S.size : Int)) = true := by rw [HSz.out]; simp; omega
    have hl2 : decide (16 < S.size) = true := by rw [HSz.out]; simp; omega
    have hr6 := H.out
    rw [if_pos hlong] at hr6
    simp only [Option.some.injEq, Prod.mk.injEq] at hr6
    obtain ⟨rfl, rfl, rfl, rfl, rfl, rfl, rfl⟩ := hr6
    clear H
    go_wp2_with (first | (go_at_call 62; refine (HL'.out _).mono ?_; rintro e w' ⟨rfl, ⟨nd, rfl⟩⟩) | (go_at_call 60; refine (HT'.out _ _ _ (by omega) (by omega) (xA5 (xCk _ _ _ _) _) (xA5 (xCq _ _ _ _) _)).mono ?_; rintro e w1 ⟨rfl, HK1, HA1⟩; have HT1 := Aside0.mk (HA1.out.blk (xA5 (xCl _ _ _ _) _) (by omega)); have hc1 := (xAb HT1.out 1).trans rfl; have hf1 := xAr HT1.out 1))
    go_meet
    case rel => exact ⟨rfl, rfl, ⟨xBf HT1.out 1 _, xAk HK1.out (by simp) _, ((xA0 (xBv _ _ _ _) _).trans (HA1.out.os _ (by omega))).setCell (by simp) _⟩⟩
   ·have hl1 : decide ((16 : Int) < (S.size : Int)) = false := by rw [HSz.out]; simp; omega
    have hl2 : decide (16 < S.size) = false := by rw [HSz.out]; simp; omega
    have hr6 := H.out
    rw [if_neg hlong] at hr6
    simp only [Option.some.injEq, Prod.mk.injEq] at hr6
    obtain ⟨rfl, rfl, rfl, rfl, rfl, rfl, rfl⟩ := hr6
    clear H
    go_wp2_with (first | (go_at_call 62; refine (HL'.out _).mono ?_; rintro e w' ⟨rfl, ⟨nd, rfl⟩⟩) | (go_at_call 60; refine (HT'.out _ _ _ (by omega) (by omega) (xA5 (xCk _ _ _ _) _) (xA5 (xCq _ _ _ _) _)).mono ?_; rintro e w1 ⟨rfl, HK1, HA1⟩; have HT1 := Aside0.mk (HA1.out.blk (xA5 (xCl _ _ _ _) _) (by omega)); have hc1 := (xAb HT1.out 1).trans rfl; have hf1 := xAr HT1.out 1))
    go_meet
    case rel => exact ⟨rfl, rfl, ⟨xBf HT1.out 1 _, xAk HK1.out (by simp) _, ((xA0 (xBv _ _ _ _) _).trans (HA1.out.os _ (by omega))).setCell (by simp) _⟩⟩
 case rest =>
  clear H
  obtain ⟨rfl, rfl, HM⟩ := hcut
  have hk : wc.cell? ⟨w.heap.size + 1 + 1, 0, none⟩ = some _ := (xAb HM.out.2.1 0).trans rfl
  have h0 : wc.cell? ⟨w.heap.size + 1, 0, none⟩ = some _ := (xAb HM.out.1 0).trans rfl
  have h1 : wc.cell? ⟨w.heap.size + 1, 1, none⟩ = some _ := (xAb HM.out.1 1).trans rfl
  have h2 : wc.cell? ⟨w.heap.size + 1, 2, none⟩ = some _ := (xAb HM.out.1 2).trans rfl
  have h3 : wc.cell? ⟨w.heap.size + 1, 3, none⟩ = some _ := (xAb HM.out.1 3).trans rfl
  have fk : wc.frozen? ⟨w.heap.size + 1 + 1, 0, none⟩ = false := xAr HM.out.2.1 0
  have f0 : wc.frozen? ⟨w.heap.size + 1, 0, none⟩ = false := xAr HM.out.1 0
  have f1 : wc.frozen? ⟨w.heap.size + 1, 1, none⟩ = false := xAr HM.out.1 1
  have f2 : wc.frozen? ⟨w.heap.size + 1, 2, none⟩ = false := xAr HM.out.1 2
  have f3 : wc.frozen? ⟨w.heap.size + 1, 3, none⟩ = false := xAr HM.out.1 3
  clear HL' HF' hb hd
  go_wp2
  go_region
  go_wp2
  refine bodyPost_ret (v := .tuple #[.agg #[.int .i64 r1, .string r2, .int .i64 r3, .int .i64 r4], .int .i64 r5, .int .i64 r6, .int .i64 r7]) ?hres rfl ?_
  case hres => exact xKa _ _ _ _ _ _ _ _ _ rfl rfl (xA8 (xAk (xBf (xBf (xBf (xBf HM.out.1 0 _) 1 _) 2 _) 3 _) (by simp) _)) (xA8 (xBf (xAk (xAk (xAk (xAk HM.out.2.1 (by simp) _) (by simp) _) (by simp) _) (by simp) _) 0 _))
  exact ⟨rfl, xCe (((((HM.out.2.2.setCell (by simp) _).setCell (by simp) _).setCell (by simp) _).setCell (by simp) _).setCell (by simp; omega) _)⟩

end Go.Proofs.YtknbfhhmjbnemaaDoor.P
end
section
namespace Go.Proofs.YtknbfhhmjbnemaaDoor.P
open Go.RowKit Go.Proofs.YtknbfhhmjbnemaaDoorW.PrintWords Go.Proofs.YtknbfhhmjbnemaaDoorW.PrintLast Go.Proofs.YtknbfhhmjbnemaaDoorW.PrintMore
attribute [local go_sem] xB9 xBe

/-! ### xBk: function 84 -/
def xBk.f (a0 : ByteArray) (a1 : ByteArray) : Option (Bool) := if (a0.size : Int) ≥ (a1.size : Int) then (if 0 ≤ (a1.size : Int) then (if (a1.size : Int) ≤ (a0.size : Int) then (some ((a0.extract 0 ((a1.size : Int) : Int).toNat).toList == a1.toList)) else (none)) else (none)) else (some false)
set_option maxHeartbeats 8000000 in
set_option maxRecDepth 100000 in
theorem xBk.calls (a0 : ByteArray) (a1 : ByteArray) (r : Bool) (w : World) (h : xBk.f a0 a1 = some r) :
  Calls Tryd.prog 84 #[.string a0, .string a1] w fun e w' => e = .returned (.bool r) ∧ Drawn0 w w' := by
 have H : (if (a0.size : Int) ≥ (a1.size : Int) then (if 0 ≤ (a1.size : Int) then (if (a1.size : Int) ≤ (a0.size : Int) then (some ((a0.extract 0 ((a1.size : Int) : Int).toNat).toList == a1.toList)) else (none)) else (none)) else (some false)) = some r := h
 clear h
 by_cases c3 : (a0.size : Int) ≥ (a1.size : Int)
 ·rw [if_pos c3] at H
  have c3b0 : decide ((a1.size : Int) ≤ (a0.size : Int)) = true := decide_eq_true c3
  have c3b1 : decide (a1.size ≤ a0.size) = true := decide_eq_true (Int.ofNat_le.mp c3)
  clear c3
  by_cases c4 : 0 ≤ (a1.size : Int)
  ·rw [if_pos c4] at H
   have c4b0 := eq_true c4
   have c4b1 : decide (0 ≤ (a1.size : Int)) = true := decide_eq_true c4
   clear c4
   by_cases c5 : (a1.size : Int) ≤ (a0.size : Int)
   ·rw [if_pos c5] at H
    have c5b0 := eq_true c5
    have c5b1 : decide ((a1.size : Int) ≤ (a0.size : Int)) = true := decide_eq_true c5
    clear c5
    obtain rfl := Option.some.inj H
    go_enter Tryd.func84, Tryd.ntmps84
    go_wp2
    go_ret
    exact ⟨by first | rfl | (simp; done) | (simp [*]; done), by repeat (first | exact Drawn0.refl _ | apply Drawn0.step)⟩
   ·rw [if_neg c5] at H
    exact absurd H (by simp)
  ·rw [if_neg c4] at H
   exact absurd H (by simp)
 ·rw [if_neg c3] at H
  have c3b0 : decide ((a1.size : Int) ≤ (a0.size : Int)) = false := decide_eq_false c3
  have c3b1 : decide (a1.size ≤ a0.size) = false := decide_eq_false (fun h => c3 (Int.ofNat_le.mpr h))
  clear c3
  obtain rfl := Option.some.inj H
  go_enter Tryd.func84, Tryd.ntmps84
  go_wp2
  go_ret
  exact ⟨by first | rfl | (simp; done) | (simp [*]; done), by repeat (first | exact Drawn0.refl _ | apply Drawn0.step)⟩

end Go.Proofs.YtknbfhhmjbnemaaDoor.P
end
section
namespace Go.Proofs.YtknbfhhmjbnemaaDoor.P
open Go.RowKit Go.Proofs.YtknbfhhmjbnemaaDoorW.PrintWords Go.Proofs.YtknbfhhmjbnemaaDoorW.PrintLast Go.Proofs.YtknbfhhmjbnemaaDoorW.PrintMore
attribute [local go_sem] xB9 xBe

/-! ### xBi: function 59 -/
def xBi.f (a0 : ByteArray) (a1 : ByteArray) : Option (Bool) := (xBk.f a0 a1).bind fun t101 => (some t101)
set_option maxHeartbeats 8000000 in
set_option maxRecDepth 100000 in
theorem xBi.calls (a0 : ByteArray) (a1 : ByteArray) (r : Bool) (w : World) (h : xBi.f a0 a1 = some r) :
  Calls Tryd.prog 59 #[.string a0, .string a1] w fun e w' => e = .returned (.bool r) ∧ Drawn0 w w' := by
 have H : ((xBk.f a0 a1).bind fun t101 => (some t101)) = some r := h
 clear h
 replace H := Option.bind_eq_some_iff.mp H
 obtain ⟨t101, A30, H⟩ := H
 replace H : (some t101) = some r := H
 have A3 := Aside0.mk A30
 clear A30
 obtain rfl := Option.some.inj H
 go_enter Tryd.func59, Tryd.ntmps59
 go_wp2_with (first | ((with_reducible refine xAj (f := 84) rfl ?_); refine xB6 (some 7) rfl rfl Tryd.func84 (by kernel_rfl) rfl #[.string a0, .string a1] rfl (by (try simp only [List.map_toArray, List.map_cons, List.map_nil]); first | done | rfl | (simp only [List.length_drop, List.length_take]; rfl)) ?_; (with_reducible refine (xBk.calls a0 a1 t101 _ A3.out).mono ?_); rintro e w' ⟨rfl, ⟨nd, rfl⟩⟩; refine ⟨_, rfl, ?_⟩))
 go_ret
 exact ⟨by first | rfl | (simp; done) | (simp [*]; done), by repeat (first | exact Drawn0.refl _ | apply Drawn0.step)⟩

end Go.Proofs.YtknbfhhmjbnemaaDoor.P
end
section
namespace Go.Proofs.YtknbfhhmjbnemaaDoor.P
open Go.RowKit Go.Proofs.YtknbfhhmjbnemaaDoorW.PrintWords Go.Proofs.YtknbfhhmjbnemaaDoorW.PrintLast Go.Proofs.YtknbfhhmjbnemaaDoorW.PrintMore
attribute [local go_sem] xB9 xBe

/-! ### strings_IndexByte: function 58 -/
-- IMPORTS Derived.Test.YtknbfhhmjbnemaaDoorShelf
def strings_IndexByte.f (a0 : ByteArray) (a1 : Int) : Option (Int) := some (Lib.indexByte a0.data.toList a1.toNat.toUInt8)
theorem strings_IndexByte.calls (a0 : ByteArray) (a1 : Int) (r : Int) (w : World) (h : strings_IndexByte.f a0 a1 = some r) :
  Calls Tryd.prog 58 #[.string a0, .int .u8 a1] w fun e w' => e = .returned (.int .i64 r) ∧ Drawn0 w w' := by
 obtain rfl := Option.some.inj h
 refine (Tryd.strings_IndexByte a0 a1 w).mono ?_
 rintro e w' ⟨rfl, rfl⟩
 exact ⟨rfl, Drawn0.refl _⟩

end Go.Proofs.YtknbfhhmjbnemaaDoor.P
end
section
namespace Go.Proofs.YtknbfhhmjbnemaaDoor.P
open Go.RowKit Go.Proofs.YtknbfhhmjbnemaaDoorW.PrintWords Go.Proofs.YtknbfhhmjbnemaaDoorW.PrintLast Go.Proofs.YtknbfhhmjbnemaaDoorW.PrintMore
attribute [local go_sem] xB9 xBe

/-! ### xBa: function 28 -/
def xBa.l0 : Nat → ByteArray → Int → Option (Int)
 | 0, _, _ => none
 | k + 1, x0, x1 => if x1 < (x0.size : Int) then (if 0 ≤ x1 then ((strings_IndexByte.f (⟨#[9, 10, 13, 32]⟩ : ByteArray) (bt x0 x1)).bind fun t102 => (if t102 ≥ 0 then (xBa.l0 k x0 (wrap64 (x1 + 1))) else (if x1 ≤ (x0.size : Int) then ((xBi.f (x0.extract (x1 : Int).toNat x0.size) (⟨#[47, 47]⟩ : ByteArray)).bind fun t103 => (if t103 = true then ((strings_IndexByte.f (x0.extract (x1 : Int).toNat x0.size) 10).bind fun t104 => (if t104 < 0 then (some (x0.size : Int)) else (xBa.l0 k x0 (wrap64 (x1 + t104))))) else (some x1))) else (none)))) else (none)) else (some x1)
def xBa.f (k : Nat) (a0 : ByteArray) (a1 : Int) : Option (Int) := xBa.l0 k a0 a1
theorem xBa.mono_l : ∀ k, (∀ y0 y1, LeO (xBa.l0 k y0 y1) (xBa.l0 (k + 1) y0 y1))
 | 0 => fun _ _ r h => by simp [xBa.l0] at h
 | k + 1 => by
  have ih0 := xBa.mono_l k
  ·intro y0 y1
   unfold xBa.l0
   repeat' first
   | (with_reducible exact ih0 _ _)
   | (with_reducible exact LeO.refl _)
   | (with_reducible exact LeO.none _)
   | (with_reducible refine LeO.ite ?_ ?_)
   | (with_reducible refine LeO.bind ?_ (fun _ => ?_))
theorem xBa.mono : ∀ a0 a1 k, LeO (xBa.f k a0 a1) (xBa.f (k + 1) a0 a1) := by
 intro a0 a1 k
 have ih0 := xBa.mono_l k
 unfold xBa.f
 repeat' first
   | (with_reducible exact ih0 _ _)
   | (with_reducible exact LeO.refl _)
   | (with_reducible exact LeO.none _)
   | (with_reducible refine LeO.ite ?_ ?_)
   | (with_reducible refine LeO.bind ?_ (fun _ => ?_))
set_option maxHeartbeats 8000000 in
set_option maxRecDepth 100000 in
theorem xBa.calls (k : Nat) (a0 : ByteArray) (a1 : Int) (r : Int) (w : World) (h : xBa.f k a0 a1 = some r) :
  Calls Tryd.prog 28 #[.string a0, .int .i64 a1] w fun e w' => e = .returned (.int .i64 r) ∧ Drawn0 w w' := by
 have H : (xBa.l0 k a0 a1) = some r := h
 clear h
 have H' := Aside0.mk H
 clear H
 go_enter Tryd.func28, Tryd.ntmps28
 go_wp2
 go_loopg [1] k (fun kq v1 w' => ∃ (x1_1 : Int), v1 = .int .i64 x1_1 ∧ Aside0 (xBa.l0 kq a0 x1_1 = some r) ∧ Aside0 (kq ≤ k) ∧ Drawn0 w w')
 case atStart => exact ⟨(a1), (by first | rfl | (simp; done) | (simp [*]; done)), H', ⟨Nat.le_refl _⟩, by repeat (first | exact Drawn0.refl _ | apply Drawn0.step)⟩
 case round =>
  clear H'
  try clear c2
  try clear p2
  obtain ⟨x1_1, rfl, HA, HK1, ⟨m1, rfl⟩⟩ := hrel
  cases gk with
  | zero => exact absurd HA.out (by simp [xBa.l0])
  | succ k1 =>
   have H := HA.out
   clear HA
   simp only [xBa.l0] at H
   by_cases c3 : x1_1 < (a0.size : Int)
   ·rw [if_pos c3] at H
    have c3b0 : decide (x1_1 < (a0.size : Int)) = true := decide_eq_true c3
    clear c3
    by_cases c4 : 0 ≤ x1_1
    ·rw [if_pos c4] at H
     have c4b0 : decide (0 ≤ x1_1) = true := decide_eq_true c4
     clear c4
     replace H := Option.bind_eq_some_iff.mp H
     obtain ⟨t102, A60, H⟩ := H
     replace H : (if t102 ≥ 0 then (xBa.l0 k1 a0 (wrap64 (x1_1 + 1))) else (if x1_1 ≤ (a0.size : Int) then ((xBi.f (a0.extract (x1_1 : Int).toNat a0.size) (⟨#[47, 47]⟩ : ByteArray)).bind fun t103 => (if t103 = true then ((strings_IndexByte.f (a0.extract (x1_1 : Int).toNat a0.size) 10).bind fun t104 => (if t104 < 0 then (some (a0.size : Int)) else (xBa.l0 k1 a0 (wrap64 (x1_1 + t104))))) else (some x1_1))) else (none))) = some r := H
     have A6 := Aside0.mk A60
     clear A60
     by_cases c7 : t102 ≥ 0
     ·rw [if_pos c7] at H
      have c7b0 : decide (0 ≤ t102) = true := decide_eq_true c7
      clear c7
      have H' := Aside0.mk H
      clear H
      have p5 : 0 ≤ (x1_1 : Int) := of_decide_eq_true (by first | (with_reducible assumption) | assumption)
      have q5 : x1_1 < (a0.size : Int) := of_decide_eq_true (by first | (with_reducible assumption) | assumption)
      have hx5 := xCn a0 x1_1
      replace p5 := eq_true p5
      replace q5 := eq_true q5
      go_wp2_with (first | ((with_reducible refine xAj (f := 58) rfl ?_); refine xB6 (some 15) rfl rfl Tryd.func58 (by kernel_rfl) rfl #[.string (⟨#[9, 10, 13, 32]⟩ : ByteArray), .int .u8 (bt a0 x1_1)] rfl (by (try simp only [List.map_toArray, List.map_cons, List.map_nil]); first | done | rfl | (simp only [List.length_drop, List.length_take]; rfl)) ?_; (with_reducible refine (strings_IndexByte.calls (⟨#[9, 10, 13, 32]⟩ : ByteArray) (bt a0 x1_1) t102 _ A6.out).mono ?_); rintro e w' ⟨rfl, ⟨nd, rfl⟩⟩; refine ⟨_, rfl, ?_⟩))
      go_roundg k1
      case measure => have := HK1.out; omega
      case rel => exact ⟨(wrap64 (x1_1 + 1)), (by first | rfl | (simp; done) | (simp [*]; done)), H', ⟨by have := HK1.out; omega⟩, by repeat (first | exact Drawn0.refl _ | apply Drawn0.step)⟩
     ·rw [if_neg c7] at H
      have c7b0 : decide (0 ≤ t102) = false := decide_eq_false c7
      clear c7
      have c8b0 := eq_true (of_decide_eq_true (by first | (with_reducible assumption) | assumption) : 0 ≤ x1_1)
      by_cases c9 : x1_1 ≤ (a0.size : Int)
      ·rw [if_pos c9] at H
       have c9b0 := eq_true c9
       have c9b1 : decide (x1_1 ≤ (a0.size : Int)) = true := decide_eq_true c9
       clear c9
       replace H := Option.bind_eq_some_iff.mp H
       obtain ⟨t103, A100, H⟩ := H
       replace H : (if t103 = true then ((strings_IndexByte.f (a0.extract (x1_1 : Int).toNat a0.size) 10).bind fun t104 => (if t104 < 0 then (some (a0.size : Int)) else (xBa.l0 k1 a0 (wrap64 (x1_1 + t104))))) else (some x1_1)) = some r := H
       have A10 := Aside0.mk A100
       clear A100
       by_cases c11 : t103 = true
       ·subst c11
        have H1 : ((strings_IndexByte.f (a0.extract (x1_1 : Int).toNat a0.size) 10).bind fun t104 => (if t104 < 0 then (some (a0.size : Int)) else (xBa.l0 k1 a0 (wrap64 (x1_1 + t104))))) = some r := by rw [if_pos rfl] at H; exact H
        clear H
        have H := H1
        clear H1
        have c12b0 := eq_true (of_decide_eq_true (by first | (with_reducible assumption) | assumption) : 0 ≤ x1_1)
        have c13b0 := eq_true (of_decide_eq_true (by first | (with_reducible assumption) | assumption) : x1_1 ≤ (a0.size : Int))
        replace H := Option.bind_eq_some_iff.mp H
        obtain ⟨t104, A140, H⟩ := H
        replace H : (if t104 < 0 then (some (a0.size : Int)) else (xBa.l0 k1 a0 (wrap64 (x1_1 + t104)))) = some r := H
        have A14 := Aside0.mk A140
        clear A140
        by_cases c15 : t104 < 0
        ·rw [if_pos c15] at H
         have c15b0 : decide (t104 < 0) = true := decide_eq_true c15
         clear c15
         obtain rfl := Option.some.inj H
         have p5 : 0 ≤ (x1_1 : Int) := of_decide_eq_true (by first | (with_reducible assumption) | assumption)
         have q5 : x1_1 < (a0.size : Int) := of_decide_eq_true (by first | (with_reducible assumption) | assumption)
         have hx5 := xCn a0 x1_1
         replace p5 := eq_true p5
         replace q5 := eq_true q5
         go_wp2_with (first | ((with_reducible refine xAj (f := 58) rfl ?_); refine xB6 (some 15) rfl rfl Tryd.func58 (by kernel_rfl) rfl #[.string (⟨#[9, 10, 13, 32]⟩ : ByteArray), .int .u8 (bt a0 x1_1)] rfl (by (try simp only [List.map_toArray, List.map_cons, List.map_nil]); first | done | rfl | (simp only [List.length_drop, List.length_take]; rfl)) ?_; (with_reducible refine (strings_IndexByte.calls (⟨#[9, 10, 13, 32]⟩ : ByteArray) (bt a0 x1_1) t102 _ A6.out).mono ?_); rintro e w' ⟨rfl, ⟨nd, rfl⟩⟩; refine ⟨_, rfl, ?_⟩) | ((with_reducible refine xAj (f := 59) rfl ?_); refine xB6 (some 23) rfl rfl Tryd.func59 (by kernel_rfl) rfl #[.string (a0.extract (x1_1 : Int).toNat a0.size), .string (⟨#[47, 47]⟩ : ByteArray)] rfl (by (try simp only [List.map_toArray, List.map_cons, List.map_nil]); first | done | rfl | (simp only [List.length_drop, List.length_take]; rfl)) ?_; (with_reducible refine (xBi.calls (a0.extract (x1_1 : Int).toNat a0.size) (⟨#[47, 47]⟩ : ByteArray) true _ A10.out).mono ?_); rintro e w' ⟨rfl, ⟨nd, rfl⟩⟩; refine ⟨_, rfl, ?_⟩) | ((with_reducible refine xAj (f := 58) rfl ?_); refine xB6 (some 27) rfl rfl Tryd.func58 (by kernel_rfl) rfl #[.string (a0.extract (x1_1 : Int).toNat a0.size), .int .u8 10] rfl (by (try simp only [List.map_toArray, List.map_cons, List.map_nil]); first | done | rfl | (simp only [List.length_drop, List.length_take]; rfl)) ?_; (with_reducible refine (strings_IndexByte.calls (a0.extract (x1_1 : Int).toNat a0.size) 10 t104 _ A14.out).mono ?_); rintro e w' ⟨rfl, ⟨nd, rfl⟩⟩; refine ⟨_, rfl, ?_⟩))
         go_ret
         exact ⟨by first | rfl | (simp; done) | (simp [*]; done), by repeat (first | exact Drawn0.refl _ | apply Drawn0.step)⟩
        ·rw [if_neg c15] at H
         have c15b0 : decide (t104 < 0) = false := decide_eq_false c15
         clear c15
         have H' := Aside0.mk H
         clear H
         have p5 : 0 ≤ (x1_1 : Int) := of_decide_eq_true (by first | (with_reducible assumption) | assumption)
         have q5 : x1_1 < (a0.size : Int) := of_decide_eq_true (by first | (with_reducible assumption) | assumption)
         have hx5 := xCn a0 x1_1
         replace p5 := eq_true p5
         replace q5 := eq_true q5
         go_wp2_with (first | ((with_reducible refine xAj (f := 58) rfl ?_); refine xB6 (some 15) rfl rfl Tryd.func58 (by kernel_rfl) rfl #[.string (⟨#[9, 10, 13, 32]⟩ : ByteArray), .int .u8 (bt a0 x1_1)] rfl (by (try simp only [List.map_toArray, List.map_cons, List.map_nil]); first | done | rfl | (simp only [List.length_drop, List.length_take]; rfl)) ?_; (with_reducible refine (strings_IndexByte.calls (⟨#[9, 10, 13, 32]⟩ : ByteArray) (bt a0 x1_1) t102 _ A6.out).mono ?_); rintro e w' ⟨rfl, ⟨nd, rfl⟩⟩; refine ⟨_, rfl, ?_⟩) | ((with_reducible refine xAj (f := 59) rfl ?_); refine xB6 (some 23) rfl rfl Tryd.func59 (by kernel_rfl) rfl #[.string (a0.extract (x1_1 : Int).toNat a0.size), .string (⟨#[47, 47]⟩ : ByteArray)] rfl (by (try simp only [List.map_toArray, List.map_cons, List.map_nil]); first | done | rfl | (simp only [List.length_drop, List.length_take]; rfl)) ?_; (with_reducible refine (xBi.calls (a0.extract (x1_1 : Int).toNat a0.size) (⟨#[47, 47]⟩ : ByteArray) true _ A10.out).mono ?_); rintro e w' ⟨rfl, ⟨nd, rfl⟩⟩; refine ⟨_, rfl, ?_⟩) | ((with_reducible refine xAj (f := 58) rfl ?_); refine xB6 (some 27) rfl rfl Tryd.func58 (by kernel_rfl) rfl #[.string (a0.extract (x1_1 : Int).toNat a0.size), .int .u8 10] rfl (by (try simp only [List.map_toArray, List.map_cons, List.map_nil]); first | done | rfl | (simp only [List.length_drop, List.length_take]; rfl)) ?_; (with_reducible refine (strings_IndexByte.calls (a0.extract (x1_1 : Int).toNat a0.size) 10 t104 _ A14.out).mono ?_); rintro e w' ⟨rfl, ⟨nd, rfl⟩⟩; refine ⟨_, rfl, ?_⟩))
         go_roundg k1
         case measure => have := HK1.out; omega
         case rel => exact ⟨(wrap64 (x1_1 + t104)), (by first | rfl | (simp; done) | (simp [*]; done)), H', ⟨by have := HK1.out; omega⟩, by repeat (first | exact Drawn0.refl _ | apply Drawn0.step)⟩
       ·replace c11 := Bool.eq_false_iff.mpr c11
        subst c11
        have H1 : (some x1_1) = some r := by rw [if_neg (show ¬ (false = true) by decide)] at H; exact H
        clear H
        have H := H1
        clear H1
        obtain rfl := Option.some.inj H
        have p5 : 0 ≤ (x1_1 : Int) := of_decide_eq_true (by first | (with_reducible assumption) | assumption)
        have q5 : x1_1 < (a0.size : Int) := of_decide_eq_true (by first | (with_reducible assumption) | assumption)
        have hx5 := xCn a0 x1_1
        replace p5 := eq_true p5
        replace q5 := eq_true q5
        go_wp2_with (first | ((with_reducible refine xAj (f := 58) rfl ?_); refine xB6 (some 15) rfl rfl Tryd.func58 (by kernel_rfl) rfl #[.string (⟨#[9, 10, 13, 32]⟩ : ByteArray), .int .u8 (bt a0 x1_1)] rfl (by (try simp only [List.map_toArray, List.map_cons, List.map_nil]); first | done | rfl | (simp only [List.length_drop, List.length_take]; rfl)) ?_; (with_reducible refine (strings_IndexByte.calls (⟨#[9, 10, 13, 32]⟩ : ByteArray) (bt a0 x1_1) t102 _ A6.out).mono ?_); rintro e w' ⟨rfl, ⟨nd, rfl⟩⟩; refine ⟨_, rfl, ?_⟩) | ((with_reducible refine xAj (f := 59) rfl ?_); refine xB6 (some 23) rfl rfl Tryd.func59 (by kernel_rfl) rfl #[.string (a0.extract (x1_1 : Int).toNat a0.size), .string (⟨#[47, 47]⟩ : ByteArray)] rfl (by (try simp only [List.map_toArray, List.map_cons, List.map_nil]); first | done | rfl | (simp only [List.length_drop, List.length_take]; rfl)) ?_; (with_reducible refine (xBi.calls (a0.extract (x1_1 : Int).toNat a0.size) (⟨#[47, 47]⟩ : ByteArray) false _ A10.out).mono ?_); rintro e w' ⟨rfl, ⟨nd, rfl⟩⟩; refine ⟨_, rfl, ?_⟩))
        go_ret
        exact ⟨by first | rfl | (simp; done) | (simp [*]; done), by repeat (first | exact Drawn0.refl _ | apply Drawn0.step)⟩
      ·rw [if_neg c9] at H
       exact absurd H (by simp)
    ·rw [if_neg c4] at H
     exact absurd H (by simp)
   ·rw [if_neg c3] at H
    have c3b0 : decide (x1_1 < (a0.size : Int)) = false := decide_eq_false c3
    clear c3
    obtain rfl := Option.some.inj H
    go_wp2
    go_ret
    exact ⟨by first | rfl | (simp; done) | (simp [*]; done), by repeat (first | exact Drawn0.refl _ | apply Drawn0.step)⟩

end Go.Proofs.YtknbfhhmjbnemaaDoor.P
end
section
namespace Go.Proofs.YtknbfhhmjbnemaaDoor.P
open Go.RowKit Go.Proofs.YtknbfhhmjbnemaaDoorW.PrintWords Go.Proofs.YtknbfhhmjbnemaaDoorW.PrintLast Go.Proofs.YtknbfhhmjbnemaaDoorW.PrintMore
attribute [local go_sem] xB9 xBe

/-! ### xB4: function 17 -/
def xB4.l0 : Nat → ByteArray → List (S60) → Int → Option ((List (S60)) × Int × Int)
 | 0, _, _, _ => none
 | k + 1, x0, x5, x6 => if x6 < (x0.size : Int) then (if (x5.length : Int) = 500 then (some (([] : List (S60)), 103, x6)) else ((xDi.f x0 x6).bind fun bt107 => (if bt107.2.2.2.2.2.1 = 0 then (if x5.length < 3518437208883 then ((xBa.f k x0 bt107.2.2.2.2.1).bind fun t118 => (xB4.l0 k x0 (x5 ++ [(⟨bt107.1, bt107.2.1, bt107.2.2.1, bt107.2.2.2.1⟩ : S60)]) t118)) else (none)) else (some (([] : List (S60)), bt107.2.2.2.2.2.1, bt107.2.2.2.2.2.2))))) else (some (x5, 0, (-1)))
def xB4.f (k : Nat) (a0 : ByteArray) : Option ((List (S60)) × Int × Int) := if (a0.size : Int) > 2000 then (some (([] : List (S60)), 103, 0)) else ((xBa.f k a0 0).bind fun t106 => (xB4.l0 k a0 ([] : List (S60)) t106))
theorem xB4.mono_l : ∀ k, (∀ y0 y1 y2, LeO (xB4.l0 k y0 y1 y2) (xB4.l0 (k + 1) y0 y1 y2))
 | 0 => fun _ _ _ r h => by simp [xB4.l0] at h
 | k + 1 => by
  have ih0 := xB4.mono_l k
  ·intro y0 y1 y2
   unfold xB4.l0
   repeat' first
   | (with_reducible exact ih0 _ _ _)
   | (with_reducible exact xBa.mono _ _ _)
   | (with_reducible exact LeO.refl _)
   | (with_reducible exact LeO.none _)
   | (with_reducible refine LeO.ite ?_ ?_)
   | (with_reducible refine LeO.bind ?_ (fun _ => ?_))
theorem xB4.mono : ∀ a0 k, LeO (xB4.f k a0) (xB4.f (k + 1) a0) := by
 intro a0 k
 have ih0 := xB4.mono_l k
 unfold xB4.f
 repeat' first
   | (with_reducible exact ih0 _ _ _)
   | (with_reducible exact xBa.mono _ _ _)
   | (with_reducible exact LeO.refl _)
   | (with_reducible exact LeO.none _)
   | (with_reducible refine LeO.ite ?_ ?_)
   | (with_reducible refine LeO.bind ?_ (fun _ => ?_))
set_option maxHeartbeats 8000000 in
set_option maxRecDepth 100000 in
theorem xB4.calls (k : Nat) (a0 : ByteArray) (r1 : List (S60)) (r2 : Int) (r3 : Int) (w : World) (h : xB4.f k a0 = some (r1, r2, r3)) :
  Calls Tryd.prog 17 #[.string a0] w fun e w' => ∃ v0_ : Value, e = .returned (.tuple #[v0_, .int .i64 r2, .int .i64 r3]) ∧ Kd.R k60 60 w' w.heap.size (fun _ => True) v0_ r1 ∧ Below w.heap.size w w' := by
 have hu60 := Tryd.underlying60
 have HB := Aside0.mk (Below.refl w.heap.size w)
 have H : (if (a0.size : Int) > 2000 then (some (([] : List (S60)), 103, 0)) else ((xBa.f k a0 0).bind fun t106 => (xB4.l0 k a0 ([] : List (S60)) t106))) = some (r1, r2, r3) := h
 clear h
 by_cases c2 : (a0.size : Int) > 2000
 ·rw [if_pos c2] at H
  have c2b0 : decide (2000 < (a0.size : Int)) = true := decide_eq_true c2
  have c2b1 : decide (2000 < a0.size) = true := decide_eq_true (by omega)
  clear c2
  simp only [Option.some.injEq, Prod.mk.injEq] at H
  obtain ⟨rfl, rfl, rfl⟩ := H
  go_enter Tryd.func17, Tryd.ntmps17
  go_wp2
  go_ret3
  exact ⟨_, by first | rfl | (simp <;> rfl) | (simp [*] <;> rfl), by first | exact Kd.R_nil _ _ _ _ _ | exact Kd.N_nil _ _ _ _ _ | exact Kd.V_nil _ _ _ _ _ | exact Kd.Q_nil _ _ _ _ _ | exact Kd.S_nil _ _ _ _ _, by repeat (first | (with_reducible first | exact HB.out | apply xA1 | apply xA0 | apply below_drew1) | exact HB.out)⟩
 ·rw [if_neg c2] at H
  have c2b0 : decide (2000 < (a0.size : Int)) = false := decide_eq_false c2
  have c2b1 : decide (2000 < a0.size) = false := decide_eq_false (by omega)
  clear c2
  replace H := Option.bind_eq_some_iff.mp H
  obtain ⟨t106, A30, H⟩ := H
  replace H : (xB4.l0 k a0 ([] : List (S60)) t106) = some (r1, r2, r3) := H
  have A3 := Aside0.mk A30
  clear A30
  have H' := Aside0.mk H
  clear H
  go_enter Tryd.func17, Tryd.ntmps17
  go_wp2_with (first | ((with_reducible refine xAj (f := 28) rfl ?_); refine xB6 (some 15) rfl rfl Tryd.func28 (by kernel_rfl) rfl #[.string a0, .int .i64 0] rfl (by (try simp only [List.map_toArray, List.map_cons, List.map_nil]); first | done | rfl | (simp only [List.length_drop, List.length_take]; rfl)) ?_; (with_reducible refine (xBa.calls k a0 0 t106 _ A3.out).mono ?_); rintro e w' ⟨rfl, ⟨nd, rfl⟩⟩; refine ⟨_, rfl, ?_⟩))
  go_loopg [5, 6] k (fun kq v5 v6 w' => ∃ (x5_1 : List (S60)) (x6_1 : Int), v6 = .int .i64 x6_1 ∧ Aside0 (xB4.l0 kq a0 x5_1 x6_1 = some (r1, r2, r3)) ∧ Aside0 (kq ≤ k) ∧ Aside0 (Kd.R k60 60 w' w.heap.size (fun _ => True) v5 x5_1) ∧ Aside0 (Below w.heap.size w w'))
  case atStart => exact ⟨(([] : List (S60))), (t106), (by first | rfl | (simp; done) | (simp [*]; done)), H', ⟨Nat.le_refl _⟩, ⟨by first | exact Kd.R_nil _ _ _ _ _ | exact Kd.N_nil _ _ _ _ _ | exact Kd.V_nil _ _ _ _ _ | exact Kd.Q_nil _ _ _ _ _ | exact Kd.S_nil _ _ _ _ _⟩, ⟨by repeat (first | (with_reducible first | exact HB.out | apply xA1 | apply xA0 | apply below_drew1) | exact HB.out)⟩⟩
  case round =>
   clear H'
   try clear c1
   try clear c2
   try clear c2b0
   try clear c2b1
   try clear p2
   obtain ⟨x5_1, x6_1, rfl, HA, HK1, HO_5, HB⟩ := hrel
   cases gk with
   | zero => exact absurd HA.out (by simp [xB4.l0])
   | succ k1 =>
    have H := HA.out
    clear HA
    simp only [xB4.l0] at H
    by_cases c4 : x6_1 < (a0.size : Int)
    ·rw [if_pos c4] at H
     have c4b0 : decide (x6_1 < (a0.size : Int)) = true := decide_eq_true c4
     clear c4
     by_cases c5 : (x5_1.length : Int) = 500
     ·rw [if_pos c5] at H
      have c5b0 : ((x5_1.length : Int) == 500) = true := beq_iff_eq.mpr c5
      have c5b1 : ((x5_1.length : Int) != 500) = false := bne_eq_false_iff_eq.mpr c5
      clear c5
      simp only [Option.some.injEq, Prod.mk.injEq] at H
      obtain ⟨rfl, rfl, rfl⟩ := H
      obtain ⟨Ao6, co6, eo6⟩ := Kd.R_slice HO_5.out
      subst eo6
      go_wp2
      go_ret3
      exact ⟨_, by first | rfl | (simp <;> rfl) | (simp [*] <;> rfl), by first | exact Kd.R_nil _ _ _ _ _ | exact Kd.N_nil _ _ _ _ _ | exact Kd.V_nil _ _ _ _ _ | exact Kd.Q_nil _ _ _ _ _ | exact Kd.S_nil _ _ _ _ _, by repeat (first | (with_reducible first | exact HB.out | apply xA1 | apply xA0 | apply below_drew1) | exact HB.out)⟩
     ·rw [if_neg c5] at H
      have c5b0 : ((x5_1.length : Int) == 500) = false := beq_eq_false_iff_ne.mpr c5
      have c5b1 : ((x5_1.length : Int) != 500) = true := bne_iff_ne.mpr c5
      replace H := Option.bind_eq_some_iff.mp H
      obtain ⟨⟨t107, t108, t109, t110, t111, t112, t113⟩, A70, H⟩ := H
      replace H : (if t112 = 0 then (if x5_1.length < 3518437208883 then ((xBa.f k1 a0 t111).bind fun t118 => (xB4.l0 k1 a0 (x5_1 ++ [(⟨t107, t108, t109, t110⟩ : S60)]) t118)) else (none)) else (some (([] : List (S60)), t112, t113))) = some (r1, r2, r3) := H
      have A7 := Aside0.mk A70
      clear A70
      by_cases c8 : t112 = 0
      ·rw [if_pos c8] at H
       have c8b0 : (t112 == 0) = true := beq_iff_eq.mpr c8
       have c8b1 : (t112 != 0) = false := bne_eq_false_iff_eq.mpr c8
       clear c8
       by_cases c9 : x5_1.length < 3518437208883
       ·rw [if_pos c9] at H
        have LMc9 := Aside0.mk c9
        clear c9
        obtain ⟨y115, hy115⟩ : ∃ y_ : List (S60), y_ = (x5_1 ++ [(⟨t107, t108, t109, t110⟩ : S60)]) := ⟨_, rfl⟩
        replace H : ((xBa.f k1 a0 t111).bind fun t118 => (xB4.l0 k1 a0 y115 t118)) = some (r1, r2, r3) := by first | (rw [hy115]; with_reducible exact H) | (have H2_ := (Option.bind_some _ _).symm.trans H; rw [hy115]; with_reducible exact H2_) | (have H2_ := (Option.bind_some _ _).symm.trans H; with_reducible exact H2_) | with_reducible exact H | (rw [hy115]; exact H) | exact H
        have Ny115 := Aside0.mk hy115
        clear hy115
        replace H := Option.bind_eq_some_iff.mp H
        obtain ⟨t118, A100, H⟩ := H
        replace H : (xB4.l0 k1 a0 y115 t118) = some (r1, r2, r3) := H
        have A10 := Aside0.mk A100
        clear A100
        have H' := Aside0.mk H
        clear H
        obtain ⟨Ao11, co11, eo11⟩ := Kd.R_slice HO_5.out
        subst eo11
        go_wp2_with (first | ((with_reducible refine xAj (f := 29) rfl ?_); refine xB6 (some 27) rfl rfl Tryd.func29 (by kernel_rfl) rfl #[.string a0, .int .i64 x6_1] rfl (by (try simp only [List.map_toArray, List.map_cons, List.map_nil]); first | done | rfl | (simp only [List.length_drop, List.length_take]; rfl)) ?_; (with_reducible refine (xDi.calls a0 x6_1 t107 t108 t109 t110 t111 t112 t113 _ A7.out).mono ?_); rintro e w12 ⟨rfl, hb⟩; refine ⟨_, rfl, ?_⟩; have n0_ := Aside0.mk (Kd.R_below (by (with_reducible repeat (first | apply Kd.R_alloc | apply Kd.R_drewN | apply Kd.R_drew)); exact HO_5.out) hb); have n1_ := Aside0.mk (xAi (by repeat (first | (with_reducible first | exact HB.out | apply xA1 | apply xA0 | apply below_drew1) | exact HB.out)) hb); clear HO_5; clear HB; have HO_5 := n0_; have HB := n1_; clear n0_ n1_; (try clear hb); (try clear hb2); (try clear hk); (try clear hi)) | ((with_reducible refine xBq (N := 7) rfl ?_); refine xBm ?hg (N := 7) ?hd (cs := #[.int .i64 0, .string (⟨#[]⟩ : ByteArray), .int .i64 0, .int .i64 0]) (t := 60) ?hr ?_; (case hd => rfl); (case hg => rfl); (case hr => first | (go_simp; done) | (go_simp; rfl)); intro gb114 hg w13 hbox hb; have n0_ := Aside0.mk (Kd.R_below (Kd.R_elderB (by (with_reducible repeat (first | apply Kd.R_alloc | apply Kd.R_drewN | apply Kd.R_drew)); exact HO_5.out) gb114 (Nat.le_of_eq hg.symm)) hb); have n1_ := Aside0.mk (xAi (by repeat (first | (with_reducible first | exact HB.out | apply xA1 | apply xA0 | apply below_drew1) | exact HB.out)) hb); have n2_ := Aside0.mk (hbox); have n3_ := Aside0.mk ((by rw [hg]; exact (xAs (by repeat (first | (with_reducible first | exact HB.out | apply xA1 | apply xA0 | apply below_drew1) | exact HB.out))) : w.heap.size ≤ gb114)); have n4_ := Aside0.mk ((by rw [hg]; exact (xAs (by repeat (first | (with_reducible first | exact HB.out | apply xA1 | apply xA0 | apply below_drew1) | exact HB.out))) : w.heap.size ≤ gb114)); clear HO_5; clear HB; have HO_5 := n0_; have HB := n1_; have BK114 := n2_; have GW114 := n3_; have GE114 := n4_; clear n0_ n1_ n2_ n3_ n4_; clear hb hbox hg; obtain ⟨hcz14_0, hcz14_1, hcz14_2, hcz14_3, hfz14_0, hfz14_1, hfz14_2, hfz14_3⟩ := ex4 BK114.out) | ((with_reducible refine xF2 (b := .append) (xs := #[.tmp 36, .tmp 38]) rfl ?_); at_builtin; refine Kd.R_append k60 (w0 := w) w.heap.size rfl (.tmp 36) (.tmp 38) 36 60 (.agg #[(.int .i64 0), (.string ⟨#[]⟩), (.int .i64 0), (.int .i64 0)]) 40 rfl Tryd.underlying36 info60 rfl (by decide) (by omega) (.slice Ao11 x5_1.length co11) x5_1 (⟨t107, t108, t109, t110⟩ : S60) [.int .i64 t107, .string t108, .int .i64 t109, .int .i64 t110] (fun k_ => k_ ≠ gb114) (fun _ => False) rfl (by first | (go_simp; done) | (go_simp; rfl)) ?aP (fun _ hk => hk.elim) ?aF ?aO ?aB ?aS ?aL ?_; (case aP => exact xKt _ _ _ (⟨t107, t108, t109, t110⟩ : S60)); (case aB => exact (by repeat (first | (with_reducible first | exact HB.out | apply xA1 | apply xA0 | apply below_drew1 | refine xA6 ?_ GE114.out) | exact HB.out))); (case aF => exact (fun k_ hk => Kd.freshB (g := gb114) (o := .cells #[.int .i64 t107, .string t108, .int .i64 t109, .int .i64 t110] 60 (0, 0)) (by (with_reducible repeat (first | refine xA5 ?_ _ | refine xA8 ?_ | refine xA4 ?_ _)); refine xAh (cs := #[.int .i64 t107, .string t108, .int .i64 t109, .int .i64 0]) ?_ 3 _ rfl; (with_reducible repeat (first | refine xA5 ?_ _ | refine xA8 ?_ | refine xA4 ?_ _)); refine xAh (cs := #[.int .i64 t107, .string t108, .int .i64 0, .int .i64 0]) ?_ 2 _ rfl; (with_reducible repeat (first | refine xA5 ?_ _ | refine xA8 ?_ | refine xA4 ?_ _)); refine xAh (cs := #[.int .i64 t107, .string (⟨#[]⟩ : ByteArray), .int .i64 0, .int .i64 0]) ?_ 1 _ rfl; (with_reducible repeat (first | refine xA5 ?_ _ | refine xA8 ?_ | refine xA4 ?_ _)); refine xAh (cs := #[.int .i64 0, .string (⟨#[]⟩ : ByteArray), .int .i64 0, .int .i64 0]) ?_ 0 _ rfl; (with_reducible repeat (first | refine xA5 ?_ _ | refine xA8 ?_ | refine xA4 ?_ _)); exact BK114.out) k_ hk)); (case aO => exact (by (with_reducible repeat (first | apply Kd.R_alloc | apply Kd.R_drewN | apply Kd.R_drew)); exact Kd.R_mono (Kd.R_far (p := ⟨gb114, 3, none⟩) (Kd.R_far (p := ⟨gb114, 2, none⟩) (Kd.R_far (p := ⟨gb114, 1, none⟩) (Kd.R_far (p := ⟨gb114, 0, none⟩) (Kd.R_mono HO_5.out (fun k_ hk => (⟨hk, hk.2⟩ : _ ∧ k_ ≠ gb114))) (fun _ hk => hk.2) (.int .i64 t107)) (fun _ hk => hk.2) (.string t108)) (fun _ hk => hk.2) (.int .i64 t109)) (fun _ hk => hk.2) (.int .i64 t110)) (fun _ hk => hk.1.2))); (case aS => exact (xAs (by repeat (first | (with_reducible first | exact HB.out | apply xA1 | apply xA0 | apply below_drew1 | refine xA6 ?_ GE114.out) | exact HB.out)))); (case aL => have := LMc9.out; omega); intro v116 w15 ho hb hg hat; rw [← Ny115.out] at ho; have n0_ := Aside0.mk (xCv (g := gb114) (o := .cells #[.int .i64 t107, .string t108, .int .i64 t109, .int .i64 t110] 60 (0, 0)) (by (with_reducible repeat (first | refine xA5 ?_ _ | refine xA8 ?_ | refine xA4 ?_ _)); refine xAh (cs := #[.int .i64 t107, .string t108, .int .i64 t109, .int .i64 0]) ?_ 3 _ rfl; (with_reducible repeat (first | refine xA5 ?_ _ | refine xA8 ?_ | refine xA4 ?_ _)); refine xAh (cs := #[.int .i64 t107, .string t108, .int .i64 0, .int .i64 0]) ?_ 2 _ rfl; (with_reducible repeat (first | refine xA5 ?_ _ | refine xA8 ?_ | refine xA4 ?_ _)); refine xAh (cs := #[.int .i64 t107, .string (⟨#[]⟩ : ByteArray), .int .i64 0, .int .i64 0]) ?_ 1 _ rfl; (with_reducible repeat (first | refine xA5 ?_ _ | refine xA8 ?_ | refine xA4 ?_ _)); refine xAh (cs := #[.int .i64 0, .string (⟨#[]⟩ : ByteArray), .int .i64 0, .int .i64 0]) ?_ 0 _ rfl; (with_reducible repeat (first | refine xA5 ?_ _ | refine xA8 ?_ | refine xA4 ?_ _)); exact BK114.out) hg (Kd.R_away HO_5.out (fun _ hk => hk.2))); have n1_ := Aside0.mk (hb); have n2_ := Aside0.mk (ho); clear BK114; clear HB; clear HO_5; have BK114 := n0_; have HB := n1_; have HO117 := n2_; clear n0_ n1_ n2_; clear ho hb hg hat) | ((with_reducible refine xAj (f := 28) rfl ?_); refine xB6 (some 42) rfl rfl Tryd.func28 (by kernel_rfl) rfl #[.string a0, .int .i64 t111] rfl (by (try simp only [List.map_toArray, List.map_cons, List.map_nil]); first | done | rfl | (simp only [List.length_drop, List.length_take]; rfl)) ?_; (with_reducible refine (xBa.calls k1 a0 t111 t118 _ A10.out).mono ?_); rintro e w' ⟨rfl, ⟨nd, rfl⟩⟩; refine ⟨_, rfl, ?_⟩))
        go_roundg k1
        case measure => have := HK1.out; omega
        case rel => exact ⟨(y115), (t118), (by first | rfl | (simp; done) | (simp [*]; done)), H', ⟨by have := HK1.out; omega⟩, ⟨by (with_reducible repeat (first | apply Kd.R_alloc | apply Kd.R_drewN | apply Kd.R_drew)); exact Kd.R_mono HO117.out (fun _ hk => trivial)⟩, ⟨by repeat (first | (with_reducible first | exact HB.out | apply xA1 | apply xA0 | apply below_drew1 | refine xA6 ?_ GE114.out) | exact HB.out)⟩⟩
       ·rw [if_neg c9] at H
        exact absurd H (by simp)
      ·rw [if_neg c8] at H
       have c8b0 : (t112 == 0) = false := beq_eq_false_iff_ne.mpr c8
       have c8b1 : (t112 != 0) = true := bne_iff_ne.mpr c8
       simp only [Option.some.injEq, Prod.mk.injEq] at H
       obtain ⟨rfl, rfl, rfl⟩ := H
       obtain ⟨Ao16, co16, eo16⟩ := Kd.R_slice HO_5.out
       subst eo16
       go_wp2_with (first | ((with_reducible refine xAj (f := 29) rfl ?_); refine xB6 (some 27) rfl rfl Tryd.func29 (by kernel_rfl) rfl #[.string a0, .int .i64 x6_1] rfl (by (try simp only [List.map_toArray, List.map_cons, List.map_nil]); first | done | rfl | (simp only [List.length_drop, List.length_take]; rfl)) ?_; (with_reducible refine (xDi.calls a0 x6_1 t107 t108 t109 t110 t111 t112 t113 _ A7.out).mono ?_); rintro e w17 ⟨rfl, hb⟩; refine ⟨_, rfl, ?_⟩; have n0_ := Aside0.mk (Kd.R_below (by (with_reducible repeat (first | apply Kd.R_alloc | apply Kd.R_drewN | apply Kd.R_drew)); exact HO_5.out) hb); have n1_ := Aside0.mk (xAi (by repeat (first | (with_reducible first | exact HB.out | apply xA1 | apply xA0 | apply below_drew1) | exact HB.out)) hb); clear HO_5; clear HB; have HO_5 := n0_; have HB := n1_; clear n0_ n1_; (try clear hb); (try clear hb2); (try clear hk); (try clear hi)) | ((with_reducible refine xBq (N := 7) rfl ?_); refine xBm ?hg (N := 7) ?hd (cs := #[.int .i64 0, .string (⟨#[]⟩ : ByteArray), .int .i64 0, .int .i64 0]) (t := 60) ?hr ?_; (case hd => rfl); (case hg => rfl); (case hr => first | (go_simp; done) | (go_simp; rfl)); intro gb114 hg w18 hbox hb; have n0_ := Aside0.mk (Kd.R_below (Kd.R_elderB (by (with_reducible repeat (first | apply Kd.R_alloc | apply Kd.R_drewN | apply Kd.R_drew)); exact HO_5.out) gb114 (Nat.le_of_eq hg.symm)) hb); have n1_ := Aside0.mk (xAi (by repeat (first | (with_reducible first | exact HB.out | apply xA1 | apply xA0 | apply below_drew1) | exact HB.out)) hb); have n2_ := Aside0.mk (hbox); have n3_ := Aside0.mk ((by rw [hg]; exact (xAs (by repeat (first | (with_reducible first | exact HB.out | apply xA1 | apply xA0 | apply below_drew1) | exact HB.out))) : w.heap.size ≤ gb114)); have n4_ := Aside0.mk ((by rw [hg]; exact (xAs (by repeat (first | (with_reducible first | exact HB.out | apply xA1 | apply xA0 | apply below_drew1) | exact HB.out))) : w.heap.size ≤ gb114)); clear HO_5; clear HB; have HO_5 := n0_; have HB := n1_; have BK114 := n2_; have GW114 := n3_; have GE114 := n4_; clear n0_ n1_ n2_ n3_ n4_; clear hb hbox hg; obtain ⟨hcz19_0, hcz19_1, hcz19_2, hcz19_3, hfz19_0, hfz19_1, hfz19_2, hfz19_3⟩ := ex4 BK114.out))
       go_ret3
       exact ⟨_, by first | rfl | (simp <;> rfl) | (simp [*] <;> rfl), by first | exact Kd.R_nil _ _ _ _ _ | exact Kd.N_nil _ _ _ _ _ | exact Kd.V_nil _ _ _ _ _ | exact Kd.Q_nil _ _ _ _ _ | exact Kd.S_nil _ _ _ _ _, by repeat (first | (with_reducible first | exact HB.out | apply xA1 | apply xA0 | apply below_drew1 | refine xA6 ?_ GE114.out) | exact HB.out)⟩
    ·rw [if_neg c4] at H
     have c4b0 : decide (x6_1 < (a0.size : Int)) = false := decide_eq_false c4
     clear c4
     simp only [Option.some.injEq, Prod.mk.injEq] at H
     obtain ⟨rfl, rfl, rfl⟩ := H
     go_wp2
     go_ret3
     exact ⟨_, by first | rfl | (simp <;> rfl) | (simp [*] <;> rfl), by (with_reducible repeat (first | apply Kd.R_alloc | apply Kd.R_drewN | apply Kd.R_drew)); exact HO_5.out, by repeat (first | (with_reducible first | exact HB.out | apply xA1 | apply xA0 | apply below_drew1) | exact HB.out)⟩

end Go.Proofs.YtknbfhhmjbnemaaDoor.P
end
section
namespace Go.Proofs.YtknbfhhmjbnemaaDoor.P
open Go.RowKit Go.Proofs.YtknbfhhmjbnemaaDoorW.PrintWords Go.Proofs.YtknbfhhmjbnemaaDoorW.PrintLast Go.Proofs.YtknbfhhmjbnemaaDoorW.PrintMore

/-- A file's statements. -/
def xGb : Nat → List S60 → Int → List S25 → PR (List S25)
 | 0, _, _, _ => none
 | k + 1, T, en, acc => if acc.length ≤ 1000000 then (if T = [] then some (.ok (acc, T)) else pbd (pstmt k T en) fun x T1 => xGb k T1 en (acc ++ [x])) else none
/-- What Parse hands back. -/
def xIu (w : World) (n : S25) (er at_ : Int) (e : Ending) (w' : World) : Prop := ∃ v, e = .returned (.tuple #[.agg #[.string n.f0, .string n.f1, .int .i64 n.f2, .int .i64 n.f3, v], .int .i64 er, .int .i64 at_]) ∧ Kd.N k25 25 w' w.heap.size (fun k => w.heap.size ≤ k) v n.f4 ∧ Below w.heap.size w w'
theorem results9 (tmps : Array Value) (w : World) (bn be ba : Nat) (a b c d f : Value) (E K : Int) (h2 : (tmps[2]?).getD undef = .pointer (some ⟨bn, 0, none⟩)) (h3 : (tmps[3]?).getD undef = .pointer (some ⟨be, 0, none⟩)) (h4 : (tmps[4]?).getD undef = .pointer (some ⟨ba, 0, none⟩))
  (hn : w.heap[bn]? = some (.cells #[a, b, c, d, f] 25 (0, 0))) (he : w.heap[be]? = some (.cells #[.int .i64 E] 26 (0, 0))) (hk : w.heap[ba]? = some (.cells #[.int .i64 K] 3 (0, 0))) :
  (results Tryd.f9 tmps).run Tryd.prog w = .ok (.tuple #[.agg #[a, b, c, d, f], .int .i64 E, .int .i64 K]) w := by
 have he0 : w.cell? ⟨be, 0, none⟩ = some (.int .i64 E) := (xAb he 0).trans rfl
 have hk0 : w.cell? ⟨ba, 0, none⟩ = some (.int .i64 K) := (xAb hk 0).trans rfl
 have n0 : w.cell? ⟨bn, 0, none⟩ = some a := (xAb hn 0).trans rfl
 have n1 : w.cell? ⟨bn, 1, none⟩ = some b := (xAb hn 1).trans rfl
 have n2 : w.cell? ⟨bn, 2, none⟩ = some c := (xAb hn 2).trans rfl
 have n3 : w.cell? ⟨bn, 3, none⟩ = some d := (xAb hn 3).trans rfl
 have n4 : w.cell? ⟨bn, 4, none⟩ = some f := (xAb hn 4).trans rfl
 simp [results, Tryd.results9, go_sem, h2, h3, h4, he0, hk0, n0, n1, n2, n3, n4]
set_option maxHeartbeats 16000000 in
set_option maxRecDepth 100000 in
theorem xIb (k : Nat) (s : ByteArray) (T : List S60) (er at_ : Int) (w : World) (h : xB4.f k s = some (T, er, at_)) (he : ¬ er = 0) :
  Calls Tryd.prog 9 #[.string s] w (xIu w z25 er at_) := by
 have hmf : ∀ (fn : Fn) (first cap : Array Value) (w : World), (Instr.makeFunc fn first cap).run Tryd.prog w = .ok (.func fn first cap) w := fun _ _ _ _ => rfl
 have hu25 := Tryd.underlying25
 have HS := Aside0.mk h
 have d0 : (er != 0) = true := by simpa using he
 have d1 : (er == 0) = false := by simpa using he
 clear h he
 have HN := Aside0.mk (show (((w.alloc (.cells #[.string (⟨#[]⟩ : ByteArray), .string (⟨#[]⟩ : ByteArray), .int .i64 0, .int .i64 0, .slice none 0 0] 25 (0, 0))).alloc (.cells #[.int .i64 0] 26 (0, 0))).alloc (.cells #[.int .i64 0] 3 (0, 0))).heap[w.heap.size]? = some (.cells #[.string (⟨#[]⟩ : ByteArray), .string (⟨#[]⟩ : ByteArray), .int .i64 0, .int .i64 0, .slice none 0 0] 25 (0, 0)) from xA4 (xA4 (xBn _ _) _) _)
 have HE := Aside0.mk (show (((w.alloc (.cells #[.string (⟨#[]⟩ : ByteArray), .string (⟨#[]⟩ : ByteArray), .int .i64 0, .int .i64 0, .slice none 0 0] 25 (0, 0))).alloc (.cells #[.int .i64 0] 26 (0, 0))).alloc (.cells #[.int .i64 0] 3 (0, 0))).heap[w.heap.size + 1]? = some (.cells #[.int .i64 0] 26 (0, 0)) from xA4 (by have := xBn (w.alloc (.cells #[.string (⟨#[]⟩ : ByteArray), .string (⟨#[]⟩ : ByteArray), .int .i64 0, .int .i64 0, .slice none 0 0] 25 (0, 0))) (.cells #[.int .i64 0] 26 (0, 0)); rwa [World.size_alloc] at this) _)
 have HA := Aside0.mk (show (((w.alloc (.cells #[.string (⟨#[]⟩ : ByteArray), .string (⟨#[]⟩ : ByteArray), .int .i64 0, .int .i64 0, .slice none 0 0] 25 (0, 0))).alloc (.cells #[.int .i64 0] 26 (0, 0))).alloc (.cells #[.int .i64 0] 3 (0, 0))).heap[w.heap.size + 1 + 1]? = some (.cells #[.int .i64 0] 3 (0, 0)) from by have := xBn ((w.alloc (.cells #[.string (⟨#[]⟩ : ByteArray), .string (⟨#[]⟩ : ByteArray), .int .i64 0, .int .i64 0, .slice none 0 0] 25 (0, 0))).alloc (.cells #[.int .i64 0] 26 (0, 0))) (.cells #[.int .i64 0] 3 (0, 0)); rwa [World.size_alloc, World.size_alloc] at this)
 have HB := Aside0.mk (show Below w.heap.size w (((w.alloc (.cells #[.string (⟨#[]⟩ : ByteArray), .string (⟨#[]⟩ : ByteArray), .int .i64 0, .int .i64 0, .slice none 0 0] 25 (0, 0))).alloc (.cells #[.int .i64 0] 26 (0, 0))).alloc (.cells #[.int .i64 0] 3 (0, 0))) from xA1 (xA1 (xA1 (Below.refl _ _) _) _) _)
 go_enter_defers Tryd.func9, Tryd.ntmps9
 go_upto_region 1 with (fail)
 generalize (((w.alloc (.cells #[.string (⟨#[]⟩ : ByteArray), .string (⟨#[]⟩ : ByteArray), .int .i64 0, .int .i64 0, .slice none 0 0] 25 (0, 0))).alloc (.cells #[.int .i64 0] 26 (0, 0))).alloc (.cells #[.int .i64 0] 3 (0, 0))) = w1 at *
 have NE1 := Aside0.mk (show w.heap.size + 1 ≠ w.heap.size + 1 + 1 by omega)
 have NE2 := Aside0.mk (show w.heap.size ≠ w.heap.size + 1 by omega)
 have NE3 := Aside0.mk (show w.heap.size ≠ w.heap.size + 1 + 1 by omega)
 have GE1 := Aside0.mk (show w.heap.size ≤ w.heap.size + 1 by omega)
 have GE2 := Aside0.mk (show w.heap.size ≤ w.heap.size + 1 + 1 by omega)
 generalize hbe : w.heap.size + 1 = be at *
 generalize hba : be + 1 = ba at *
 clear hbe hba
 have nba := NE1.out
 have nba' := NE1.out.symm
 go_upto_region 2 with (go_at_call 17; (with_reducible refine (xB4.calls k s T er at_ w1 HS.out).mono ?_); rintro e w2 ⟨v0, rfl, hR, hb⟩; have HR := Aside0.mk hR; have HB2 := Aside0.mk (xC5 HB.out HB.out.size hb); have HN2 := Aside0.mk (xAt HN.out hb); have HE2 := Aside0.mk (xAt HE.out hb); have HA2 := Aside0.mk (xAt HA.out hb); have c0 := (xAb HE2.out 0).trans rfl; have f0 := xAr HE2.out 0; have c1 := (xAb HA2.out 0).trans rfl; have f1 := xAr HA2.out 0; clear hR hb)
 generalize hW : World.setCell (World.setCell w2 _ _) _ _ = W3
 have HN3 := Aside0.mk (show W3.heap[w.heap.size]? = some (.cells #[.string (⟨#[]⟩ : ByteArray), .string (⟨#[]⟩ : ByteArray), .int .i64 0, .int .i64 0, .slice none 0 0] 25 (0, 0)) from by rw [← hW]; exact xAk (p := ⟨ba, 0, none⟩) (xAk (p := ⟨be, 0, none⟩) HN2.out NE2.out _) NE3.out _)
 have HE3 := Aside0.mk (show W3.heap[be]? = some (.cells #[.int .i64 er] 26 (0, 0)) from by rw [← hW]; exact xAk (p := ⟨ba, 0, none⟩) (xAh HE2.out 0 _ rfl) NE1.out _)
 have HA3 := Aside0.mk (show W3.heap[ba]? = some (.cells #[.int .i64 at_] 3 (0, 0)) from by rw [← hW]; exact xAh (xAk (p := ⟨be, 0, none⟩) HA2.out NE1.out.symm _) 0 _ rfl)
 have HB3 := Aside0.mk (show Below w.heap.size w W3 from by rw [← hW]; exact (HB2.out.setCell (p := ⟨be, 0, none⟩) GE1.out _).setCell (p := ⟨ba, 0, none⟩) GE2.out _)
 clear hW HN HE HA HB HN2 HE2 HA2 HB2 c0 f0 c1 f1
 have c0 := (xAb HE3.out 0).trans rfl
 go_upto_region 3 with (fail)
 clear c0
 have HN4 := Aside0.mk (xA8 HN3.out)
 have HE4 := Aside0.mk (xA8 HE3.out)
 have HA4 := Aside0.mk (xA8 HA3.out)
 have HB4 := Aside0.mk (xCe HB3.out)
 have x0 := (xAb HE4.out 0).trans rfl
 have x1 := (xAb HA4.out 0).trans rfl
 refine wp_region_noPanic ?_
 refine xDa (n := 6) (S := fun w' => w'.cell? ⟨be, 0, none⟩ = some (.int .i64 er) ∧ w'.cell? ⟨ba, 0, none⟩ = some (.int .i64 at_)) (ds := [5]) #[false, false, false, false, false, false] (by kernel_rfl) rfl rfl ?hS (fun hHeld => ?_)
 case hS => exact ⟨x0, x1⟩
 generalize World.drew W3 = W4 at *
 refine xBy (i := 0) (N := some 15) (v := ?_) (a' := ?_) #[true, false, false, false, false, false] rfl rfl (by kernel_rfl) (fun _ _ _ h => h) (Or.inl ⟨by rfl, ?_⟩) ?_ ?_
 rotate_left
 ·intro w'
  go_simp
  with_reducible rfl
 rotate_left
 ·simp only [Act.put, List.setIfInBounds_toArray, List.set_cons_zero, List.set_cons_succ, xB0, xB1]
  rfl
 refine xCr (i := 1) (N := some 16) (v := ?_) (a' := ?_) #[true, true, false, false, false, false] rfl rfl (by kernel_rfl) (fun _ _ _ h => h) (Or.inl ⟨by rfl, ?_⟩) hHeld ?_ ?_
 rotate_left
 ·rintro w' ⟨s0, s1⟩
  go_simp
  with_reducible rfl
 rotate_left
 ·simp only [Act.put, List.setIfInBounds_toArray, List.set_cons_zero, List.set_cons_succ, xB0, xB1]
  rfl
 refine xCr (i := 2) (N := some 17) (v := ?_) (a' := ?_) #[true, true, true, false, false, false] rfl rfl (by kernel_rfl) (fun _ _ _ h => h) (Or.inl ⟨by rfl, ?_⟩) hHeld ?_ ?_
 rotate_left
 ·rintro w' ⟨s0, s1⟩
  go_simp
  with_reducible rfl
 rotate_left
 ·simp only [Act.put, List.setIfInBounds_toArray, List.set_cons_zero, List.set_cons_succ, xB0, xB1]
  rfl
 obtain ⟨c0, c1, c2, c3, c4, f0, f1, f2, f3, f4⟩ := ex5 HN4.out
 refine one_ (i := 3) (N := none) #[true, true, true, true, false, false] rfl rfl (by kernel_rfl) (by decide) (fun K hK => ?_)
 refine xFz (w1 := ?_) (by rfl) rfl ?_ ?_
 rotate_left
 ·go_simp
  rfl
 have HE5 := Aside0.mk (xAk (p := ⟨w.heap.size, 4, none⟩) (xAk (p := ⟨w.heap.size, 3, none⟩) (xAk (p := ⟨w.heap.size, 2, none⟩) (xAk (p := ⟨w.heap.size, 1, none⟩) (xAk (p := ⟨w.heap.size, 0, none⟩) HE4.out NE2.out.symm (.string (⟨#[]⟩ : ByteArray))) NE2.out.symm (.string (⟨#[]⟩ : ByteArray))) NE2.out.symm (.int .i64 0)) NE2.out.symm (.int .i64 0)) NE2.out.symm (.slice none 0 0))
 have HA5 := Aside0.mk (xAk (p := ⟨w.heap.size, 4, none⟩) (xAk (p := ⟨w.heap.size, 3, none⟩) (xAk (p := ⟨w.heap.size, 2, none⟩) (xAk (p := ⟨w.heap.size, 1, none⟩) (xAk (p := ⟨w.heap.size, 0, none⟩) HA4.out NE3.out.symm (.string (⟨#[]⟩ : ByteArray))) NE3.out.symm (.string (⟨#[]⟩ : ByteArray))) NE3.out.symm (.int .i64 0)) NE3.out.symm (.int .i64 0)) NE3.out.symm (.slice none 0 0))
 have HN5 := Aside0.mk (xAh (xAh (xAh (xAh (xAh HN4.out 0 (.string (⟨#[]⟩ : ByteArray)) rfl) 1 (.string (⟨#[]⟩ : ByteArray)) rfl) 2 (.int .i64 0) rfl) 3 (.int .i64 0) rfl) 4 (.slice none 0 0) rfl)
 have HB5 := Aside0.mk (((((HB4.out.setCell (p := ⟨w.heap.size, 0, none⟩) (Nat.le_refl _) (.string (⟨#[]⟩ : ByteArray))).setCell (p := ⟨w.heap.size, 1, none⟩) (Nat.le_refl _) (.string (⟨#[]⟩ : ByteArray))).setCell (p := ⟨w.heap.size, 2, none⟩) (Nat.le_refl _) (.int .i64 0)).setCell (p := ⟨w.heap.size, 3, none⟩) (Nat.le_refl _) (.int .i64 0)).setCell (p := ⟨w.heap.size, 4, none⟩) (Nat.le_refl _) (.slice none 0 0))
 clear c0 f0 c1 f1 c2 f2 c3 f3 c4 f4
 have y0 := (xAb HE5.out 0).trans rfl
 have f0 := xAr HE5.out 0
 have y1 := (xAb HA5.out 0).trans rfl
 have f1 := xAr HA5.out 0
 try clear hHeld
 refine hK.out _ _ ⟨y0, y1⟩ (fun hHeld => ?_)
 clear hK K
 generalize World.setCell (World.setCell (World.setCell (World.setCell (World.setCell W4 _ _) _ _) _ _) _ _) _ _ = W5 at *
 refine one_ (i := 4) (N := none) #[true, true, true, true, true, false] rfl rfl (by kernel_rfl) (by decide) (fun K hK => ?_)
 refine xFz (w1 := ?_) (by rfl) rfl ?_ ?_
 rotate_left
 ·go_simp
  rfl
 have HE6 := Aside0.mk (xAh HE5.out 0 (.int .i64 er) rfl)
 have HA6 := Aside0.mk (xAk (p := ⟨be, 0, none⟩) HA5.out NE1.out.symm (.int .i64 er))
 have HN6 := Aside0.mk (xAk (p := ⟨be, 0, none⟩) HN5.out NE2.out (.int .i64 er))
 have HB6 := Aside0.mk (HB5.out.setCell (p := ⟨be, 0, none⟩) GE1.out (.int .i64 er))
 clear y0 y1 f0 f1
 have y0 := (xAb HE6.out 0).trans rfl
 have y1 := (xAb HA6.out 0).trans rfl
 have f1 := xAr HA6.out 0
 try clear hHeld
 refine hK.out _ _ ⟨y0, y1⟩ (fun hHeld => ?_)
 clear hK K
 refine xGv (i := 5) (N := none) #[true, true, true, true, true, true] rfl rfl (by kernel_rfl) (by decide) (fun K hK => ?_)
 refine xFz (w1 := ?_) (by rfl) rfl ?_ ?_
 rotate_left
 ·go_simp
  rfl
 refine hK.out _ _ ?_
 clear hK K
 refine xEf (by kernel_rfl) ?_
 refine NoPanic.normal ?_
 go_wp2
 have g1 := xAk (p := ⟨ba, 0, none⟩) HN6.out NE3.out (.int .i64 at_)
 have g2 := xAk (p := ⟨ba, 0, none⟩) HE6.out NE1.out (.int .i64 at_)
 have g3 := xAh HA6.out 0 (.int .i64 at_) rfl
 exact ⟨_, results9 _ _ w.heap.size be ba _ _ _ _ _ _ _ rfl rfl rfl g1 g2 g3, ⟨_, rfl, Kd.N_nil _ _ _ _ _, HB6.out.setCell (p := ⟨ba, 0, none⟩) GE2.out _⟩⟩

section
variable {P : Program} {ops : Array Oper} {Q : Exit → Act → World → Prop}
/-- A post with another word for the normal end. -/
def Qn (Kc : Act → World → Prop) (Q : Exit → Act → World → Prop) : Exit → Act → World → Prop
 | .normal, a, w => Kc a w
 | e, a, w => Q e a w
/-- An event's law in its list form serves as one step of a region that draws. -/
theorem xDs {i : Nat} {o : Oper} {a : Act} {w : World} {Kc : Act → World → Prop} (ho : ops[i]? = some o) (h : wpList P ops (Qn Kc Q) [o] a w) : wpOp P ops Q i Kc a w := by
  unfold wpOp
  simp only [ho]
  unfold wpList at h
  split
  · rename_i hw
    rw [if_pos hw] at h
    rcases h with h | ⟨h1, h2⟩
    · left
      unfold Oper.wp at *
      generalize (execOp a.eval o).run P w = r at *
      cases r with
      | ok n w' =>
        cases n <;> first
          | exact h
          | (refine Calls.mono h fun e w'' he => ?_
             cases e <;> exact he)
          | exact Rows.mono h fun u w'' he => he
      | halt x w' => cases x <;> exact h
    · exact .inr ⟨h1, h2⟩
  · rename_i hw
    rw [if_neg hw] at h
    exact h
end
section
variable {P : Program} {ops : Array Oper} {Q : Exit → Act → World → Prop} {md : Region.Mode} {S : World → Prop} {ds : List Nat}
end
section
variable {P : Program} {ops : Array Oper} {Q : Exit → Act → World → Prop} {md : Region.Mode} {S : World → Prop} {ds : List Nat}
end

theorem xHe : (Tryd.prog.info? 25).map (·.size) = some 5 := by kernel_rfl
/-- What Parse makes of a file's statements. -/
def parseO (w : World) (r : Except PErr (List S25 × List S60)) : Ending → World → Prop := match r with | .ok (L, _) => xIu w ⟨⟨#[102, 105, 108, 101]⟩, ⟨#[]⟩, 0, 0, L⟩ 0 (-1) | .error x => xIu w z25 x.1 x.2
/-- A row of tokens is read by its block alone. -/
theorem xLh {w w1 : World} {A : Option Addr} {n : Nat} {T : List S60} (h : Kd.C k60 w A n T) (hb : ∀ a, A = some a → w1.heap[a.block]? = w.heap[a.block]?) : Kd.C k60 w1 A n T := by
 obtain ⟨h1, h2, h3⟩ := h
 refine ⟨h1, h2, fun hp => ?_⟩
 obtain ⟨ad, rfl, hc⟩ := h3 hp
 refine ⟨ad, rfl, fun j p hj => ?_⟩
 obtain ⟨c, hl, hK, hcc⟩ := hc j p hj
 refine ⟨c, hl, ?_, fun i u hu => ?_⟩
 ·rw [xIy hK]
  exact k60_mk w1 p
 ·rw [← hcc i u hu]
  simp [World.cell?, xEi, hb ad rfl]
theorem xJx {B : Nat} {w W : World} (h : Below B w W) (p : Addr) (v : Value) : Below B (w.setCell p v) (W.setCell p v) := by
 refine ⟨h.os, h.tape, h.output, by simpa [World.setCell] using h.size, fun k hk => ?_⟩
 simp only [World.setCell, Array.getElem?_modify]
 rw [h.block k hk]
theorem PsS.both {w0 w W : World} {g : Nat} {T : List S60} {en : Int} (h : PsS w0 w W g T en) {b j t : Nat} {cs : Array Value} (hb : w0.heap[b]? = some (.cells cs t (0, 0))) (ht : t ≠ 60) (hb0 : b ≠ 0) (v : Value) :
  PsS (w0.setCell ⟨b, j, none⟩ v) (W.setCell ⟨b, j, none⟩ v) (W.setCell ⟨b, j, none⟩ v) g T en := by
 obtain ⟨⟨A, c, hbk, hc, hC, hT⟩, hg, hB, hK, m, hm⟩ := h
 have hne : ∀ a, A = some a → a.block ≠ b := by
  rintro a ha e
  obtain ⟨cs', h2⟩ := hT a ha
  rw [e, hb] at h2
  injection h2 with h2
  injection h2 with _ h3 _
  exact ht h3
 have hsz : (w0.setCell ⟨b, j, none⟩ v).heap.size = w0.heap.size := by simp [World.setCell]
 have hgb : g ≠ b := by have := xBx hb; omega
 refine ⟨⟨A, c, xAk (p := ⟨b, j, none⟩) hbk hgb v, hc, xLh hC (fun a ha => Below.heap_setCell w0 ⟨b, j, none⟩ v _ (hne a ha)), fun a ha => ?_⟩, by rw [hsz]; exact hg, by rw [hsz]; exact xJx hB _ _, xBo.refl _ _ _, m, ?_⟩
 ·obtain ⟨cs', h2⟩ := hT a ha
  exact ⟨cs', (Below.heap_setCell w0 ⟨b, j, none⟩ v _ (hne a ha)).trans h2⟩
 ·have h4 : (w0.setCell ⟨b, j, none⟩ v).heap[0]? = w0.heap[0]? := Below.heap_setCell w0 ⟨b, j, none⟩ v 0 (fun e => hb0 e.symm)
  rw [← hm]
  simp [World.cell?, h4]
theorem PsS.grow {w0 w W W1 : World} {g : Nat} {T : List S60} {en : Int} {row : Option Nat} (h : PsS w0 w W g T en) (hg : W.grownBy W1 row) (hne : some g ≠ row) (hr : ∀ k, row = some k → w0.heap.size ≤ k) : PsS w0 W1 W1 g T en := by
 obtain ⟨⟨A, c, hbk, hc, hC⟩, hgg, hB, hK, hm⟩ := h
 exact ⟨⟨A, c, xCv hbk hg hne, hc, hC⟩, hgg, xDh hB row hB.size hg (fun k hk => hr k hk), xBo.refl _ _ _, hm⟩
/-- The result boxes of Parse. -/
structure LpB (w W : World) (S0 bn be ba : Nat) (n4 : Value) (a0 : Int) : Prop where
 nb : W.heap[bn]? = some (.cells #[.string (⟨#[102, 105, 108, 101]⟩ : ByteArray), .string (⟨#[]⟩ : ByteArray), .int .i64 0, .int .i64 0, n4] 25 (0, 0))
 eb : W.heap[be]? = some (.cells #[.int .i64 0] 26 (0, 0))
 ab : W.heap[ba]? = some (.cells #[.int .i64 a0] 3 (0, 0))
 bel : Below w.heap.size w W
 n1 : bn < S0
 n2 : be < S0
 n3 : ba < S0
 n4 : w.heap.size ≤ bn
 n5 : w.heap.size ≤ be
 n6 : w.heap.size ≤ ba
 n0 : 0 < w.heap.size
section
variable {w W W1 w0 : World} {S0 bn be ba g : Nat} {n4 : Value} {a0 : Int}
theorem LpB.below (h : LpB w W S0 bn be ba n4 a0) (hb : Below W.heap.size W W1) : LpB w W1 S0 bn be ba n4 a0 :=
 ⟨xAt h.nb hb, xAt h.eb hb, xAt h.ab hb, xC5 h.bel h.bel.size hb, h.n1, h.n2, h.n3, h.n4, h.n5, h.n6, h.n0⟩
/-- Behind a call of the parser's. -/
theorem LpB.keep (h : LpB w W S0 bn be ba n4 a0) (h0 : Below S0 w0 W) (h1 : Below S0 w0 W1) (hk : xBo W W1 g none) (hg : S0 ≤ g) : LpB w W1 S0 bn be ba n4 a0 := by
 have := h.n1; have := h.n2; have := h.n3; have := h.n4
 refine ⟨hk.blk h.nb (by omega) (by simp), hk.blk h.eb (by omega) (by simp), hk.blk h.ab (by omega) (by simp), ?_, h.n1, h.n2, h.n3, h.n4, h.n5, h.n6, h.n0⟩
 refine ⟨(h1.os.trans h0.os.symm).trans h.bel.os, (h1.tape.trans h0.tape.symm).trans h.bel.tape, (h1.output.trans h0.output.symm).trans h.bel.output, Nat.le_trans h.bel.size hk.1, fun k hk2 => ?_⟩
 rw [h1.block k (by omega), ← h0.block k (by omega)]
 exact h.bel.block k hk2
theorem LpB.grown {row : Option Nat} (h : LpB w W S0 bn be ba n4 a0) (hg : W.grownBy W1 row) (hr : ∀ k, row = some k → S0 ≤ k) : LpB w W1 S0 bn be ba n4 a0 := by
 have := h.n1; have := h.n2; have := h.n3; have := h.n4
 refine ⟨xCv h.nb hg (fun e => by have := hr _ e.symm; omega), xCv h.eb hg (fun e => by have := hr _ e.symm; omega), xCv h.ab hg (fun e => by have := hr _ e.symm; omega), xDh h.bel row h.bel.size hg (fun k hk => by have := hr k hk; omega), h.n1, h.n2, h.n3, h.n4, h.n5, h.n6, h.n0⟩
theorem LpB.setL (h : LpB w W S0 bn be ba n4 a0) (v : Value) : LpB w (W.setCell ⟨bn, 4, none⟩ v) S0 bn be ba v a0 :=
 ⟨xAh h.nb 4 v rfl, xAk (p := ⟨bn, 4, none⟩) h.eb (xDw h.eb h.nb (by decide)) v, xAk (p := ⟨bn, 4, none⟩) h.ab (xDw h.ab h.nb (by decide)) v, h.bel.setCell (p := ⟨bn, 4, none⟩) h.n4 v, h.n1, h.n2, h.n3, h.n4, h.n5, h.n6, h.n0⟩
end
/-- Where Parse's loop stands: g the parser's box; S0 the heap's size ahead of it. -/
structure LpS (w W : World) (S0 bn be ba g : Nat) (T : List S60) (en a0 : Int) (Lv : Value) (L : List S25) : Prop where
 b : LpB w W S0 bn be ba Lv a0
 ps : ∃ w0, w0.heap.size = S0 ∧ PsS w0 W W g T en
 row : Kd.N k25 25 W w.heap.size (fun k => S0 ≤ k ∧ k ≠ g) Lv L
section
variable {w W W1 w0 : World} {S0 bn be ba g : Nat} {T T' : List S60} {en a0 : Int} {Lv : Value} {L : List S25}
theorem LpS.ge (h : LpS w W S0 bn be ba g T en a0 Lv L) : S0 ≤ g := by
 obtain ⟨w0, hs, hp⟩ := h.ps
 exact hs ▸ hp.ge
theorem LpS.lt (h : LpS w W S0 bn be ba g T en a0 Lv L) : g < W.heap.size := by
 obtain ⟨w0, hs, hp⟩ := h.ps
 exact hp.lt
theorem LpS.below (h : LpS w W S0 bn be ba g T en a0 Lv L) (hb : Below W.heap.size W W1) : LpS w W1 S0 bn be ba g T en a0 Lv L := by
 obtain ⟨w0, hs, hp⟩ := h.ps
 exact ⟨h.b.below hb, ⟨w0, hs, (hp.below hb).start⟩, Kd.N_below h.row hb⟩
theorem LpS.drew (h : LpS w W S0 bn be ba g T en a0 Lv L) : LpS w W.drew S0 bn be ba g T en a0 Lv L := h.below (xCe (Below.refl _ _))
theorem LpS.call (h : LpS w W S0 bn be ba g T en a0 Lv L) (hs : w0.heap.size = S0) (h0 : PsS w0 W W g T en) (h1 : PsS w0 W W1 g T' en) : LpS w W1 S0 bn be ba g T' en a0 Lv L :=
 ⟨h.b.keep (hs ▸ h0.bel) (hs ▸ h1.bel) h1.kb h.ge, ⟨w0, hs, h1.start⟩, Kd.N_keep h.row h1.kb (fun k hk => hk.2)⟩
theorem LpS.fault (h : LpS w W S0 bn be ba g T en a0 Lv L) (hs : w0.heap.size = S0) (h0 : PsS w0 W W g T en) {x : PErr} {e : Ending} (h1 : PBad w0 W g x e W1) : LpB w W1 S0 bn be ba Lv a0 :=
 h.b.keep (hs ▸ h0.bel) (hs ▸ h1.2.1) h1.2.2 h.ge
/-- Between the row's growing and its store. -/
structure LpA (w W : World) (S0 bn be ba g : Nat) (T : List S60) (en a0 : Int) (Lv : Value) (v : Value) (L : List S25) : Prop where
 b : LpB w W S0 bn be ba Lv a0
 ps : ∃ w0, w0.heap.size = S0 ∧ PsS w0 W W g T en
 row : Kd.N k25 25 W w.heap.size (fun k => S0 ≤ k ∧ k ≠ g) v L
theorem LpA.mk' (h : LpS w W S0 bn be ba g T en a0 Lv L) {ys : List S25} {v : Value} (hg : W.grownBy W1 Lv.ownBlock) (hr : Kd.N k25 25 W1 w.heap.size (fun k => S0 ≤ k ∧ k ≠ g) v ys) : LpA w W1 S0 bn be ba g T en a0 Lv v ys := by
 obtain ⟨w0, hs, hp⟩ := h.ps
 exact ⟨h.b.grown hg (fun k hk => (h.row.1 k hk).1), ⟨w0, hs, hp.grow hg (fun e => (h.row.1 g e.symm).2 rfl) (fun k hk => hs ▸ (h.row.1 k hk).1)⟩, hr⟩
/-- The row's element was stored. -/
theorem LpA.grown {v : Value} (h : LpA w W S0 bn be ba g T en a0 Lv v L) {ys : List S25} {row : Option Nat} (hv : row = v.ownBlock) (hg : W.grownBy W1 row) (hr : Kd.N k25 25 W1 w.heap.size (fun k => S0 ≤ k ∧ k ≠ g) v ys) : LpA w W1 S0 bn be ba g T en a0 Lv v ys := by
 subst hv
 obtain ⟨w0, hs, hp⟩ := h.ps
 exact ⟨h.b.grown hg (fun k hk => (h.row.1 k hk).1), ⟨w0, hs, hp.grow hg (fun e => (h.row.1 g e.symm).2 rfl) (fun k hk => hs ▸ (h.row.1 k hk).1)⟩, hr⟩
/-- .. and the file's node has the row. -/
theorem LpA.setL {v : Value} (h : LpA w W S0 bn be ba g T en a0 Lv v L) : LpS w (W.setCell ⟨bn, 4, none⟩ v) S0 bn be ba g T en a0 v L := by
 obtain ⟨w0, hs, hp⟩ := h.ps
 have hn := h.b.n1
 have hb : w0.heap[bn]? = some (.cells #[.string (⟨#[102, 105, 108, 101]⟩ : ByteArray), .string (⟨#[]⟩ : ByteArray), .int .i64 0, .int .i64 0, Lv] 25 (0, 0)) := (hp.bel.block bn (by omega)).symm.trans h.b.nb
 refine ⟨h.b.setL v, ⟨w0.setCell ⟨bn, 4, none⟩ v, by simpa [World.setCell] using hs, hp.both hb (by decide) (by have := h.b.n4; have := h.b.n0; omega) v⟩, Kd.N_far (p := ⟨bn, 4, none⟩) h.row (fun k hk => by show k ≠ bn; omega) v⟩
end
/-- Behind the call, the literal and the append, in whatever order. -/
def LpJ (w W : World) (S0 bn be ba g : Nat) (T : List S60) (en a0 : Int) (Lv : Value) (L : List S25) (x : S25) (s : Value × Value × Value) : Prop :=
 ∃ (v : Value) (gR c8 base : Nat), s.1 = .agg #[.string x.f0, .string x.f1, .int .i64 x.f2, .int .i64 x.f3, v] ∧ s.2.2 = .slice (some ⟨gR, 0, none⟩) (L.length + 1) c8 ∧
  LpA w W S0 bn be ba g T en a0 Lv (.slice (some ⟨gR, 0, none⟩) (L.length + 1) c8) (L ++ [z25]) ∧ Kd.N k25 25 W base (fun k => (S0 ≤ k ∧ k ≠ g) ∧ k ≠ gR) v x.f4
section
variable {w W W1 W2 w0 : World} {S0 bn be ba g : Nat} {T T' : List S60} {en a0 : Int} {Lv : Value} {L : List S25}
theorem LpS.rowlt (h : LpS w W S0 bn be ba g T en a0 Lv L) : ∀ k, Lv.ownBlock = some k → k < W.heap.size := Kd.N_lt h.row
/-- The call came ahead of the append: b0 the heap's size ahead of the call. -/
theorem LpJ.first {x : S25} {v v37 v36 : Value} {b0 base : Nat} (h : LpS w W S0 bn be ba g T en a0 Lv L) (hN : Kd.N k25 25 W base (fun k => b0 ≤ k) v x.f4) (hb : ∀ k, Lv.ownBlock = some k → k < b0) (hg0 : g < b0)
  (hg : W.grownBy W1 Lv.ownBlock) (hr : Kd.N k25 25 W1 w.heap.size (fun k => S0 ≤ k ∧ k ≠ g) v37 (L ++ [z25])) (hat : v37.ownBlock = Lv.ownBlock ∨ ∃ b, v37.ownBlock = some b ∧ W.heap.size ≤ b) :
  LpJ w W1 S0 bn be ba g T en a0 Lv L x (.agg #[.string x.f0, .string x.f1, .int .i64 x.f2, .int .i64 x.f3, v], v36, v37) := by
 obtain ⟨gR, cap, hv, _⟩ := Kd.N_form hr (by simp)
 have hlen : (L ++ [z25]).length = L.length + 1 := by simp
 rw [hlen] at hv
 have h1 := Kd.N_after (u := Lv) (u1 := v37) (Kd.N_mono (ok' := fun k => (b0 ≤ k) ∧ some k ≠ Lv.ownBlock) hN (fun k hk => ⟨hk, fun e => by have := hb k e.symm; omega⟩)) hg hat
 subst hv
 refine ⟨v, gR, cap, base, rfl, rfl, LpA.mk' h hg hr, Kd.N_mono h1 (fun k hk => ⟨⟨by have := h.ge; omega, by have := hk.1; omega⟩, fun e => hk.2 (by rw [e]; simp [Value.ownBlock])⟩)⟩
/-- The row's last element was stored. -/
theorem LpS.stored {gR n c : Nat} {ys : List S25} (h : LpS w W S0 bn be ba g T en a0 (.slice (some ⟨gR, 0, none⟩) n c) L) (hg : W.grownBy W1 (some gR)) (hr : Kd.N k25 25 W1 w.heap.size (fun k => S0 ≤ k ∧ k ≠ g) (.slice (some ⟨gR, 0, none⟩) n c) ys) : LpS w W1 S0 bn be ba g T en a0 (.slice (some ⟨gR, 0, none⟩) n c) ys := by
 have h1 : LpA w W S0 bn be ba g T en a0 (.slice (some ⟨gR, 0, none⟩) n c) (.slice (some ⟨gR, 0, none⟩) n c) L := ⟨h.b, h.ps, h.row⟩
 have h2 := h1.grown (row := some gR) (by simp [Value.ownBlock]) hg hr
 exact ⟨h2.b, h2.ps, h2.row⟩
theorem xIr {α : Type} (l : List α) (z x : α) : (l ++ [z]).set l.length x = l ++ [x] := by
 rw [List.set_append_right _ _ (Nat.le_refl _)]
 simp
end
/-- What stands behind Parse's last statement. -/
structure End9 (w : World) (ds : List Deferred) (bn be ba : Nat) (L : List S25) (e : Exit) (a : Act) (W : World) : Prop where
 e : e = .normal
 d : a.defers = ds
 t2 : (a.tmps[2]?).getD undef = .pointer (some ⟨bn, 0, none⟩)
 t3 : (a.tmps[3]?).getD undef = .pointer (some ⟨be, 0, none⟩)
 t4 : (a.tmps[4]?).getD undef = .pointer (some ⟨ba, 0, none⟩)
 row : ∃ Lv, W.heap[bn]? = some (.cells #[.string (⟨#[102, 105, 108, 101]⟩ : ByteArray), .string (⟨#[]⟩ : ByteArray), .int .i64 0, .int .i64 0, Lv] 25 (0, 0)) ∧ Kd.N k25 25 W w.heap.size (fun k => w.heap.size ≤ k) Lv L
 eb : W.heap[be]? = some (.cells #[.int .i64 0] 26 (0, 0))
 ab : W.heap[ba]? = some (.cells #[.int .i64 (-1)] 3 (0, 0))
 bel : Below w.heap.size w W
section
variable {P : Program} {Q : Exit → Act → World → Prop}
/-- A region's post where it may panic in a function that defers: the frame's parts that the deferred calls use. -/
def QP (Q : Exit → Act → World → Prop) (ds : List Deferred) (b2 b3 b4 : Value) (Pc : List PanicEntry → World → Prop) : Exit → Act → World → Prop
 | .panic c, a, w => a.defers = ds ∧ (a.tmps[2]?).getD undef = b2 ∧ (a.tmps[3]?).getD undef = b3 ∧ (a.tmps[4]?).getD undef = b4 ∧ Pc c w
 | e, a, w => Q e a w
theorem xH8 {id : Nat} {ops : Array Oper} {b : Bool} {a : Act} {w : World} (ds : List Deferred) (b2 b3 b4 : Value) (Pc : List PanicEntry → World → Prop)
  (hp : ∀ c (a : Act) w, a.defers = ds → (a.tmps[2]?).getD undef = b2 → (a.tmps[3]?).getD undef = b3 → (a.tmps[4]?).getD undef = b4 → Pc c w → Q (.panic c) a w)
  (h : (Code.region id ops b).wp P (QP Q ds b2 b3 b4 Pc) a w) : (Code.region id ops b).wp P Q a w :=
 Code.wp_mono (fun e a w h => by
  cases e with
  | panic c => exact hp c a w h.1 h.2.1 h.2.2.1 h.2.2.2.1 h.2.2.2.2
  | _ => exact h) h
theorem QP.hq {ds : List Deferred} {b2 b3 b4 : Value} {Pc : List PanicEntry → World → Prop} {N : Option Tmp} {n : Tmp} {v : Value} (hN : N = some n) (h2 : n ≠ 2) (h3 : n ≠ 3) (h4 : n ≠ 4) : ∀ c (a : Act) w, QP Q ds b2 b3 b4 Pc (.panic c) (a.put N v) w → QP Q ds b2 b3 b4 Pc (.panic c) a w := by
 subst hN
 rintro c ⟨t, d⟩ w ⟨h0, ha, hb, hc, hd⟩
 simp only [Act.put, Array.getElem?_setIfInBounds] at *
 rw [if_neg h2] at ha
 rw [if_neg h3] at hb
 rw [if_neg h4] at hc
 exact ⟨h0, ha, hb, hc, hd⟩
variable {ops : Array Oper} {md : Region.Mode} {S : World → Prop} {ds : List Nat}
/-- One of ds may come up: by an event's law in its list form. -/
theorem lastW_ {i : Nat} {oi : Oper} {fuel : Nat} {l : Array Bool} {a : Act} {w : World} (l' : Array Bool) (hi : ops[i]? = some oi) (hc : xG8 md ops l l' i = true) (hd : i ∈ ds)
  (h : wpList P ops (Qn (fun a' w' => xB3 P md ops Q S ds fuel l' a' w') Q) [oi] a w) : xB3 P md ops Q S ds (fuel + 1) l a w := by
 simp only [xG8, Bool.and_eq_true, beq_iff_eq] at hc
 obtain ⟨h1, h2⟩ := hc
 subst h2
 refine xDm h1 (by simp) (fun j hj => ?_)
 obtain rfl : j = i := by simpa using hj
 exact wpOp_mono (fun a' w' h' => ⟨fun hn => absurd hd hn, h'⟩) (xDs hi h)
/-- Two may come up, both of ds: list forms. -/
theorem twoE_ {i j : Nat} {oi oj : Oper} {fuel : Nat} {l : Array Bool} {a : Act} {w : World} (li lj : Array Bool) (hi : ops[i]? = some oi) (hj : ops[j]? = some oj)
  (hc : (Region.ready md ops l == [i, j] && l.setIfInBounds i true == li && l.setIfInBounds j true == lj) = true) (hdi : i ∈ ds) (hdj : j ∈ ds) (hij : i ≠ j)
  (h1 : wpList P ops (Qn (fun a' w' => xB3 P md ops Q S ds fuel li a' w') Q) [oi] a w)
  (h2 : wpList P ops (Qn (fun a' w' => xB3 P md ops Q S ds fuel lj a' w') Q) [oj] a w) : xB3 P md ops Q S ds (fuel + 1) l a w := by
 simp only [Bool.and_eq_true, beq_iff_eq] at hc
 obtain ⟨⟨h3, h4⟩, h5⟩ := hc
 subst h4
 subst h5
 refine xDm h3 (by simp) (fun m hm => ?_)
 by_cases hmi : m = i
 ·subst hmi
  exact wpOp_mono (fun a' w' h' => ⟨fun hn => absurd hdi hn, h'⟩) (xDs hi h1)
 ·obtain rfl : m = j := by simpa [hmi] using hm
  exact wpOp_mono (fun a' w' h' => ⟨fun hn => absurd hdj hn, h'⟩) (xDs hj h2)
end

set_option maxHeartbeats 16000000 in
set_option maxRecDepth 100000 in
theorem xJr (k k2 : Nat) (s : ByteArray) (T : List S60) (at_ m : Int) (r : Except PErr (List S25 × List S60)) (w : World) (hm : w.cell? ⟨0, 0, none⟩ = some (.int .i64 m)) (h : xB4.f k s = some (T, 0, at_)) (hr : xGb k2 T s.size [] = some r) :
    Calls Tryd.prog 9 #[.string s] w (parseO w r) := by
  have hmf : ∀ (fn : Fn) (first cap : Array Value) (w : World), (Instr.makeFunc fn first cap).run Tryd.prog w = .ok (.func fn first cap) w := fun _ _ _ _ => rfl
  have hu25 := Tryd.underlying25
  have HS := Aside0.mk h
  have HM := Aside0.mk hm
  have HH := Aside0.mk hr
  clear h hm hr
  have HN := Aside0.mk (show (((w.alloc (.cells #[.string (⟨#[]⟩ : ByteArray), .string (⟨#[]⟩ : ByteArray), .int .i64 0, .int .i64 0, .slice none 0 0] 25 (0, 0))).alloc (.cells #[.int .i64 0] 26 (0, 0))).alloc (.cells #[.int .i64 0] 3 (0, 0))).heap[w.heap.size]? = some (.cells #[.string (⟨#[]⟩ : ByteArray), .string (⟨#[]⟩ : ByteArray), .int .i64 0, .int .i64 0, .slice none 0 0] 25 (0, 0)) from xA4 (xA4 (xBn _ _) _) _)
  have HE := Aside0.mk (show (((w.alloc (.cells #[.string (⟨#[]⟩ : ByteArray), .string (⟨#[]⟩ : ByteArray), .int .i64 0, .int .i64 0, .slice none 0 0] 25 (0, 0))).alloc (.cells #[.int .i64 0] 26 (0, 0))).alloc (.cells #[.int .i64 0] 3 (0, 0))).heap[w.heap.size + 1]? = some (.cells #[.int .i64 0] 26 (0, 0)) from xA4 (by have := xBn (w.alloc (.cells #[.string (⟨#[]⟩ : ByteArray), .string (⟨#[]⟩ : ByteArray), .int .i64 0, .int .i64 0, .slice none 0 0] 25 (0, 0))) (.cells #[.int .i64 0] 26 (0, 0)); rwa [World.size_alloc] at this) _)
  have HA := Aside0.mk (show (((w.alloc (.cells #[.string (⟨#[]⟩ : ByteArray), .string (⟨#[]⟩ : ByteArray), .int .i64 0, .int .i64 0, .slice none 0 0] 25 (0, 0))).alloc (.cells #[.int .i64 0] 26 (0, 0))).alloc (.cells #[.int .i64 0] 3 (0, 0))).heap[w.heap.size + 1 + 1]? = some (.cells #[.int .i64 0] 3 (0, 0)) from by have := xBn ((w.alloc (.cells #[.string (⟨#[]⟩ : ByteArray), .string (⟨#[]⟩ : ByteArray), .int .i64 0, .int .i64 0, .slice none 0 0] 25 (0, 0))).alloc (.cells #[.int .i64 0] 26 (0, 0))) (.cells #[.int .i64 0] 3 (0, 0)); rwa [World.size_alloc, World.size_alloc] at this)
  have HB := Aside0.mk (show Below w.heap.size w (((w.alloc (.cells #[.string (⟨#[]⟩ : ByteArray), .string (⟨#[]⟩ : ByteArray), .int .i64 0, .int .i64 0, .slice none 0 0] 25 (0, 0))).alloc (.cells #[.int .i64 0] 26 (0, 0))).alloc (.cells #[.int .i64 0] 3 (0, 0))) from xA1 (xA1 (xA1 (Below.refl _ _) _) _) _)
  go_enter_defers Tryd.func9, Tryd.ntmps9
  go_upto_region 1 with (fail)
  generalize (((w.alloc (.cells #[.string (⟨#[]⟩ : ByteArray), .string (⟨#[]⟩ : ByteArray), .int .i64 0, .int .i64 0, .slice none 0 0] 25 (0, 0))).alloc (.cells #[.int .i64 0] 26 (0, 0))).alloc (.cells #[.int .i64 0] 3 (0, 0))) = w1 at *
  have NE1 := Aside0.mk (show w.heap.size + 1 ≠ w.heap.size + 1 + 1 by omega)
  have NE2 := Aside0.mk (show w.heap.size ≠ w.heap.size + 1 by omega)
  have NE3 := Aside0.mk (show w.heap.size ≠ w.heap.size + 1 + 1 by omega)
  have GE1 := Aside0.mk (show w.heap.size ≤ w.heap.size + 1 by omega)
  have GE2 := Aside0.mk (show w.heap.size ≤ w.heap.size + 1 + 1 by omega)
  generalize hbe : w.heap.size + 1 = be at *
  generalize hba : be + 1 = ba at *
  clear hbe hba
  have nba := NE1.out
  have nba' := NE1.out.symm
  go_upto_region 2 with (go_at_call 17; (with_reducible refine (xB4.calls k s T 0 at_ w1 HS.out).mono ?_); rintro e w2 ⟨v0, rfl, hR, hb⟩; have HR := Aside0.mk hR; have HB2 := Aside0.mk (xC5 HB.out HB.out.size hb); have HN2 := Aside0.mk (xAt HN.out hb); have HE2 := Aside0.mk (xAt HE.out hb); have HA2 := Aside0.mk (xAt HA.out hb); have c0 := (xAb HE2.out 0).trans rfl; have f0 := xAr HE2.out 0; have c1 := (xAb HA2.out 0).trans rfl; have f1 := xAr HA2.out 0; clear hR hb)
  generalize hW : World.setCell (World.setCell w2 _ _) _ _ = W3
  have HN3 := Aside0.mk (show W3.heap[w.heap.size]? = some (.cells #[.string (⟨#[]⟩ : ByteArray), .string (⟨#[]⟩ : ByteArray), .int .i64 0, .int .i64 0, .slice none 0 0] 25 (0, 0)) from by rw [← hW]; exact xAk (p := ⟨ba, 0, none⟩) (xAk (p := ⟨be, 0, none⟩) HN2.out NE2.out _) NE3.out _)
  have HE3 := Aside0.mk (show W3.heap[be]? = some (.cells #[.int .i64 0] 26 (0, 0)) from by rw [← hW]; exact xAk (p := ⟨ba, 0, none⟩) (xAh HE2.out 0 _ rfl) NE1.out _)
  have HA3 := Aside0.mk (show W3.heap[ba]? = some (.cells #[.int .i64 at_] 3 (0, 0)) from by rw [← hW]; exact xAh (xAk (p := ⟨be, 0, none⟩) HA2.out NE1.out.symm _) 0 _ rfl)
  have HB3 := Aside0.mk (show Below w.heap.size w W3 from by rw [← hW]; exact (HB2.out.setCell (p := ⟨be, 0, none⟩) GE1.out _).setCell (p := ⟨ba, 0, none⟩) GE2.out _)
  have HR3 := Aside0.mk (show Kd.R k60 60 W3 w1.heap.size (fun k => w1.heap.size ≤ k) v0 T from by rw [← hW]; exact Kd.R_far (p := ⟨ba, 0, none⟩) (Kd.R_far (p := ⟨be, 0, none⟩) (Kd.R_mono (Kd.R_bound HR.out) (fun k hk => hk.2.1)) (fun k hk => by have := xBx HE.out; show k ≠ be; omega) _) (fun k hk => by have := xBx HA.out; show k ≠ ba; omega) _)
  clear hW HN HE HA HB HN2 HE2 HA2 HB2 c0 f0 c1 f1
  have c0 := (xAb HE3.out 0).trans rfl
  obtain ⟨A, c, rfl⟩ := Kd.R_slice HR.out
  go_upto_region 6 with (fail)
  clear c0
  generalize hW : World.alloc W3 _ = Wp
  have SZ0 := Aside0.mk (xJt HM.out)
  obtain ⟨_, hcc, hreads⟩ := Kd.R_reads' HR3.out
  have HTY := Kd.R_typed HR3.out
  have PS := Aside0.mk (show PsS W3 Wp Wp W3.heap.size T s.size from by
    rw [← hW]
    refine ⟨⟨A, c, xBn _ _, hcc, hreads, fun a ha => ?_⟩, Nat.le_refl _, xA1 (Below.refl _ _) _, xBo.refl _ _ _, m, xAq HB3.out HM.out⟩
    subst ha
    obtain ⟨gg, rfl⟩ := Kd.R_head HR3.out
    exact HTY gg (by simp [Value.ownBlock]))
  clear hcc hreads HTY
  have HNp := Aside0.mk (show Wp.heap[w.heap.size]? = some (.cells #[.string (⟨#[]⟩ : ByteArray), .string (⟨#[]⟩ : ByteArray), .int .i64 0, .int .i64 0, .slice none 0 0] 25 (0, 0)) from by rw [← hW]; exact xA4 HN3.out _)
  have HEp := Aside0.mk (show Wp.heap[be]? = some (.cells #[.int .i64 0] 26 (0, 0)) from by rw [← hW]; exact xA4 HE3.out _)
  have HAp := Aside0.mk (show Wp.heap[ba]? = some (.cells #[.int .i64 at_] 3 (0, 0)) from by rw [← hW]; exact xA4 HA3.out _)
  have HBp := Aside0.mk (show Below w.heap.size w Wp from by rw [← hW]; exact xA1 HB3.out _)
  clear hW
  have c0 := (xAb HNp.out 0).trans rfl
  have f0 := xAr HNp.out 0
  go_upto_block 0 with (fail)
  clear c0 f0
  generalize hW : World.setCell Wp _ _ = W6
  have LS := Aside0.mk (show LpS w W6 W3.heap.size w.heap.size be ba W3.heap.size T s.size at_ (.slice none 0 0) [] from by
    have h1 := xBx HN3.out
    have h2 := xBx HE3.out
    have h3 := xBx HA3.out
    have h4 := SZ0.out
    rw [← hW]
    exact ⟨⟨xAh HNp.out 0 _ rfl, xAk (p := ⟨w.heap.size, 0, none⟩) HEp.out NE2.out.symm _, xAk (p := ⟨w.heap.size, 0, none⟩) HAp.out NE3.out.symm _, HBp.out.setCell (p := ⟨w.heap.size, 0, none⟩) (Nat.le_refl _) _, h1, h2, h3, Nat.le_refl _, GE1.out, GE2.out, SZ0.out⟩, ⟨W3.setCell ⟨w.heap.size, 0, none⟩ (.string (⟨#[102, 105, 108, 101]⟩ : ByteArray)), by simp [World.setCell], PS.out.both HN3.out (by decide) (Nat.ne_of_gt SZ0.out) _⟩, Kd.N_nil _ _ _ _ _⟩)
  clear hW HNp HEp HAp HBp PS HR3 HR HN3 HE3 HA3 HB3 nba nba'
  generalize W3.heap.size = g at *
  go_wp2_with (fail)
  go_loopg [] k2 (fun kx wr => ∃ (kk : Nat) (TT : List S60) (acc : List S25) (Lv : Value), kk ≤ kx ∧ Aside0 (LpS w wr g w.heap.size be ba g TT s.size at_ Lv acc) ∧ Aside0 (xGb kk TT s.size acc = some r))
  case atStart => exact ⟨k2, _, _, _, Nat.le_refl _, LS, HH⟩
  case round =>
    clear HH LS
    obtain ⟨kk, TT, acc, Lv, hk1, EL, HH⟩ := hrel
    cases kk with
    | zero => exact absurd HH.out (by rw [xGb]; simp)
    | succ kk =>
      have hl := HH.out
      clear HH
      rw [xGb] at hl
      obtain ⟨AL, cL, rfl⟩ := Kd.N_slice EL.out.row
      by_cases hb : acc.length ≤ 1000000
      case neg => rw [if_neg hb] at hl; cases hl
      rw [if_pos hb] at hl
      obtain ⟨w0, hs0, hps⟩ := EL.out.ps
      have HS0 := Aside0.mk hs0
      have HPS := Aside0.mk hps
      clear hs0
      obtain ⟨⟨At, ct, hbk, hct, hCt, hx1⟩, hx2⟩ := hps
      have x0 := (xAb hbk 0).trans rfl
      clear hbk hct hCt hx1 hx2
      by_cases hT : TT = []
      · skip
        subst hT
        have d0 := True.intro
        rw [if_pos rfl] at hl
        simp only [Option.some.injEq] at hl
        subst hl
        obtain ⟨n0, n1, n2, n3, n4, m0, m1, m2, m3, m4⟩ := ex5 EL.out.b.nb
        go_upto_region 9 with (fail)
        have me0 := (xAb EL.out.b.eb 0).trans rfl
        have ma0 := (xAb EL.out.b.ab 0).trans rfl
        have q1 := NE1.out
        have q2 := NE2.out
        have q3 := NE3.out
        have q1s := NE1.out.symm
        have q2s := NE2.out.symm
        have q3s := NE3.out.symm
        have me := xAr EL.out.b.eb 0
        have ma := xAr EL.out.b.ab 0
        refine Code.wp_mono (P := Tryd.prog) (Q := End9 w [{ target := .fn (.func 18) #[.pointer (some ⟨w.heap.size, 0, none⟩), .pointer (some ⟨be, 0, none⟩), .pointer (some ⟨ba, 0, none⟩)], args := #[] }] w.heap.size be ba acc) ?_ ?_
        · rintro e ⟨t, d⟩ w' h9
          obtain ⟨rfl, hd, h2, h3, h4, ⟨Lz, hnb, hrow⟩, heb, hab, hbel⟩ := h9
          have HD := Aside0.mk hd
          have H2 := Aside0.mk h2
          have H3 := Aside0.mk h3
          have H4 := Aside0.mk h4
          have HZ := Aside0.mk (And.intro hnb (And.intro heb (And.intro hab (And.intro hbel hrow))))
          clear hd h2 h3 h4 hnb heb hab hbel hrow x0 n0 n1 n2 n3 n4 m0 m1 m2 m3 m4 me ma me0 ma0 q1 q2 q3 q1s q2s q3s
          go_wp2_with (fail)
          have hd := HD.out
          have hz := HZ.out
          show Leaves Tryd.prog Tryd.f9 t _ d _ _
          rw [hd]
          refine leaves_cons (by intro h; cases h) rfl ((xIe _ _ _ _).mono ?_)
          rintro e u' w9 ⟨rfl, rfl, rfl⟩
          exact ⟨_, results9 _ _ w.heap.size be ba _ _ _ _ _ _ _ H2.out H3.out H4.out hz.1 hz.2.1 hz.2.2.1, ⟨_, rfl, hz.2.2.2.2, hz.2.2.2.1⟩⟩
        clear x0
        refine wp_region_lit ?_
        refine wpList_plain rfl (fun K hK => ?_)
        go_simp
        refine hK _ _ ?_
        clear hK K
        refine wpList_plain rfl (fun K hK => ?_)
        go_simp
        refine hK _ _ ?_
        clear hK K
        refine wpList_plain rfl (fun K hK => ?_)
        go_simp
        refine hK _ _ ?_
        clear hK K
        refine wpList_plain rfl (fun K hK => ?_)
        go_simp
        refine hK _ _ ?_
        clear hK K
        have g1 := xAk (p := ⟨ba, 0, none⟩) (xAk (p := ⟨be, 0, none⟩) (xAh (xAh (xAh (xAh (xAh EL.out.b.nb 0 (.string (⟨#[102, 105, 108, 101]⟩ : ByteArray)) rfl) 1 (.string (⟨#[]⟩ : ByteArray)) rfl) 2 (.int .i64 0) rfl) 3 (.int .i64 0) rfl) 4 (.slice AL acc.length cL) rfl) NE2.out (.int .i64 0)) NE3.out (.int .i64 (-1))
        have g2 := xAk (p := ⟨ba, 0, none⟩) (xAh (xAk (p := ⟨w.heap.size, 4, none⟩) (xAk (p := ⟨w.heap.size, 3, none⟩) (xAk (p := ⟨w.heap.size, 2, none⟩) (xAk (p := ⟨w.heap.size, 1, none⟩) (xAk (p := ⟨w.heap.size, 0, none⟩) EL.out.b.eb NE2.out.symm (.string (⟨#[102, 105, 108, 101]⟩ : ByteArray))) NE2.out.symm (.string (⟨#[]⟩ : ByteArray))) NE2.out.symm (.int .i64 0)) NE2.out.symm (.int .i64 0)) NE2.out.symm (.slice AL acc.length cL)) 0 (.int .i64 0) rfl) NE1.out (.int .i64 (-1))
        have g3 := xAh (xAk (p := ⟨be, 0, none⟩) (xAk (p := ⟨w.heap.size, 4, none⟩) (xAk (p := ⟨w.heap.size, 3, none⟩) (xAk (p := ⟨w.heap.size, 2, none⟩) (xAk (p := ⟨w.heap.size, 1, none⟩) (xAk (p := ⟨w.heap.size, 0, none⟩) EL.out.b.ab NE3.out.symm (.string (⟨#[102, 105, 108, 101]⟩ : ByteArray))) NE3.out.symm (.string (⟨#[]⟩ : ByteArray))) NE3.out.symm (.int .i64 0)) NE3.out.symm (.int .i64 0)) NE3.out.symm (.slice AL acc.length cL)) NE1.out.symm (.int .i64 0)) 0 (.int .i64 (-1)) rfl
        have hBz := ((((((EL.out.b.bel.setCell (p := ⟨w.heap.size, 0, none⟩) (Nat.le_refl _) (.string (⟨#[102, 105, 108, 101]⟩ : ByteArray))).setCell (p := ⟨w.heap.size, 1, none⟩) (Nat.le_refl _) (.string (⟨#[]⟩ : ByteArray))).setCell (p := ⟨w.heap.size, 2, none⟩) (Nat.le_refl _) (.int .i64 0)).setCell (p := ⟨w.heap.size, 3, none⟩) (Nat.le_refl _) (.int .i64 0)).setCell (p := ⟨w.heap.size, 4, none⟩) (Nat.le_refl _) (.slice AL acc.length cL)).setCell (p := ⟨be, 0, none⟩) GE1.out (.int .i64 0)).setCell (p := ⟨ba, 0, none⟩) GE2.out (.int .i64 (-1))
        have hRz := (Kd.N_far (p := ⟨ba, 0, none⟩) (Kd.N_far (p := ⟨be, 0, none⟩) (Kd.N_far (p := ⟨w.heap.size, 4, none⟩) (Kd.N_far (p := ⟨w.heap.size, 3, none⟩) (Kd.N_far (p := ⟨w.heap.size, 2, none⟩) (Kd.N_far (p := ⟨w.heap.size, 1, none⟩) (Kd.N_far (p := ⟨w.heap.size, 0, none⟩) EL.out.row (fun k hk => by have h1 := EL.out.b.n1; have h2 := EL.out.b.n2; have h3 := EL.out.b.n3; have h4 := hk.1; show k ≠ w.heap.size; omega) (.string (⟨#[102, 105, 108, 101]⟩ : ByteArray))) (fun k hk => by have h1 := EL.out.b.n1; have h2 := EL.out.b.n2; have h3 := EL.out.b.n3; have h4 := hk.1; show k ≠ w.heap.size; omega) (.string (⟨#[]⟩ : ByteArray))) (fun k hk => by have h1 := EL.out.b.n1; have h2 := EL.out.b.n2; have h3 := EL.out.b.n3; have h4 := hk.1; show k ≠ w.heap.size; omega) (.int .i64 0)) (fun k hk => by have h1 := EL.out.b.n1; have h2 := EL.out.b.n2; have h3 := EL.out.b.n3; have h4 := hk.1; show k ≠ w.heap.size; omega) (.int .i64 0)) (fun k hk => by have h1 := EL.out.b.n1; have h2 := EL.out.b.n2; have h3 := EL.out.b.n3; have h4 := hk.1; show k ≠ w.heap.size; omega) (.slice AL acc.length cL)) (fun k hk => by have h1 := EL.out.b.n1; have h2 := EL.out.b.n2; have h3 := EL.out.b.n3; have h4 := hk.1; show k ≠ be; omega) (.int .i64 0)) (fun k hk => by have h1 := EL.out.b.n1; have h2 := EL.out.b.n2; have h3 := EL.out.b.n3; have h4 := hk.1; show k ≠ ba; omega) (.int .i64 (-1)))
        exact ⟨rfl, rfl, rfl, rfl, rfl, ⟨_, g1, Kd.N_mono hRz (fun k hk => Nat.le_trans (Nat.le_trans EL.out.b.n4 (Nat.le_of_lt EL.out.b.n1)) hk.1)⟩, g2, g3, hBz⟩
      rw [if_neg hT] at hl
      have HH := Aside0.mk hl
      clear hl
      have hlen : 0 < TT.length := List.length_pos_iff.mpr hT
      generalize hnn : TT.length = nT at x0 hlen
      clear hnn
      have d1 : (0 : Int) < (nT : Int) := by omega
      go_upto_region 8 with (fail)
      have hh := HH.out
      clear HH x0 d1
      rcases xCw hh with ⟨x, hx, rfl⟩ | ⟨a1, T1, hx, h1⟩
      · skip
        have HX := Aside0.mk hx
        clear hx hh
        refine xH8 [{ target := .fn (.func 18) #[.pointer (some ⟨w.heap.size, 0, none⟩), .pointer (some ⟨be, 0, none⟩), .pointer (some ⟨ba, 0, none⟩)], args := #[] }] (.pointer (some ⟨w.heap.size, 0, none⟩)) (.pointer (some ⟨be, 0, none⟩)) (.pointer (some ⟨ba, 0, none⟩)) (fun c W' => c = xEr x ∧ LpB w W' g w.heap.size be ba (.slice AL acc.length cL) at_) ?_ ?_
        · rintro c ⟨t, d⟩ W' hd h2 h3 h4 ⟨rfl, LB⟩
          show Leaves Tryd.prog Tryd.f9 t _ d _ _
          replace hd : d = _ := hd
          rw [hd]
          refine leaves_cons (by intro h; cases h) rfl ((xF5 w.heap.size be ba 0 x _ _ _ _ _ _ _ W' LB.nb LB.eb LB.ab).mono ?_)
          rintro e u' w9 ⟨rfl, rfl, g1, g2, g3, g4⟩
          exact ⟨_, results9 t w9 w.heap.size be ba _ _ _ _ _ _ _ h2 h3 h4 g1 g2 g3, ⟨_, rfl, Kd.N_nil _ _ _ _ _, g4 _ _ (Nat.le_refl _) GE1.out GE2.out LB.bel⟩⟩
        refine xDa (n := 11) (S := fun w' => w'.cell? ⟨w.heap.size, 4, none⟩ = some (.slice AL acc.length cL)) (ds := [8, 10]) #[false, false, false, false, false, false, false, false, false, false, false] (by kernel_rfl) rfl rfl ?hS (fun hHeld => ?_)
        case hS => exact (xAb (xA8 EL.out.b.nb) 4).trans rfl
        have ED := Aside0.mk EL.out.drew
        have HB0 := Aside0.mk (show ∀ k, (Value.slice AL acc.length cL).ownBlock = some k → k < wr.drew.heap.size from EL.out.rowlt)
        have HG0 := Aside0.mk (show g < wr.drew.heap.size from EL.out.lt)
        clear EL HPS HS0
        generalize World.drew wr = wd at *
        have x4 := (xAb ED.out.b.nb 4).trans rfl
        refine xBy (i := 0) (N := some 31) (v := ?_) (a' := ?_) #[true, false, false, false, false, false, false, false, false, false, false] rfl rfl (by kernel_rfl) (QP.hq rfl (by decide) (by decide) (by decide)) (Or.inl ⟨by rfl, ?_⟩) ?_ ?_
        rotate_left
        · intro w'
          go_simp
          with_reducible rfl
        rotate_left
        · simp only [Act.put, List.setIfInBounds_toArray, List.set_cons_zero, List.set_cons_succ, xB0, xB1]
          rfl
        refine xBy (i := 2) (N := some 33) (v := ?_) (a' := ?_) #[true, false, true, false, false, false, false, false, false, false, false] rfl rfl (by kernel_rfl) (QP.hq rfl (by decide) (by decide) (by decide)) (Or.inl ⟨by rfl, ?_⟩) ?_ ?_
        rotate_left
        · intro w'
          go_simp
          with_reducible rfl
        rotate_left
        · simp only [Act.put, List.setIfInBounds_toArray, List.set_cons_zero, List.set_cons_succ, xB0, xB1]
          rfl
        refine xCr (i := 1) (N := some 32) (v := ?_) (a' := ?_) #[true, true, true, false, false, false, false, false, false, false, false] rfl rfl (by kernel_rfl) (QP.hq rfl (by decide) (by decide) (by decide)) (Or.inl ⟨by rfl, ?_⟩) hHeld ?_ ?_
        rotate_left
        · rintro w' s0
          go_simp
          with_reducible rfl
        rotate_left
        · simp only [Act.put, List.setIfInBounds_toArray, List.set_cons_zero, List.set_cons_succ, xB0, xB1]
          rfl
        refine xBy (i := 4) (N := some 35) (v := ?_) (a' := ?_) #[true, true, true, false, true, false, false, false, false, false, false] rfl rfl (by kernel_rfl) (QP.hq rfl (by decide) (by decide) (by decide)) (Or.inl ⟨by rfl, ?_⟩) ?_ ?_
        rotate_left
        · intro w'
          go_simp
          with_reducible rfl
        rotate_left
        · simp only [Act.put, List.setIfInBounds_toArray, List.set_cons_zero, List.set_cons_succ, xB0, xB1]
          rfl
        have SZ := Aside0.mk (Nat.le_refl wd.heap.size)
        refine two_ (i := 3) (j := 5) (Ni := some 34) (Nj := some 36) #[true, true, true, true, true, false, false, false, false, false, false] #[true, true, true, false, true, true, false, false, false, false, false] rfl rfl rfl rfl (by kernel_rfl) (by decide) (by decide) ?_ ?_
        · intro K hK
          obtain ⟨w0_1, hs_1, hp_1⟩ := ED.out.ps
          have HS_1 := Aside0.mk hs_1
          have HP_1 := Aside0.mk hp_1
          clear hs_1 hp_1
          refine xF1 Tryd.func19 (by kernel_rfl) rfl #[.pointer (some ⟨g, 0, none⟩)] (by rfl) rfl rfl (by first | rfl | (simp [Act.eval]; done) | (go_simp; done)) (R := PRes (α := S25) w0_1 wd g s.size (xDz wd) (.error x)) (xDp kk g _ _ _ w0_1 wd HP_1.out HX.out) ?_
          rintro e w2 ⟨rfl, h2⟩
          exact .inl ⟨_, rfl, ⟨rfl, rfl, rfl, rfl, rfl, ED.out.fault (x := x) (e := .panicked (xEr x)) HS_1.out HP_1.out ⟨rfl, h2⟩⟩⟩
        · intro K hK
          refine Kd.N_lit_step k25 (w0 := wd) wd.heap.size 25 (by rfl) (N' := 36) rfl (xs := [z25]) (inner := [.string z25.f0, .string z25.f1, .int .i64 z25.f2, .int .i64 z25.f3, .slice none z25.f4.length 0]) (ok := (fun k => wd.heap.size ≤ k)) (okp := (fun k => wd.heap.size ≤ k)) ?hr ((Reps.none _ _).snoc (xDe (base := 0) (Kd.N_nil _ _ _ _ _)) rfl) (fun _ hk => hk) ?hf (Below.refl _ _) (Nat.le_refl _) (by show 1 ≤ 9223372036854775807; decide) ?_
          case hr => first | (go_simp; done) | (go_simp; rfl)
          case hf => exact SZ.out
          intro v7 w7 hN7 hb7 hg7 hat7
          obtain ⟨A7, c7, rfl⟩ := Kd.N_slice hN7
          have E7 := Aside0.mk (ED.out.below hb7)
          have HN7 := Aside0.mk hN7
          have SZ7 := Aside0.mk hb7.size
          have HBB7 := Aside0.mk hb7
          clear hN7 hb7 hg7 hat7
          try clear hHeld
          refine hK.out _ _ ((xAb E7.out.b.nb 4).trans rfl) (fun hHeld => ?_)
          clear hK K
          refine xCm (a' := ?_) ?_ ?_
          rotate_left
          · show Act.put _ (some 36) _ = _
            simp only [Act.put, List.setIfInBounds_toArray, List.set_cons_zero, List.set_cons_succ, xB0, xB1]
            rfl
          refine one_ (i := 3) (N := some 34) #[true, true, true, true, true, true, false, false, false, false, false] rfl rfl (by kernel_rfl) (by decide) (fun K hK => ?_)
          obtain ⟨w0_2, hs_2, hp_2⟩ := E7.out.ps
          have HS_2 := Aside0.mk hs_2
          have HP_2 := Aside0.mk hp_2
          clear hs_2 hp_2
          refine xF1 Tryd.func19 (by kernel_rfl) rfl #[.pointer (some ⟨g, 0, none⟩)] (by rfl) rfl rfl (by first | rfl | (simp [Act.eval]; done) | (go_simp; done)) (R := PRes (α := S25) w0_2 w7 g s.size (xDz w7) (.error x)) (xDp kk g _ _ _ w0_2 w7 HP_2.out HX.out) ?_
          rintro e w2 ⟨rfl, h2⟩
          exact .inl ⟨_, rfl, ⟨rfl, rfl, rfl, rfl, rfl, E7.out.fault (x := x) (e := .panicked (xEr x)) HS_2.out HP_2.out ⟨rfl, h2⟩⟩⟩
      have HX := Aside0.mk hx
      have HH := Aside0.mk h1
      clear hx h1 hh
      refine wp_region_noPanic ?_
      refine xDa (n := 11) (S := fun w' => w'.cell? ⟨w.heap.size, 4, none⟩ = some (.slice AL acc.length cL)) (ds := [8, 10]) #[false, false, false, false, false, false, false, false, false, false, false] (by kernel_rfl) rfl rfl ?hS (fun hHeld => ?_)
      case hS => exact (xAb (xA8 EL.out.b.nb) 4).trans rfl
      have ED := Aside0.mk EL.out.drew
      have HB0 := Aside0.mk (show ∀ k, (Value.slice AL acc.length cL).ownBlock = some k → k < wr.drew.heap.size from EL.out.rowlt)
      have HG0 := Aside0.mk (show g < wr.drew.heap.size from EL.out.lt)
      clear EL HPS HS0
      generalize World.drew wr = wd at *
      have x4 := (xAb ED.out.b.nb 4).trans rfl
      refine xBy (i := 0) (N := some 31) (v := ?_) (a' := ?_) #[true, false, false, false, false, false, false, false, false, false, false] rfl rfl (by kernel_rfl) (fun _ _ _ h => h) (Or.inl ⟨by rfl, ?_⟩) ?_ ?_
      rotate_left
      · intro w'
        go_simp
        with_reducible rfl
      rotate_left
      · simp only [Act.put, List.setIfInBounds_toArray, List.set_cons_zero, List.set_cons_succ, xB0, xB1]
        rfl
      refine xBy (i := 2) (N := some 33) (v := ?_) (a' := ?_) #[true, false, true, false, false, false, false, false, false, false, false] rfl rfl (by kernel_rfl) (fun _ _ _ h => h) (Or.inl ⟨by rfl, ?_⟩) ?_ ?_
      rotate_left
      · intro w'
        go_simp
        with_reducible rfl
      rotate_left
      · simp only [Act.put, List.setIfInBounds_toArray, List.set_cons_zero, List.set_cons_succ, xB0, xB1]
        rfl
      refine xCr (i := 1) (N := some 32) (v := ?_) (a' := ?_) #[true, true, true, false, false, false, false, false, false, false, false] rfl rfl (by kernel_rfl) (fun _ _ _ h => h) (Or.inl ⟨by rfl, ?_⟩) hHeld ?_ ?_
      rotate_left
      · rintro w' s0
        go_simp
        with_reducible rfl
      rotate_left
      · simp only [Act.put, List.setIfInBounds_toArray, List.set_cons_zero, List.set_cons_succ, xB0, xB1]
        rfl
      refine xBy (i := 4) (N := some 35) (v := ?_) (a' := ?_) #[true, true, true, false, true, false, false, false, false, false, false] rfl rfl (by kernel_rfl) (fun _ _ _ h => h) (Or.inl ⟨by rfl, ?_⟩) ?_ ?_
      rotate_left
      · intro w'
        go_simp
        with_reducible rfl
      rotate_left
      · simp only [Act.put, List.setIfInBounds_toArray, List.set_cons_zero, List.set_cons_succ, xB0, xB1]
        rfl
      have SZ := Aside0.mk (Nat.le_refl wd.heap.size)
      refine join_ (σ := Value × Value × Value) 4 #[true, true, true, true, true, true, true, false, false, false, false] (fun sv => [(34, sv.1), (36, sv.2.1), (37, sv.2.2)]) (fun sv W' => LpJ w W' g w.heap.size be ba g T1 s.size at_ (.slice AL acc.length cL) acc a1 sv) ?cont ?go
      case go =>
        intro hcont
        have HC := Aside0.mk hcont
        clear hcont
        refine two_ (i := 3) (j := 5) (Ni := some 34) (Nj := some 36) #[true, true, true, true, true, false, false, false, false, false, false] #[true, true, true, false, true, true, false, false, false, false, false] rfl rfl rfl rfl (by kernel_rfl) (by decide) (by decide) ?_ ?_
        · intro K hK
          obtain ⟨w0_3, hs_3, hp_3⟩ := ED.out.ps
          have HS_3 := Aside0.mk hs_3
          have HP_3 := Aside0.mk hp_3
          clear hs_3 hp_3
          refine xF1 Tryd.func19 (by kernel_rfl) rfl #[.pointer (some ⟨g, 0, none⟩)] (by rfl) rfl rfl (by first | rfl | (simp [Act.eval]; done) | (go_simp; done)) (R := PRes (α := S25) w0_3 wd g s.size (xDz wd) (.ok (a1, T1))) (xDp kk g _ _ _ w0_3 wd HP_3.out HX.out) ?_
          rintro e w2 ⟨⟨v, rfl, hN⟩, h2⟩
          have HV := Aside0.mk hN
          have HP2_3 := Aside0.mk h2
          clear hN h2
          refine .inr ⟨_, rfl, ?_⟩
          have E2 := Aside0.mk (ED.out.call HS_3.out HP_3.out HP2_3.out)
          have SZ := Aside0.mk HP2_3.out.kb.1
          try clear hHeld
          refine hK.out _ _ ((xAb E2.out.b.nb 4).trans rfl) (fun hHeld => ?_)
          clear hK K
          refine xCm (a' := ?_) ?_ ?_
          rotate_left
          · show Act.put _ (some 34) _ = _
            simp only [Act.put, List.setIfInBounds_toArray, List.set_cons_zero, List.set_cons_succ, xB0, xB1]
            rfl
          refine one_ (i := 5) (N := some 36) #[true, true, true, true, true, true, false, false, false, false, false] rfl rfl (by kernel_rfl) (by decide) (fun K hK => ?_)
          refine Kd.N_lit_step k25 (w0 := w2) w2.heap.size 25 (by rfl) (N' := 36) rfl (xs := [z25]) (inner := [.string z25.f0, .string z25.f1, .int .i64 z25.f2, .int .i64 z25.f3, .slice none z25.f4.length 0]) (ok := (fun k => wd.heap.size ≤ k)) (okp := (fun k => wd.heap.size ≤ k)) ?hr ((Reps.none _ _).snoc (xDe (base := 0) (Kd.N_nil _ _ _ _ _)) rfl) (fun _ hk => hk) ?hf (Below.refl _ _) (Nat.le_refl _) (by show 1 ≤ 9223372036854775807; decide) ?_
          case hr => first | (go_simp; done) | (go_simp; rfl)
          case hf => exact SZ.out
          intro v7 w7 hN7 hb7 hg7 hat7
          obtain ⟨A7, c7, rfl⟩ := Kd.N_slice hN7
          have E7 := Aside0.mk (E2.out.below hb7)
          have HN7 := Aside0.mk hN7
          have SZ7 := Aside0.mk hb7.size
          have HBB7 := Aside0.mk hb7
          clear hN7 hb7 hg7 hat7
          try clear hHeld
          refine hK.out _ _ ((xAb E7.out.b.nb 4).trans rfl) (fun hHeld => ?_)
          clear hK K
          refine xCm (a' := ?_) ?_ ?_
          rotate_left
          · show Act.put _ (some 36) _ = _
            simp only [Act.put, List.setIfInBounds_toArray, List.set_cons_zero, List.set_cons_succ, xB0, xB1]
            rfl
          refine one_ (i := 6) (N := some 37) #[true, true, true, true, true, true, true, false, false, false, false] rfl rfl (by kernel_rfl) (by decide) (fun K hK => ?_)
          refine Kd.N_append_rows_step k25 (w0 := w7) w.heap.size (by rfl) (.tmp 32) (.tmp 36) 23 25 (.agg #[.string (⟨#[]⟩ : ByteArray), .string (⟨#[]⟩ : ByteArray), .int .i64 0, .int .i64 0, .slice none 0 0]) 72 rfl Tryd.underlying23 xIz rfl (by decide) (by decide) (.slice AL acc.length cL) acc [z25] A7 1 c7 (fun k => g ≤ k ∧ k ≠ g) (fun k => wd.heap.size ≤ k) rfl rfl E7.out.row (Kd.N_F HN7.out) ?hokp ?hfresh (Below.refl _ _) ?hbase (by first | omega | (simp; done) | (simp; omega)) ?_
          case hokp => intro k hk; have h1 := HG0.out; exact ⟨⟨by have := E7.out.ge; omega, by omega⟩, fun e => by have := HB0.out k e.symm; omega⟩
          case hfresh => intro k hk; have h1 := E7.out.lt; have := E7.out.ge; exact ⟨by omega, by omega⟩
          case hbase => exact E7.out.b.bel.size
          intro v8 w8 hN8 hb8 hg8 hat8
          have HJ := Aside0.mk (LpJ.first (v36 := .slice A7 1 c7) E7.out (Kd.N_below HV.out HBB7.out) HB0.out HG0.out hg8 hN8 hat8)
          have hx4 := (xAb (E7.out.b.grown hg8 (fun k hk => (E7.out.row.1 k hk).1)).nb 4).trans rfl
          clear hN8 hb8 hg8 hat8
          try clear hHeld
          refine hK.out _ _ hx4 (fun hHeld => ?_)
          clear hK K
          refine xCm (a' := ?_) ?_ ?_
          rotate_left
          · show Act.put _ (some 37) _ = _
            simp only [Act.put, List.setIfInBounds_toArray, List.set_cons_zero, List.set_cons_succ, xB0, xB1]
            rfl
          exact HC.out _ w8 HJ.out
        · intro K hK
          refine Kd.N_lit_step k25 (w0 := wd) wd.heap.size 25 (by rfl) (N' := 36) rfl (xs := [z25]) (inner := [.string z25.f0, .string z25.f1, .int .i64 z25.f2, .int .i64 z25.f3, .slice none z25.f4.length 0]) (ok := (fun k => wd.heap.size ≤ k)) (okp := (fun k => wd.heap.size ≤ k)) ?hr ((Reps.none _ _).snoc (xDe (base := 0) (Kd.N_nil _ _ _ _ _)) rfl) (fun _ hk => hk) ?hf (Below.refl _ _) (Nat.le_refl _) (by show 1 ≤ 9223372036854775807; decide) ?_
          case hr => first | (go_simp; done) | (go_simp; rfl)
          case hf => exact SZ.out
          intro v7 w7 hN7 hb7 hg7 hat7
          obtain ⟨A7, c7, rfl⟩ := Kd.N_slice hN7
          have E7 := Aside0.mk (ED.out.below hb7)
          have HN7 := Aside0.mk hN7
          have SZ7 := Aside0.mk hb7.size
          have HBB7 := Aside0.mk hb7
          clear hN7 hb7 hg7 hat7
          try clear hHeld
          refine hK.out _ _ ((xAb E7.out.b.nb 4).trans rfl) (fun hHeld => ?_)
          clear hK K
          refine xCm (a' := ?_) ?_ ?_
          rotate_left
          · show Act.put _ (some 36) _ = _
            simp only [Act.put, List.setIfInBounds_toArray, List.set_cons_zero, List.set_cons_succ, xB0, xB1]
            rfl
          refine one_ (i := 3) (N := some 34) #[true, true, true, true, true, true, false, false, false, false, false] rfl rfl (by kernel_rfl) (by decide) (fun K hK => ?_)
          obtain ⟨w0_4, hs_4, hp_4⟩ := E7.out.ps
          have HS_4 := Aside0.mk hs_4
          have HP_4 := Aside0.mk hp_4
          clear hs_4 hp_4
          refine xF1 Tryd.func19 (by kernel_rfl) rfl #[.pointer (some ⟨g, 0, none⟩)] (by rfl) rfl rfl (by first | rfl | (simp [Act.eval]; done) | (go_simp; done)) (R := PRes (α := S25) w0_4 w7 g s.size (xDz w7) (.ok (a1, T1))) (xDp kk g _ _ _ w0_4 w7 HP_4.out HX.out) ?_
          rintro e w2 ⟨⟨v, rfl, hN⟩, h2⟩
          have HV := Aside0.mk hN
          have HP2_4 := Aside0.mk h2
          clear hN h2
          refine .inr ⟨_, rfl, ?_⟩
          have E2 := Aside0.mk (E7.out.call HS_4.out HP_4.out HP2_4.out)
          have SZ2 := Aside0.mk HP2_4.out.kb.1
          have HN7' := HN7.out
          have HN7 := Aside0.mk (Kd.N_keep (g := g) HN7' HP2_4.out.kb (fun k hk => by have h1 := HG0.out; omega))
          clear HN7'
          try clear hHeld
          refine hK.out _ _ ((xAb E2.out.b.nb 4).trans rfl) (fun hHeld => ?_)
          clear hK K
          refine xCm (a' := ?_) ?_ ?_
          rotate_left
          · show Act.put _ (some 34) _ = _
            simp only [Act.put, List.setIfInBounds_toArray, List.set_cons_zero, List.set_cons_succ, xB0, xB1]
            rfl
          refine one_ (i := 6) (N := some 37) #[true, true, true, true, true, true, true, false, false, false, false] rfl rfl (by kernel_rfl) (by decide) (fun K hK => ?_)
          refine Kd.N_append_rows_step k25 (w0 := w2) w.heap.size (by rfl) (.tmp 32) (.tmp 36) 23 25 (.agg #[.string (⟨#[]⟩ : ByteArray), .string (⟨#[]⟩ : ByteArray), .int .i64 0, .int .i64 0, .slice none 0 0]) 72 rfl Tryd.underlying23 xIz rfl (by decide) (by decide) (.slice AL acc.length cL) acc [z25] A7 1 c7 (fun k => g ≤ k ∧ k ≠ g) (fun k => wd.heap.size ≤ k) rfl rfl E2.out.row (Kd.N_F HN7.out) ?hokp ?hfresh (Below.refl _ _) ?hbase (by first | omega | (simp; done) | (simp; omega)) ?_
          case hokp => intro k hk; have h1 := HG0.out; exact ⟨⟨by have := E2.out.ge; omega, by omega⟩, fun e => by have := HB0.out k e.symm; omega⟩
          case hfresh => intro k hk; have h1 := E2.out.lt; have := E2.out.ge; exact ⟨by omega, by omega⟩
          case hbase => exact E2.out.b.bel.size
          intro v8 w8 hN8 hb8 hg8 hat8
          have HJ := Aside0.mk (LpJ.first (v36 := .slice A7 1 c7) E2.out (Kd.N_mono HV.out (fun k hk => Nat.le_trans SZ7.out hk)) HB0.out HG0.out hg8 hN8 hat8)
          have hx4 := (xAb (E2.out.b.grown hg8 (fun k hk => (E2.out.row.1 k hk).1)).nb 4).trans rfl
          clear hN8 hb8 hg8 hat8
          try clear hHeld
          refine hK.out _ _ hx4 (fun hHeld => ?_)
          clear hK K
          refine xCm (a' := ?_) ?_ ?_
          rotate_left
          · show Act.put _ (some 37) _ = _
            simp only [Act.put, List.setIfInBounds_toArray, List.set_cons_zero, List.set_cons_succ, xB0, xB1]
            rfl
          exact HC.out _ w8 HJ.out
      case cont =>
        rintro ⟨va, vb, vc⟩ w3 hJ
        obtain ⟨v, gR, c8, base, hva, hvc, hA, hN⟩ := hJ
        simp only at hva hvc
        subst hva
        subst hvc
        have HA3 := Aside0.mk hA
        have HN3 := Aside0.mk hN
        clear hA hN hHeld ED x4 SZ
        refine xCm (a' := ?_) ?_ ?_
        rotate_left
        · simp only [xHm, Act.put, List.setIfInBounds_toArray, List.set_cons_zero, List.set_cons_succ]
          rfl
        have hacc : (0 : Int) ≤ (acc.length : Int) := by omega
        have hacc2 : (acc.length : Int) < ((acc.length + 1 : Nat) : Int) := by omega
        have hacc3 : (acc.length : Int) < (acc.length : Int) + 1 := by omega
        refine xBy (i := 7) (N := some 38) (v := ?_) (a' := ?_) #[true, true, true, true, true, true, true, true, false, false, false] rfl rfl (by kernel_rfl) (fun _ _ _ h => h) (Or.inl ⟨by rfl, ?_⟩) ?_ ?_
        rotate_left
        · intro w'
          go_simp
          with_reducible rfl
        rotate_left
        · simp only [Act.put, List.setIfInBounds_toArray, List.set_cons_zero, List.set_cons_succ, xB0, xB1]
          rfl
        refine xBy (i := 9) (N := some 39) (v := ?_) (a' := ?_) #[true, true, true, true, true, true, true, true, false, true, false] rfl rfl (by kernel_rfl) (fun _ _ _ h => h) (Or.inl ⟨by rfl, ?_⟩) ?_ ?_
        rotate_left
        · intro w'
          go_simp
          with_reducible rfl
        rotate_left
        · simp only [Act.put, List.setIfInBounds_toArray, List.set_cons_zero, List.set_cons_succ, xB0, xB1]
          rfl
        obtain ⟨Av, cv, rfl⟩ := Kd.N_slice HN3.out
        clear hacc hacc2 hacc3
        refine twoE_ (i := 8) (j := 10) #[true, true, true, true, true, true, true, true, true, true, false] #[true, true, true, true, true, true, true, true, false, true, true] rfl rfl (by kernel_rfl) (by decide) (by decide) (by decide) ?_ ?_
        · skip
          obtain ⟨cz, hcz, _, hccz, _⟩ := Kd.N_elem HA3.out.row z25 (acc.length : Int) (by omega) (by omega)
          refine Kd.N_store k25 (w0 := w3) w.heap.size rfl rfl 25 (.tmp 38) (.tmp 34) rfl 25 (g := gR) (n := acc.length + 1) (cap := c8) (o' := acc.length * 5) (acc.length : Int) 0 (acc ++ [z25]) a1 (.agg ([.string a1.f0, .string a1.f1, .int .i64 a1.f2, .int .i64 a1.f3, .slice Av a1.f4.length cv] : List Value).toArray) [.string a1.f0, .string a1.f1, .int .i64 a1.f2, .int .i64 a1.f3, .slice Av a1.f4.length cv] cz (fun k => g ≤ k ∧ k ≠ g) (fun k => (g ≤ k ∧ k ≠ g) ∧ k ≠ gR) rfl ?hoff rfl rfl ?ht ?h1 HA3.out.row (by omega) (by omega) hcz hccz ?hj ?hM (fun _ hk => hk) (Below.refl _ _) ?_
          case hoff => show acc.length * 5 = (acc.length : Int).toNat * 5 + 0; simp
          case ht => exact xHe
          case h1 => intro u hu; simp only [List.mem_cons, List.not_mem_nil, or_false] at hu; rcases hu with rfl | rfl | rfl | rfl | rfl <;> rfl
          case hj => exact Nat.le_refl 5
          case hM =>
            rw [List.take_zero, List.nil_append, List.drop_eq_nil_of_le (by rw [hcz]; exact Nat.le_refl 5), List.append_nil]
            exact xDe HN3.out
          intro w4 hr8 hb8 hg8
          rw [Int.toNat_natCast, xIr] at hr8
          clear hcz hccz
          have E4 := Aside0.mk (HA3.out.grown (row := some gR) (by simp [Value.ownBlock]) hg8 hr8)
          clear hr8 hb8 hg8
          change xB3 _ _ _ _ _ _ _ _ _ _
          have x4 := (xAb E4.out.b.nb 4).trans rfl
          have f4 := xAr E4.out.b.nb 4
          refine xGv (i := 10) (N := none) #[true, true, true, true, true, true, true, true, true, true, true] rfl rfl (by kernel_rfl) (by decide) (fun K hK => ?_)
          refine xFz (w1 := ?_) (by rfl) rfl ?_ ?_
          rotate_left
          · go_simp
            rfl
          refine hK.out _ _ ?_
          clear hK K
          refine xEf (by kernel_rfl) ?_
          clear x4 f4
          have E9 := Aside0.mk E4.out.setL
          generalize World.setCell w4 _ _ = w9 at *
          refine NoPanic.normal ?_
          go_wp2
          go_roundg kk
          case rel => exact ⟨kk, _, _, _, Nat.le_refl _, E9, HH⟩
          case measure => omega
        · skip
          have x4 := (xAb HA3.out.b.nb 4).trans rfl
          have f4 := xAr HA3.out.b.nb 4
          refine wpList_plain rfl (fun K hK => ?_)
          go_simp
          refine hK _ _ ?_
          clear hK K x4 f4
          have E4 := Aside0.mk HA3.out.setL
          have HN4 := Aside0.mk (Kd.N_far (p := ⟨w.heap.size, 4, none⟩) HN3.out (fun k hk => by have := HA3.out.b.n1; have := hk.1.1; show k ≠ w.heap.size; omega) (.slice (some ⟨gR, 0, none⟩) (acc.length + 1) c8))
          change xB3 _ _ _ _ _ _ _ _ _ _
          generalize World.setCell w3 _ _ = w4 at *
          refine lastW_ (i := 8) #[true, true, true, true, true, true, true, true, true, true, true] rfl (by kernel_rfl) (by decide) ?_
          obtain ⟨cz, hcz, _, hccz, _⟩ := Kd.N_elem E4.out.row z25 (acc.length : Int) (by omega) (by omega)
          refine Kd.N_store k25 (w0 := w4) w.heap.size rfl rfl 25 (.tmp 38) (.tmp 34) rfl 25 (g := gR) (n := acc.length + 1) (cap := c8) (o' := acc.length * 5) (acc.length : Int) 0 (acc ++ [z25]) a1 (.agg ([.string a1.f0, .string a1.f1, .int .i64 a1.f2, .int .i64 a1.f3, .slice Av a1.f4.length cv] : List Value).toArray) [.string a1.f0, .string a1.f1, .int .i64 a1.f2, .int .i64 a1.f3, .slice Av a1.f4.length cv] cz (fun k => g ≤ k ∧ k ≠ g) (fun k => (g ≤ k ∧ k ≠ g) ∧ k ≠ gR) rfl ?hoff rfl rfl ?ht ?h1 E4.out.row (by omega) (by omega) hcz hccz ?hj ?hM (fun _ hk => hk) (Below.refl _ _) ?_
          case hoff => show acc.length * 5 = (acc.length : Int).toNat * 5 + 0; simp
          case ht => exact xHe
          case h1 => intro u hu; simp only [List.mem_cons, List.not_mem_nil, or_false] at hu; rcases hu with rfl | rfl | rfl | rfl | rfl <;> rfl
          case hj => exact Nat.le_refl 5
          case hM =>
            rw [List.take_zero, List.nil_append, List.drop_eq_nil_of_le (by rw [hcz]; exact Nat.le_refl 5), List.append_nil]
            exact xDe HN4.out
          intro w9 hr8 hb8 hg8
          rw [Int.toNat_natCast, xIr] at hr8
          clear hcz hccz
          have E9 := Aside0.mk (E4.out.stored hg8 hr8)
          clear hr8 hb8 hg8
          change xB3 _ _ _ _ _ _ _ _ _ _
          refine xEf (by kernel_rfl) ?_
          refine NoPanic.normal ?_
          go_wp2
          go_roundg kk
          case rel => exact ⟨kk, _, _, _, Nat.le_refl _, E9, HH⟩
          case measure => omega

/-! strings.Builder's methods at this program's numbers (its copyCheck lacks the panic's text, so the shelf's layings do not fit) -/
theorem xEw : (Tryd.prog.info? 52).map (·.size) = some 2 := by kernel_rfl
theorem xHr : liesAt Tryd.prog Tryd.prog.depth 52 (2 / Tryd.prog.cellsOf 52) 0 52 1 = true := by kernel_rfl
theorem xKw : (Tryd.prog.info? 5).map (fun i => (i.zero, i.size, i.bytes)) = some (some (.int .u8 0), 1, 1) := by kernel_rfl
set_option maxHeartbeats 1000000 in
set_option maxRecDepth 100000 in
theorem xG0 (b : Nat) (w : World) (h0 : w.cell? ⟨b, 0, none⟩ = some (.pointer (some ⟨b, 0, none⟩))) :
  Calls Tryd.prog 79 #[.pointer (some ⟨b, 0, none⟩)] w fun e w' => e = .returned (.tuple #[]) ∧ w' = w := by
 obtain ⟨j, hj, _⟩ := Option.map_eq_some_iff.1 xEw
 have hu52 := Tryd.underlying52
 have hu49 := Tryd.underlying49
 go_enter Tryd.func79, Tryd.ntmps79
 go_wp2
 rw [Lib.run_neq_ptr_same w _ hu49 hj]
 go_wp2
 go_end0
 exact ⟨rfl, rfl⟩
set_option maxHeartbeats 1000000 in
set_option maxRecDepth 100000 in
theorem xFt (b : Nat) (w : World) (h0 : w.cell? ⟨b, 0, none⟩ = some (.pointer none)) (hsh : w.shape? b = some (52, 2)) (hfz : w.frozen? ⟨b, 0, none⟩ = false) :
  Calls Tryd.prog 79 #[.pointer (some ⟨b, 0, none⟩)] w fun e w' => e = .returned (.tuple #[]) ∧ w' = w.setCell ⟨b, 0, none⟩ (.pointer (some ⟨b, 0, none⟩)) := by
 obtain ⟨j, hj, hjs⟩ := Option.map_eq_some_iff.1 xEw
 have hu52 := Tryd.underlying52
 have hu49 := Tryd.underlying49
 have hu86 := Tryd.underlying86
 go_enter Tryd.func79, Tryd.ntmps79
 go_wp2
 rw [Lib.run_to_unsafe w ⟨b, 0, none⟩ hu49 hu86 hj (by rw [hjs]; decide) hsh (Nat.zero_lt_succ 1)]
 simp only [Result.andThen]
 rw [Oper.upon_value]
 go_wp2
 rw [run_callFunc_extern Tryd.func88 (by kernel_rfl) (by kernel_rfl) (by kernel_rfl) (e := Extern.AbiNoEscape.same) (by kernel_rfl)]
 rw [Lib.run_noEscape]
 simp only [Result.andThen]
 rw [Oper.upon_value]
 go_wp2
 rw [Lib.run_from_unsafe w ⟨b, 0, none⟩ hu86 hu49 hj hsh xHr]
 simp only [Result.andThen]
 rw [Oper.upon_value]
 go_wp2
 go_end0
 exact ⟨rfl, rfl⟩
theorem xH2 (B b : Nat) (bs : List Value) (w : World) (h : Lib.IsBuilderF 52 5 B b bs w) :
  Calls Tryd.prog 79 #[.pointer (some ⟨b, 0, none⟩)] w fun e w' => e = .returned (.tuple #[]) ∧ (Lib.BuilderAtF 52 5 B b (.pointer (some ⟨b, 0, none⟩)) bs w' ∧ Below B w w' ∧ Lib.OthersKept 5 (some b) w w') := by
 rcases h with h | h
 ·refine (xFt b w h.cell0 h.shape h.frozen0).mono ?_
  rintro e w' ⟨rfl, rfl⟩
  exact ⟨rfl, h.used _, (Below.refl B w).setCell (p := ⟨b, 0, none⟩) h.1 _, (Lib.OthersKept.refl _ _ w).setCell ⟨b, 0, none⟩ rfl _⟩
 ·refine (xG0 b w h.cell0).mono ?_
  rintro e w' ⟨rfl, rfl⟩
  exact ⟨rfl, h, Below.refl B _, Lib.OthersKept.refl _ _ _⟩
set_option maxHeartbeats 2000000 in
set_option maxRecDepth 100000 in
theorem xI3 (B b : Nat) (bs : List Value) (s : ByteArray) (w : World) (h : Lib.IsBuilderF 52 5 B b bs w) (hlen : bs.length + s.size ≤ 140737488355328) (hBw : B ≤ w.heap.size) :
  Calls Tryd.prog 48 #[.pointer (some ⟨b, 0, none⟩), .string s] w fun e w' => e = .returned (.tuple #[.int .i64 s.size, .nilIface]) ∧ (Lib.BuilderAtF 52 5 B b (.pointer (some ⟨b, 0, none⟩)) (bs ++ Lib.strCells s) w' ∧ Below B w w' ∧ Lib.OthersKept 5 (some b) w w') := by
 obtain ⟨i0, hi, hz0, hz1, hz2⟩ := info_parts xKw
 have hu52 := Tryd.underlying52
 have hu49 := Tryd.underlying49
 have hu50 := Tryd.underlying50
 have hu9 := Tryd.underlying9
 go_enter Tryd.func48, Tryd.ntmps48
 go_wp2_with (go_at_call 79; refine (xH2 B b bs _ h).mono ?_)
 rintro e w1 ⟨rfl, h1, hb1, hk1⟩
 obtain ⟨hB, v, hbk, hown, hne⟩ := h1
 have c0 : w1.cell? ⟨b, 0, none⟩ = some (.pointer (some ⟨b, 0, none⟩)) := by rw [Lib.cell_of_heap hbk]; rfl
 have c1 : w1.cell? ⟨b, 1, none⟩ = some v := by rw [Lib.cell_of_heap hbk]; rfl
 go_wp2_with (at_builtin; refine Lib.wpList_append_own_stringF _ rfl _ _ 50 9 rfl B 5 i0 hu50 hu9 hi hz0 hz1 hz2 _ _ _ rfl hown s rfl ?c3 ?c4 ?c5 ?_)
 case c3 => unfold maxLen; omega
 case c4 => omega
 case c5 => have := hb1.size; omega
 intro v' w2 hown' hgrow _
 have hlt : b < w1.heap.size := by
  rcases Nat.lt_or_ge b w1.heap.size with h' | h'
  ·exact h'
  ·simp [Array.getElem?_eq_none h'] at hbk
 have hb2 : w2.heap[b]? = some (.cells #[.pointer (some ⟨b, 0, none⟩), v] 52 (0, 0)) := by
  rw [hgrow.block b hlt (fun e => hne e.symm)]
  exact hbk
 have d0 : w2.cell? ⟨b, 0, none⟩ = some (.pointer (some ⟨b, 0, none⟩)) := by rw [Lib.cell_of_heap hb2]; rfl
 have d1 : w2.cell? ⟨b, 1, none⟩ = some v := by rw [Lib.cell_of_heap hb2]; rfl
 have f1 : w2.frozen? ⟨b, 1, none⟩ = false := Lib.frozen_of_heap hb2 1
 obtain ⟨ao, n', cap, rfl⟩ : ∃ ao n' cap, v' = .slice ao n' cap := by
  rcases hown'.2 with ⟨hv, _⟩ | ⟨g, cap, cur, fz, hv, _⟩
  ·exact ⟨_, _, _, hv⟩
  ·exact ⟨_, _, _, hv⟩
 go_wp2
 go_ret2
 refine ⟨rfl, ?_, ?_, (hk1.grown hgrow (Lib.ownsRowF_kind hown)).setCell ⟨b, 1, none⟩ rfl _⟩
 ·exact Lib.BuilderAtF.put (T := 52) (e := 5) hB hb2 (bs' := bs ++ Lib.strCells s) (by simpa [Lib.strCells_length] using hown') (by decide)
 ·exact (hb1.grown hgrow (by have := hb1.size; omega) (fun k hk => (hown.lt k hk).1)).setCell (p := ⟨b, 1, none⟩) hB _
/-- A builder that holds l. -/
def Bld (B b : Nat) (l : List UInt8) (w : World) : Prop := Lib.IsBuilderF 52 5 B b (Lib.byteCells l) w
/-- What was kept: all below B, and all that is neither the builder nor a row of bytes. -/
def Fr (B b : Nat) (w w' : World) : Prop := Below B w w' ∧ Lib.OthersKept 5 (some b) w w'
theorem Fr.refl (B b : Nat) (w : World) : Fr B b w w := ⟨Below.refl _ _, Lib.OthersKept.refl _ _ _⟩
theorem Fr.trans {B b : Nat} {w w1 w2 : World} (h : Fr B b w w1) (k : Fr B b w1 w2) : Fr B b w w2 := ⟨h.1.trans k.1, h.2.trans k.2⟩
theorem Fr.blk {B b g t : Nat} {cs : Array Value} {w w1 : World} (h : Fr B b w w1) (hb : w.heap[g]? = some (.cells cs t (0, 0))) (hg : g ≠ b) (ht : t ≠ 5) : w1.heap[g]? = some (.cells cs t (0, 0)) :=
 h.2 g _ hb (by simpa using hg) (by intro c fz e; injection e with _ e _; exact ht e)
theorem Fr.alloc {B b : Nat} {w w1 : World} (h : Fr B b w w1) (hB : B ≤ w1.heap.size) (o : Obj) : Fr B b w (w1.alloc o) := ⟨h.1.alloc hB o, h.2.alloc o⟩
theorem xF7 (l m : List UInt8) : Lib.byteCells (l ++ m) = Lib.byteCells l ++ Lib.byteCells m := by unfold Lib.byteCells; rw [List.map_append]
theorem Bld.le {B b : Nat} {l : List UInt8} {w : World} (h : Bld B b l w) : B ≤ b := by
 rcases h with h | h <;> exact h.1
theorem Bld.lt {B b : Nat} {l : List UInt8} {w : World} (h : Bld B b l w) : b < w.heap.size := by
 rcases h with h | h <;> exact h.lt
theorem Bld.typ {B b : Nat} {l : List UInt8} {w : World} (h : Bld B b l w) : ∃ cs, w.heap[b]? = some (.cells cs 52 (0, 0)) := by
 rcases h with ⟨_, v, h, _⟩ | ⟨_, v, h, _⟩ <;> exact ⟨_, h⟩
def WrP (B b : Nat) (l : List UInt8) (w : World) (e : Ending) (w' : World) : Prop := e = .returned (.tuple #[]) ∧ Bld B b l w' ∧ Fr B b w w'
theorem xEv (B b : Nat) (l : List UInt8) (s : ByteArray) (w : World) (h : Bld B b l w) (hlen : l.length + s.size ≤ 1000000000) :
  Calls Tryd.prog 48 #[.pointer (some ⟨b, 0, none⟩), .string s] w fun e w' => e = .returned (.tuple #[.int .i64 s.size, .nilIface]) ∧ Bld B b (l ++ s.data.toList) w' ∧ Fr B b w w' := by
 refine (xI3 B b _ s w h (by rw [Lib.byteCells_length]; omega) (by have := h.le; have := h.lt; omega)).mono ?_
 rintro e w' ⟨rfl, h1, h2, h3⟩
 refine ⟨rfl, ?_, h2, h3⟩
 unfold Bld
 rw [xF7]
 exact .inr h1
/-- What strings hold, one behind the other. -/
def catB (ss : List ByteArray) : List UInt8 := (ss.map fun s => s.data.toList).flatten
theorem xL6 (ss : List ByteArray) (k : Nat) (h : k < ss.length) : catB (ss.take (k + 1)) = catB (ss.take k) ++ ss[k].data.toList := by
 unfold catB
 rw [List.take_succ_eq_append_getElem h, List.map_append, List.flatten_append]
 simp
theorem catB_le (ss : List ByteArray) (k : Nat) : (catB (ss.take k)).length ≤ (catB ss).length := by
 have h : catB ss = catB (ss.take k) ++ catB (ss.drop k) := by
  unfold catB
  rw [← List.flatten_append, ← List.map_append, List.take_append_drop]
 rw [h, List.length_append]
 omega
/-- Where put stands. -/
structure PuS (B b gs p : Nat) (ss : List ByteArray) (l : List UInt8) (w W : World) : Prop where
 bld : Bld B b l W
 fr : Fr B b w W
 s : W.heap[gs]? = some (.cells (ss.map Value.string).toArray 9 (0, 0))
 p : W.heap[p]? = some (.cells #[.pointer (some ⟨b, 0, none⟩)] 49 (0, 0))
set_option maxHeartbeats 4000000 in
set_option maxRecDepth 100000 in
theorem xHl (B b gs p : Nat) (ss : List ByteArray) (l : List UInt8) (w : World) (h : PuS B b gs p ss l w w) (hlen : l.length + (catB ss).length ≤ 1000000000) (hss : ss.length ≤ 100) :
  Calls Tryd.prog 50 #[.slice (some ⟨gs, 0, none⟩) ss.length ss.length, .pointer (some ⟨p, 0, none⟩)] w (WrP B b (l ++ catB ss) w) := by
 have H := Aside0.mk h
 have HL := Aside0.mk hlen
 clear h hlen
 go_enter Tryd.func50, Tryd.ntmps50
 go_wp2
 go_loopw [7] (fun i wr => ∃ k : Nat, k ≤ ss.length ∧ i = .int .i64 k ∧ Aside0 (PuS B b gs p ss (l ++ catB (ss.take k)) w wr)) (fun i _ => ss.length - (intOf i).toNat)
 case atStart => exact ⟨0, Nat.zero_le _, rfl, ⟨by simpa [catB] using H.out⟩⟩
 case round =>
  obtain ⟨k, hk, rfl, HR⟩ := hrel
  by_cases hlt : k < ss.length
  ·have hs0 : wr.cell? ⟨gs, k, none⟩ = some (.string ss[k]) := by rw [xAb HR.out.s k]; simp [hlt]
   have hp0 : wr.cell? ⟨p, 0, none⟩ = some (.pointer (some ⟨b, 0, none⟩)) := (xAb HR.out.p 0).trans rfl
   have HT := Aside0.mk (xL6 ss k hlt)
   have HLE := Aside0.mk (catB_le ss (k + 1))
   go_wp2_with (go_at_call 48; (with_reducible refine (xEv B b _ _ wr HR.out.bld (by have h1 := HLE.out; rw [HT.out] at h1; have h2 := HL.out; simp only [List.length_append] at h1 ⊢; have h3 : (ss[k]).size = (ss[k]).data.toList.length := rfl; omega)).mono ?_); rintro e w1 ⟨rfl, h1, h2⟩; have H1 := Aside0.mk h1; have H2 := Aside0.mk h2; clear h1 h2)
   go_roundw
   case rel =>
    have hty := HR.out.bld.typ
    refine ⟨k + 1, by omega, by go_num, ⟨⟨?_, HR.out.fr.trans H2.out, H2.out.blk HR.out.s ?_ (by decide), H2.out.blk HR.out.p ?_ (by decide)⟩⟩⟩
    ·rw [HT.out, ← List.append_assoc]; exact H1.out
    ·obtain ⟨cs, hc⟩ := hty; exact xDw HR.out.s hc (by decide)
    ·obtain ⟨cs, hc⟩ := hty; exact xDw HR.out.p hc (by decide)
   case measure => simp [intOf]; omega
  ·have : k = ss.length := by omega
   subst this
   go_wp2
   refine bodyPost_end (results_none rfl _ _ _) rfl ⟨rfl, ?_, HR.out.fr⟩
   have := HR.out.bld
   rwa [List.take_length] at this

/-! a tree's text -/
def catW (f : S25 → Option (List UInt8)) : List S25 → Option (List UInt8)
 | [] => some []
 | x :: r => (f x).bind fun t => (catW f r).bind fun u => some (t ++ u)
def sepW (f : S25 → Option (List UInt8)) : Bool → List S25 → Option (List UInt8)
 | _, [] => some []
 | first, x :: r => (f x).bind fun t => (sepW f false r).bind fun u => some ((if first = true then [] else [44, 32]) ++ t ++ u)
def xIh (f : S25 → Option (List UInt8)) : List S25 → Option (List UInt8)
 | [] => none
 | x :: _ => f x
def xBw : Nat → S25 → Option (List UInt8)
 | 0, _ => none
 | k + 1, n =>
  if n.f4.length ≤ 1000000 ∧ -9223372036854775808 ≤ n.f2 ∧ n.f2 ≤ 9223372036854775807 then
   if n.f0.toList = ([117, 115, 101] : List UInt8) ∨ n.f0.toList = ([110, 97, 109, 101] : List UInt8) then some n.f1.data.toList
   else if n.f0.toList = ([110, 117, 109] : List UInt8) then some (Lib.itoa n.f2)
   else if n.f0.toList = ([104, 101, 120] : List UInt8) then some (36 :: n.f1.data.toList)
   else if n.f0.toList = ([102, 105, 108, 101] : List UInt8) then catW (xBw k) n.f4
   else if n.f0.toList = ([100, 101, 118, 105, 99, 101] : List UInt8) ∨ n.f0.toList = ([106, 111, 117, 114, 110, 97, 108] : List UInt8) then some (n.f0.data.toList ++ [32] ++ n.f1.data.toList ++ [32] ++ Lib.itoa n.f2 ++ [59, 10])
   else if n.f0.toList = ([107, 101, 121] : List UInt8) ∨ n.f0.toList = ([114, 111, 111, 116] : List UInt8) then (xIh (xBw k) n.f4).bind fun t => some (n.f0.data.toList ++ [32] ++ n.f1.data.toList ++ [32] ++ t ++ [59, 10])
   else if n.f0.toList = ([118, 111, 108, 117, 109, 101] : List UInt8) then (xIh (xBw k) n.f4).bind fun t => some ([118, 111, 108, 117, 109, 101, 32] ++ n.f1.data.toList ++ [32, 61, 32] ++ t ++ [59, 10])
   else if n.f0.toList = ([101, 120, 112, 111, 114, 116] : List UInt8) then some ([101, 120, 112, 111, 114, 116, 32] ++ n.f1.data.toList ++ (if n.f2 = 1 then [32, 114, 101, 97, 100, 111, 110, 108, 121] else []) ++ [59, 10])
   else (sepW (xBw k) true n.f4).bind fun t => some (n.f0.data.toList ++ [40] ++ t ++ [41])
  else none
/-- Where write stands: p the box of the builder's pointer, q the node's. -/
structure WrS (B b p q : Nat) (n : S25) (A : Option Addr) (c : Nat) (l : List UInt8) (w W : World) : Prop where
 bld : Bld B b l W
 fr : Fr B b w W
 pb : W.heap[p]? = some (.cells #[.pointer (some ⟨b, 0, none⟩)] 49 (0, 0))
 qb : W.heap[q]? = some (.cells #[.string n.f0, .string n.f1, .int .i64 n.f2, .int .i64 n.f3, .slice A n.f4.length c] 25 (0, 0))
theorem xFo {B b : Nat} {w w1 : World} (h : Below w.heap.size w w1) (hB : B ≤ w.heap.size) : Fr B b w w1 :=
 ⟨h.mono hB, fun k o hk _ _ => (h.block k (xBx hk)).trans hk⟩
theorem Bld.below {B b : Nat} {l : List UInt8} {w w1 : World} (h : Bld B b l w) (hb : Below w.heap.size w w1) : Bld B b l w1 := by
 have key : ∀ p, Lib.BuilderAtF 52 5 B b p (Lib.byteCells l) w → Lib.BuilderAtF 52 5 B b p (Lib.byteCells l) w1 := by
  rintro p ⟨hB, v, hbk, hown, hne⟩
  refine ⟨hB, v, xAt hbk hb, ?_, hne⟩
  exact hown.kept (row := none) ⟨hb.os, hb.tape, hb.output, hb.size, fun k hk _ => hb.block k hk⟩ (by by_cases h : v.ownBlock = none; exact .inl h; exact .inr h)
 exact h.elim (fun x => .inl (key _ x)) (fun x => .inr (key _ x))
section
variable {B b p q : Nat} {n : S25} {A : Option Addr} {c : Nat} {l l' : List UInt8} {w W W1 : World}
theorem WrS.ge (h : WrS B b p q n A c l w W) : B ≤ W.heap.size := by have := h.bld.le; have := h.bld.lt; omega
theorem WrS.call (h : WrS B b p q n A c l w W) (h1 : Bld B b l' W1) (h2 : Fr B b W W1) : WrS B b p q n A c l' w W1 := by
 obtain ⟨cs, hc⟩ := h.bld.typ
 exact ⟨h1, h.fr.trans h2, h2.blk h.pb (xDw h.pb hc (by decide)) (by decide), h2.blk h.qb (xDw h.qb hc (by decide)) (by decide)⟩
theorem WrS.below (h : WrS B b p q n A c l w W) (hb : Below W.heap.size W W1) : WrS B b p q n A c l w W1 := h.call (h.bld.below hb) (xFo hb h.ge)
theorem WrS.alloc (h : WrS B b p q n A c l w W) (o : Obj) : WrS B b p q n A c l w (W.alloc o) := h.below (xA1 (Below.refl _ _) o)
theorem WrS.drew (h : WrS B b p q n A c l w W) : WrS B b p q n A c l w W.drew := h.below (xCe (Below.refl _ _))
theorem WrS.end_ (h : WrS B b p q n A c l w W) : WrP B b l w (.returned (.tuple #[])) W := ⟨rfl, h.bld, h.fr⟩
/-- A text written. -/
theorem WrS.str (h : WrS B b p q n A c l w W) (s : ByteArray) (hl : l.length + s.data.toList.length ≤ 1000000000) :
  Calls Tryd.prog 48 #[.pointer (some ⟨b, 0, none⟩), .string s] W fun e w' => e = .returned (.tuple #[.int .i64 s.size, .nilIface]) ∧ WrS B b p q n A c (l ++ s.data.toList) w w' :=
 (xEv B b l s W h.bld (by have e : s.size = s.data.toList.length := rfl; omega)).mono fun e w' ⟨he, h1, h2⟩ => ⟨he, h.call h1 h2⟩
/-- put, of a row made for it. -/
theorem WrS.put (h : WrS B b p q n A c l w W) (ss : List ByteArray) (cells : Array Value) (m : Nat) (hm : ss.length = m) (hcs : (ss.map Value.string).toArray = cells) (hl : l.length + (catB ss).length ≤ 1000000000) (hss : m ≤ 100) :
  Calls Tryd.prog 50 #[.slice (some ⟨W.heap.size, 0, none⟩) m m, .pointer (some ⟨p, 0, none⟩)] (W.alloc (.cells cells 9 (0, 0))) fun e w' => e = .returned (.tuple #[]) ∧ WrS B b p q n A c (l ++ catB ss) w w' := by
 subst hm
 subst hcs
 have h1 := h.alloc (.cells (ss.map Value.string).toArray 9 (0, 0))
 refine (xHl B b W.heap.size p ss l _ ⟨h1.bld, Fr.refl _ _ _, xBn _ _, h1.pb⟩ hl hss).mono ?_
 rintro e w' ⟨rfl, h2, h3⟩
 exact ⟨rfl, h1.call h2 h3⟩
theorem WrS.put2 (h : WrS B b p q n A c l w W) (ss : List ByteArray) (cells : Array Value) (m : Nat) (hm : ss.length = m) (hcs : (ss.map Value.string).toArray = cells) (hl : l.length + (catB ss).length ≤ 1000000000) (hss : m ≤ 100) :
  Calls Tryd.prog 50 #[.slice (some ⟨W.heap.size, 0, none⟩) m m, .pointer (some ⟨p, 0, none⟩)] (W.alloc (.cells cells 9 (0, 0))) fun e w' => e = .returned (.tuple #[]) ∧ WrS B b p q n A c (l ++ catB ss) w w' ∧ Fr B b W w' := by
 subst hm
 subst hcs
 have h1 := h.alloc (.cells (ss.map Value.string).toArray 9 (0, 0))
 refine (xHl B b W.heap.size p ss l _ ⟨h1.bld, Fr.refl _ _ _, xBn _ _, h1.pb⟩ hl hss).mono ?_
 rintro e w' ⟨rfl, h2, h3⟩
 exact ⟨rfl, h1.call h2 h3, ((Fr.refl _ _ _).alloc h.ge _).trans h3⟩
end
theorem xIg (B b p q : Nat) (n : S25) (A : Option Addr) (c : Nat) (l : List UInt8) (w W w0 : World) (h : WrS B b p q n A c l w W) (i : Int) (h0 : -9223372036854775808 ≤ i) (h1 : i ≤ 9223372036854775807) (ht : Lib.TabIs Tryd.prog W "internal/strconv.uint64pow10" .u64 Lib.pow10Tab) :
  Calls Tryd.prog 49 #[.int .i64 i] W fun e w' => e = .returned (.string ⟨(Lib.itoa i).toArray⟩) ∧ WrS B b p q n A c l w w' := by
 refine (Tryd.strconv_Itoa i h0 h1 W ht).mono ?_
 rintro e w' ⟨rfl, k, os, rfl⟩
 exact ⟨rfl, h.below (Lib.below_grow W.heap.size W (Nat.le_refl _) k os)⟩
/-- The premises of write. -/
structure WrI (w0 w : World) (b : Nat) (n : S25) (A : Option Addr) (c : Nat) (l : List UInt8) : Prop where
 bel : Below w0.heap.size w0 w
 bld : Bld w0.heap.size b l w
 hc : n.f4.length ≤ c
 hC : Kd.C k25 w0 A n.f4.length n.f4
 tab : ∀ w', Below w0.heap.size w0 w' → Lib.TabIs Tryd.prog w' "internal/strconv.uint64pow10" .u64 Lib.pow10Tab
def xBg (n : S25) (A : Option Addr) (c : Nat) : Value := .agg #[.string n.f0, .string n.f1, .int .i64 n.f2, .int .i64 n.f3, .slice A n.f4.length c]
def WrOk (k : Nat) : Prop := ∀ (w0 w : World) (b : Nat) (n : S25) (A : Option Addr) (c : Nat) (l t : List UInt8), WrI w0 w b n A c l → xBw k n = some t → l.length + t.length ≤ 1000000000 → Calls Tryd.prog 22 #[.pointer (some ⟨b, 0, none⟩), xBg n A c] w (WrP w0.heap.size b (l ++ t) w)
/-- Both parameters boxed. -/
theorem WrI.start {w0 w : World} {b : Nat} {n : S25} {A : Option Addr} {c : Nat} {l : List UInt8} (h : WrI w0 w b n A c l) :
  WrS w0.heap.size b w.heap.size (w.heap.size + 1) n A c l w ((w.alloc (.cells #[.pointer (some ⟨b, 0, none⟩)] 49 (0, 0))).alloc (.cells #[.string n.f0, .string n.f1, .int .i64 n.f2, .int .i64 n.f3, .slice A n.f4.length c] 25 (0, 0))) := by
 have hb : Below w.heap.size w ((w.alloc (.cells #[.pointer (some ⟨b, 0, none⟩)] 49 (0, 0))).alloc (.cells #[.string n.f0, .string n.f1, .int .i64 n.f2, .int .i64 n.f3, .slice A n.f4.length c] 25 (0, 0))) := xA1 (xA1 (Below.refl _ _) _) _
 refine ⟨h.bld.below hb, xFo hb h.bel.size, xA4 (xBn _ _) _, ?_⟩
 have := xBn (w.alloc (.cells #[.pointer (some ⟨b, 0, none⟩)] 49 (0, 0))) (.cells #[.string n.f0, .string n.f1, .int .i64 n.f2, .int .i64 n.f3, .slice A n.f4.length c] 25 (0, 0))
 rwa [World.size_alloc] at this
theorem xFr (l : List S25) (k : Nat) (h : k < l.length) : l.drop k = xA2 l (k : Int) :: l.drop (k + 1) := by
 rw [List.drop_eq_getElem_cons h]
 unfold xA2
 simp [List.getD_eq_getElem?_getD, h]
section
variable {P : Program} {ops : Array Oper} {Q : Exit → Act → World → Prop}
/-- A call of a function value, as one step of a region that draws. -/
theorem goesV_ {oi : Oper} {N : Option Tmp} {a : Act} {w : World} {K : Act → World → Prop} {f : FuncId} {fn : Func} {x : Operand} {as_ : Array Operand} {ts : Array TypeId} {first caps : Array Value} (hf : P.funcs[f]? = some fn) (hname : (fn.name == "runtime.NumGoroutine") = false) (hb : fn.body.isSome = true) (args : Array Value)
  (hw : Region.wanted oi (yielded ops a.tmps) = true) (hN : oi.dst = N) (hop : oi.op = .call { callee := .value x, args := as_, argTypes := ts }) (hx : a.eval x = .func (.func f) first caps) (hargs : first ++ as_.map a.eval ++ caps = args)
  (h : Calls P f args w fun e w' => ∃ v, e = .returned v ∧ K (a.put N v) w') : if Region.wanted oi (yielded ops a.tmps) = true then Oper.wp P oi a w K Q else K (a.put N undef) w := by
 refine call_ f args hw hN ?_ h
 have he := xH0 hf hname hb args w
 subst hargs
 unfold execOp
 simp [hop, resolve, Deferred.ofValue, invoke, hx]
 rw [← Array.append_assoc]
 exact he
end
theorem cat_inv {f : S25 → Option (List UInt8)} {L : List S25} {j : Nat} {u : List UInt8} (h : catW f (L.drop j) = some u) (hj : j < L.length) : ∃ tx u', f (xA2 L (j : Int)) = some tx ∧ catW f (L.drop (j + 1)) = some u' ∧ u = tx ++ u' := by
 rw [xFr L j hj, catW] at h
 obtain ⟨tx, h1, h2⟩ := Option.bind_eq_some_iff.1 h
 obtain ⟨u', h3, h4⟩ := Option.bind_eq_some_iff.1 h2
 exact ⟨tx, u', h1, h3, (Option.some.inj h4).symm⟩
theorem sep_inv {f : S25 → Option (List UInt8)} {L : List S25} {fi : Bool} {j : Nat} {u : List UInt8} (h : sepW f fi (L.drop j) = some u) (hj : j < L.length) : ∃ tx u', f (xA2 L (j : Int)) = some tx ∧ sepW f false (L.drop (j + 1)) = some u' ∧ u = (if fi = true then [] else [44, 32]) ++ tx ++ u' := by
 rw [xFr L j hj, sepW] at h
 obtain ⟨tx, h1, h2⟩ := Option.bind_eq_some_iff.1 h
 obtain ⟨u', h3, h4⟩ := Option.bind_eq_some_iff.1 h2
 exact ⟨tx, u', h1, h3, (Option.some.inj h4).symm⟩
/-- Where the loop over a file's statements stands. -/
def CatS (f : S25 → Option (List UInt8)) (B b p q : Nat) (n : S25) (A : Option Addr) (c : Nat) (l t : List UInt8) (w W : World) (j : Nat) : Prop :=
 ∃ dn u, WrS B b p q n A c (l ++ dn) w W ∧ catW f (n.f4.drop j) = some u ∧ dn ++ u = t
/-- Where the loop over a target's parts stands. -/
def SepS (f : S25 → Option (List UInt8)) (B b p q : Nat) (n : S25) (A : Option Addr) (c : Nat) (l t : List UInt8) (w W : World) (j : Nat) : Prop :=
 ∃ dn u, WrS B b p q n A c (l ++ dn) w W ∧ sepW f (decide (j = 0)) (n.f4.drop j) = some u ∧ dn ++ u = t
end Go.Proofs.YtknbfhhmjbnemaaDoor.P
end
