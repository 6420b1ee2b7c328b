/- Proved here, for the claim of parseJoined_holds: that the law holds: the texts of this work, one behind the other, laid by a program of this session. Conditions: none beside the statement's own. -/
import Derived.Test.YtknbfhhmjbnemaaDoorMB5
import Derived.Test.YtknbfhhmjbnemaaDoorMB6
import Derived.Test.YtknbfhhmjbnemaaDoorTie
import Derived.Test.YtknbfhhmjbnemaaDoorCards
import Derived.SevenTiedAt
section
namespace Go.Proofs.YtknbfhhmjbnemaaDoor.P
open Go.RowKit Go.Proofs.YtknbfhhmjbnemaaDoorW.PrintWords Go.Proofs.YtknbfhhmjbnemaaDoorW.PrintLast Go.Proofs.YtknbfhhmjbnemaaDoorW.PrintMore Go.Proofs.YtknbfhhmjbnemaaDoor.Pure
set_option linter.unusedVariables false
set_option linter.unusedSimpArgs false

theorem scanF_over : ∀ (f cnt cnt' : Nat) (r : List Int) (total total' : Nat) (l : List S60), scanF f cnt r total = .ok l → cnt' ≤ 500 → 500 < cnt' + l.length → ∃ p, scanF f cnt' r total' = .error (103, p)
  | 0, cnt, cnt', r, total, total', l, h, h1, h2 => by
    simp only [scanF, Except.ok.injEq] at h
    subst h
    simp at h2
    omega
  | f + 1, cnt, cnt', r, total, total', l, h, h1, h2 => by
    rw [scanF] at h ⊢
    by_cases hr : r = []
    · rw [if_pos hr] at h
      cases h
      simp at h2
      omega
    · rw [if_neg hr] at h ⊢
      by_cases hc : cnt = 500
      · rw [if_pos hc] at h; cases h
      · rw [if_neg hc] at h
        by_cases hc' : cnt' = 500
        · exact ⟨_, by rw [if_pos hc']⟩
        · rw [if_neg hc']
          by_cases he : (oneL r).e = 0
          · rw [if_pos he] at h ⊢
            cases hs : scanF f (cnt + 1) (skipS false (List.drop (oneL r).len r)) total with
            | error e => rw [hs] at h; cases h
            | ok m =>
              rw [hs] at h
              simp only [Except.map, Except.ok.injEq] at h
              subst h
              obtain ⟨p, hp⟩ := scanF_over f (cnt + 1) (cnt' + 1) _ total total' m hs (by omega) (by rw [List.length_cons] at h2; omega)
              exact ⟨p, by rw [hp]; rfl⟩
          · rw [if_neg he] at h; cases h
theorem scan_over (a b : List Int) (l m : List S60) (ha : scan a = .ok l) (hb : scan b = .ok m) (h : 2000 ≤ a.length + b.length ∨ 500 < l.length + m.length) : ∃ p, scan (a ++ 10 :: b) = .error (103, p) := by
  have h1 := ha
  have h2 := hb
  have hla := scan_ok ha
  have hlb := scan_ok hb
  have hlen : (a ++ 10 :: b).length = a.length + (1 + b.length) := by simp; omega
  unfold scan at h1 h2 ⊢
  by_cases h3 : 2000 < (a ++ 10 :: b).length
  · exact ⟨0, by rw [if_pos h3]⟩
  · rw [if_neg h3]
    rw [if_neg (by omega)] at h1 h2
    have hj := scanF_join b (a.length + 1) 0 a a.length ((a ++ 10 :: b).length + 1) (by omega) (Nat.le_refl _) (by omega)
    rw [h1] at hj
    rw [hlen] at hj ⊢
    rw [hj]
    obtain ⟨p, hp⟩ := scanF_over (b.length + 1) 0 (0 + l.length) (skipS false b) b.length (a.length + (1 + b.length)) m h2 (by omega) (by omega)
    exact ⟨p, by simp only; rw [hp]; rfl⟩
theorem shift_er (d : Nat) (T : List S60) : (T.map (shiftTok d)).map er = T.map er := by
  rw [List.map_map]
  rfl
theorem cat10 (a b : ByteArray) : bytesOf (a ++ (⟨#[10]⟩ : ByteArray) ++ b) = bytesOf a ++ 10 :: bytesOf b := by
  rw [bytesOf_append, bytesOf_append]
  have : bytesOf (⟨#[10]⟩ : ByteArray) = [10] := by decide
  rw [this]
  simp
theorem stmts_acc : ∀ k acc T en L T', gstmts k acc T en = some (.ok (L, T')) → ∃ L0, L = acc ++ L0 ∧ L0.length ≤ T.length ∧ ∀ acc2 : List S25, acc2.length + L0.length ≤ 1000000 → gstmts k acc2 T en = some (.ok (acc2 ++ L0, T'))
  | 0, acc, T, en, L, T', h => by rw [gstmts_zero] at h; cases h
  | k + 1, acc, T, en, L, T', h => by
    rw [gstmts_eq] at h
    split at h
    case isFalse => cases h
    by_cases hT : T = []
    · rw [if_pos hT] at h
      cases h
      exact ⟨[], by simp, by simp, fun acc2 h2 => by rw [gstmts_eq, if_pos (by simpa using h2), if_pos hT, List.append_nil]⟩
    · rw [if_neg hT] at h
      rcases pbd_inv h with ⟨e, _, he⟩ | ⟨x, T1, h1, h2⟩
      · cases he
      obtain ⟨L0, rfl, hl, h3⟩ := stmts_acc k (acc ++ [x]) T1 en L T' h2
      have hc := Cons.stmt k _ _ _ _ h1
      refine ⟨x :: L0, by simp, by rw [List.length_cons]; omega, fun acc2 h4 => ?_⟩
      rw [List.length_cons] at h4
      rw [gstmts_eq, if_pos (by omega), if_neg hT]
      unfold bd
      rw [h1]
      have h5 := h3 (acc2 ++ [x]) (by simp; omega)
      rw [List.append_assoc] at h5
      exact h5
/-- Files are statements. -/
theorem joined_plain (a b : ByteArray) (ha : (parseX a).2.1 = 0) (hb : (parseX b).2.1 = 0) :
    (parseX (a ++ (⟨#[10]⟩ : ByteArray) ++ b)).2.1 = 103 ∨ ∃ L, parseX (a ++ (⟨#[10]⟩ : ByteArray) ++ b) = (⟨FILE, ⟨#[]⟩, 0, 0, L⟩, 0, -1) ∧ El L ((parseX a).1.f4 ++ (parseX b).1.f4) ∧ Bl L := by
  obtain ⟨Ta, La, hsa, hga, hpa⟩ := parseX_file ha
  obtain ⟨Tb, Lb, hsb, hgb, hpb⟩ := parseX_file hb
  rw [hpa, hpb]
  by_cases h : 2000 ≤ (bytesOf a).length + (bytesOf b).length ∨ 500 < Ta.length + Tb.length
  · obtain ⟨p, hp⟩ := scan_over _ _ _ _ hsa hsb h
    rw [← cat10] at hp
    exact .inl (by rw [parseX_err hp])
  · right
    have hs := scan_join (bytesOf a) (bytesOf b) Ta Tb hsa hsb (by omega) (by omega)
    rw [← cat10] at hs
    obtain ⟨_, hja⟩ := stmts_join 600 Ta a.size [] La [] (hga 600 (Nat.le_refl _))
    obtain ⟨L', hL', h2⟩ := hja Ta [] (Tb.map (shiftTok ((bytesOf a).length + 1))) (a ++ (⟨#[10]⟩ : ByteArray) ++ b).size rfl El.nil
    obtain ⟨La0, ea, hla, _⟩ := stmts_acc 600 [] Ta a.size La [] (hga 600 (Nat.le_refl _))
    obtain ⟨Lb0, eb, hlb, hsh⟩ := stmts_acc 600 [] Tb b.size Lb [] (hgb 600 (Nat.le_refl _))
    rw [List.nil_append] at ea eb
    subst ea
    subst eb
    have hlen := hL'.len
    have h3 := hsh L' (by omega)
    obtain ⟨_, hjb⟩ := stmts_join 600 Tb b.size L' (L' ++ Lb) [] h3
    obtain ⟨M, hM, h4⟩ := hjb (Tb.map (shiftTok ((bytesOf a).length + 1))) L' [] (a ++ (⟨#[10]⟩ : ByteArray) ++ b).size (shift_er _ _).symm (El.refl _)
    have hml := hM.len
    rw [List.length_append] at hml
    have h5 := h4 1 (.ok (M, [])) (by rw [gstmts_eq, if_pos (by omega), if_pos rfl])
    rw [List.append_nil] at h5
    have h6 := h2 _ _ h5
    refine ⟨M, by rw [parseX_ok hs h6]; rfl, fun k => ?_, Post.stmts _ _ Bl.nil _ _ _ _ h6⟩
    rw [← hM k, List.map_append, List.map_append, ← hL' k]
end Go.Proofs.YtknbfhhmjbnemaaDoor.P
end
section
namespace Go.Proofs.YtknbfhhmjbnemaaDoor.P
open Go.RowKit Go.Proofs.YtknbfhhmjbnemaaDoorW.PrintWords Go.Proofs.YtknbfhhmjbnemaaDoorW.PrintLast Go.Proofs.YtknbfhhmjbnemaaDoorW.PrintMore Go.Proofs.YtknbfhhmjbnemaaDoor.Pure
set_option linter.unusedVariables false
set_option linter.unusedSimpArgs false

set_option maxHeartbeats 8000000 in
set_option maxRecDepth 100000 in
theorem joined_calls (a b : ByteArray) (m : Int) (w : World) (hm : w.cell? ⟨0, 0, none⟩ = some (.int .i64 m)) (ht : TabW w) (ha : a.size ≤ 140737488351232) (hb : b.size ≤ 140737488351232) :
    Calls Tryd.prog 3 #[.string a, .string b] w (LawEnd w) := by
  have hu25 := Tryd.underlying25
  have LW0 := Aside0.mk (show LawW m w w from ⟨hm, ht, Below.refl _ _⟩)
  have HTW := Aside0.mk (And.intro ht hm)
  clear hm ht
  by_cases hg : 2000 < a.size ∨ 2000 < a.size + b.size
  · by_cases h1 : 2000 < a.size
    · have d1 : decide ((a.size : Int) > 2000) = true := decide_eq_true (by omega)
      have d2 : decide (2000 < (a.size : Int)) = true := decide_eq_true (by omega)
      have d3 : decide (2000 < a.size) = true := decide_eq_true (by omega)
      go_enter Tryd.func3, Tryd.ntmps3
      go_wp2_with (go_at_call 8; (with_reducible refine (law_alive LW0.out).mono ?_); rintro e w9 ⟨rfl, h1, h2⟩; have LW9 := Aside0.mk h1; clear h1 h2)
      go_ret
      exact ⟨rfl, LW9.out.bel⟩
    · have d1 : decide ((a.size : Int) > 2000) = false := decide_eq_false (by omega)
      have d2 : decide (2000 < (a.size : Int)) = false := decide_eq_false (by omega)
      have d3 : decide (2000 < a.size) = false := decide_eq_false (by omega)
      have d4 : decide ((b.size : Int) > 2000 - (a.size : Int)) = true := decide_eq_true (by omega)
      have d5 : decide (2000 - (a.size : Int) < (b.size : Int)) = true := decide_eq_true (by omega)
      go_enter Tryd.func3, Tryd.ntmps3
      go_wp2_with (go_at_call 8; (with_reducible refine (law_alive LW0.out).mono ?_); rintro e w9 ⟨rfl, h1, h2⟩; have LW9 := Aside0.mk h1; clear h1 h2)
      go_ret
      exact ⟨rfl, LW9.out.bel⟩
  have d1 : decide ((a.size : Int) > 2000) = false := decide_eq_false (by omega)
  have d2 : decide (2000 < (a.size : Int)) = false := decide_eq_false (by omega)
  have d3 : decide (2000 < a.size) = false := decide_eq_false (by omega)
  have d4 : decide ((b.size : Int) > 2000 - (a.size : Int)) = false := decide_eq_false (by omega)
  have d5 : decide (2000 - (a.size : Int) < (b.size : Int)) = false := decide_eq_false (by omega)
  have hsz1 : a.size + 1 ≤ 2001 := by omega
  have hsz2 : a.size + 1 + b.size ≤ 2001 := by omega
  clear hg
  go_enter Tryd.func3, Tryd.ntmps3
  obtain ⟨⟨na, ea, ta⟩, hxa⟩ : ∃ x, ParX a x := ⟨_, rfl⟩
  have HXa := Aside0.mk hxa
  clear hxa
  go_upto_region 4 with (go_at_call 9; (with_reducible refine (law_parse LW0.out _ HXa.out).mono ?_); rintro e wa ⟨Aa, ca, rfl, h1, h2, h3⟩; have NFa := Aside0.mk h1; have LWa0 := Aside0.mk h2; have BBa := Aside0.mk h3; clear h1 h2 h3)
  generalize hW : World.alloc wa _ = Wa
  have Xa := Aside0.mk (show NodeX Wa wa.heap.size (fun k => w.heap.size ≤ k ∧ k < wa.heap.size) na Aa ca from by rw [← hW]; exact NodeX.new NFa.out)
  have SZa := Aside0.mk (show Wa.heap.size = wa.heap.size + 1 from by rw [← hW, World.size_alloc])
  have LWa := Aside0.mk (show LawW m w Wa from by rw [← hW]; exact LWa0.out.alloc _)
  have BXa := Aside0.mk (show Below w.heap.size w Wa from by rw [← hW]; exact below_alloc BBa.out _)
  have Ba0 := Aside0.mk BBa.out.size
  clear hW LWa0 BBa
  obtain ⟨⟨nb, eb, tb⟩, hxb⟩ : ∃ x, ParX b x := ⟨_, rfl⟩
  have HXb := Aside0.mk hxb
  clear hxb
  go_upto_region 5 with (go_at_call 9; (with_reducible refine (law_parse LWa.out _ HXb.out).mono ?_); rintro e wb ⟨Ab, cb, rfl, h1, h2, h3⟩; have NFb := Aside0.mk h1; have LWb0 := Aside0.mk h2; have BBb := Aside0.mk h3; clear h1 h2 h3)
  generalize hW : World.alloc wb _ = Wb
  have Xb := Aside0.mk (show NodeX Wb wb.heap.size (fun k => Wa.heap.size ≤ k ∧ k < wb.heap.size) nb Ab cb from by rw [← hW]; exact NodeX.new NFb.out)
  have SZb := Aside0.mk (show Wb.heap.size = wb.heap.size + 1 from by rw [← hW, World.size_alloc])
  have LWb := Aside0.mk (show LawW m w Wb from by rw [← hW]; exact LWb0.out.alloc _)
  have BXb := Aside0.mk (show Below Wa.heap.size Wa Wb from by rw [← hW]; exact below_alloc BBb.out _)
  have Bb0 := Aside0.mk BBb.out.size
  clear hW LWb0 BBb
  have Xa1 := Aside0.mk (Xa.out.below BXb.out)
  obtain ⟨⟨np, ep, tp⟩, hxp⟩ : ∃ x, ParX (a ++ (⟨#[10]⟩ : ByteArray) ++ b) x := ⟨_, rfl⟩
  have HXp := Aside0.mk hxp
  clear hxp
  go_upto_region 6 with (go_at_call 9; (with_reducible refine (law_parse LWb.out _ HXp.out).mono ?_); rintro e wp ⟨Ap, cp, rfl, h1, h2, h3⟩; have NFp := Aside0.mk h1; have LWp0 := Aside0.mk h2; have BBp := Aside0.mk h3; clear h1 h2 h3)
  generalize hW : World.alloc wp _ = Wp
  have Xp := Aside0.mk (show NodeX Wp wp.heap.size (fun k => Wb.heap.size ≤ k ∧ k < wp.heap.size) np Ap cp from by rw [← hW]; exact NodeX.new NFp.out)
  have SZp := Aside0.mk (show Wp.heap.size = wp.heap.size + 1 from by rw [← hW, World.size_alloc])
  have LWp := Aside0.mk (show LawW m w Wp from by rw [← hW]; exact LWp0.out.alloc _)
  have BXp := Aside0.mk (show Below Wb.heap.size Wb Wp from by rw [← hW]; exact below_alloc BBp.out _)
  have Bp0 := Aside0.mk BBp.out.size
  clear hW LWp0 BBp
  have Xa2 := Aside0.mk (Xa1.out.below BXp.out)
  have Xb1 := Aside0.mk (Xb.out.below BXp.out)
  have BXa0 := Aside0.mk (Ba0.out)
  have BXb0 := Aside0.mk (Bb0.out)
  have BXp0 := Aside0.mk (Bp0.out)
  clear Xa Xa1 Xb NFa NFb NFp LW0 LWa LWb BXa BXb BXp d1 d2 d3 d4 d5
  by_cases hea : ea = 0
  case neg =>
    have qa1 : (ea == 0) = false := by simpa using hea
    have qa2 : (ea != 0) = true := by simpa using hea
    clear hea
    go_wp2_with (go_at_call 8; (with_reducible refine (law_alive LWp.out).mono ?_); rintro e w9 ⟨rfl, h1, h2⟩; have LW9 := Aside0.mk h1; clear h1 h2)
    go_ret
    exact ⟨rfl, LW9.out.bel⟩
  by_cases heb : eb = 0
  case neg =>
    have qa1 : (ea == 0) = true := by rw [hea]; rfl
    have qa2 : (ea != 0) = false := by rw [hea]; rfl
    have qb1 : (eb == 0) = false := by simpa using heb
    have qb2 : (eb != 0) = true := by simpa using heb
    clear hea heb
    go_wp2_with (go_at_call 8; (with_reducible refine (law_alive LWp.out).mono ?_); rintro e w9 ⟨rfl, h1, h2⟩; have LW9 := Aside0.mk h1; clear h1 h2)
    go_ret
    exact ⟨rfl, LW9.out.bel⟩
  by_cases hep : ep = 103
  case pos =>
    have qa1 : (ea == 0) = true := by rw [hea]; rfl
    have qa2 : (ea != 0) = false := by rw [hea]; rfl
    have qb1 : (eb == 0) = true := by rw [heb]; rfl
    have qb2 : (eb != 0) = false := by rw [heb]; rfl
    have qp1 : (ep == 103) = true := by rw [hep]; rfl
    have qp2 : (ep != 103) = false := by rw [hep]; rfl
    clear hea heb hep
    go_wp2_with (go_at_call 8; (with_reducible refine (law_alive LWp.out).mono ?_); rintro e w9 ⟨rfl, h1, h2⟩; have LW9 := Aside0.mk h1; clear h1 h2)
    go_ret
    exact ⟨rfl, LW9.out.bel⟩
  obtain ⟨L, hL0, hEl, hBl⟩ : ∃ L, ((np, ep, tp) : S25 × Int × Int) = (⟨FILE, ⟨#[]⟩, 0, 0, L⟩, 0, -1) ∧ El L (na.f4 ++ nb.f4) ∧ Bl L := by
    have h1 : parseX a = (na, ea, ta) := HXa.out
    have h2 : parseX b = (nb, eb, tb) := HXb.out
    have h3 : parseX (a ++ (⟨#[10]⟩ : ByteArray) ++ b) = (np, ep, tp) := HXp.out
    have hj := joined_plain a b (by rw [h1]; exact hea) (by rw [h2]; exact heb)
    rw [h1, h2, h3] at hj
    rcases hj with hj | hj
    · exact absurd hj hep
    · exact hj
  have hfile : na.f0 = FILE ∧ na.f1 = ⟨#[]⟩ ∧ na.f2 = 0 ∧ Bl na.f4 ∧ Bl nb.f4 := by
    have h1 : parseX a = (na, ea, ta) := HXa.out
    have h2 : parseX b = (nb, eb, tb) := HXb.out
    obtain ⟨Ta, La, _, g1, g2⟩ := parseX_file (s := a) (by rw [h1]; exact hea)
    obtain ⟨Tb, Lb, _, g3, g4⟩ := parseX_file (s := b) (by rw [h2]; exact heb)
    rw [h1] at g2
    rw [h2] at g4
    cases g2
    cases g4
    exact ⟨rfl, rfl, rfl, Post.stmts _ _ Bl.nil _ _ _ _ (g1 600 (Nat.le_refl _)), Post.stmts _ _ Bl.nil _ _ _ _ (g3 600 (Nat.le_refl _))⟩
  simp only [Prod.mk.injEq] at hL0
  obtain ⟨rfl, hep0, _⟩ := hL0
  have HFL := Aside0.mk hfile
  have HEL := Aside0.mk hEl
  have HBL := Aside0.mk hBl
  have HEP := Aside0.mk hep0
  have HNEP := Aside0.mk hep
  clear hfile hEl hBl
  have qa1 : (ea == 0) = true := by rw [hea]; rfl
  have qa2 : (ea != 0) = false := by rw [hea]; rfl
  have qb1 : (eb == 0) = true := by rw [heb]; rfl
  have qb2 : (eb != 0) = false := by rw [heb]; rfl
  have qp1 : (ep == 103) = false := by simpa using hep
  have qp2 : (ep != 103) = true := by simpa using hep
  clear hea heb hep hep0
  go_upto_region 10 with (fail)
  have Xa := Aside0.mk (Xa2.out.below (below_drew (Below.refl _ _)))
  have Xb := Aside0.mk (Xb1.out.below (below_drew (Below.refl _ _)))
  have Xq := Aside0.mk (Xp.out.below (below_drew (Below.refl _ _)))
  have LWq := Aside0.mk (LWp.out.below (below_drew (Below.refl _ _)))
  clear Xa2 Xb1 Xp LWp
  have NE1 := Aside0.mk (blk_lt Xa.out.blk)
  have ca4 := (blk_cell Xa.out.blk 4).trans rfl
  have cb4 := (blk_cell Xb.out.blk 4).trans rfl
  refine start_ (n := 9) (S := fun w' => w'.cell? ⟨wa.heap.size, 4, none⟩ = some (.slice Aa na.f4.length ca) ∧ w'.cell? ⟨wb.heap.size, 4, none⟩ = some (.slice Ab nb.f4.length cb)) (ds := [8]) #[false, false, false, false, false, false, false, false, false] (by kernel_rfl) rfl rfl ?hS (fun hHeld => ?_)
  case hS => exact ⟨ca4, cb4⟩
  generalize World.drew Wp = Wd at *
  refine pure_ (i := 1) (N := some 59) (v := ?_) (a' := ?_) #[false, true, false, false, false, false, false, false, false] rfl rfl (by kernel_rfl) (fun _ _ _ h => h) (Or.inl ⟨by rfl, ?_⟩) ?_ ?_
  rotate_left
  · intro w'
    go_simp
    with_reducible rfl
  rotate_left
  · simp only [Act.put, List.setIfInBounds_toArray, List.set_cons_zero, List.set_cons_succ, i64_w, i32_w]
    rfl
  refine pure_ (i := 4) (N := some 62) (v := ?_) (a' := ?_) #[false, true, false, false, true, false, false, false, false] rfl rfl (by kernel_rfl) (fun _ _ _ h => h) (Or.inl ⟨by rfl, ?_⟩) ?_ ?_
  rotate_left
  · intro w'
    go_simp
    with_reducible rfl
  rotate_left
  · simp only [Act.put, List.setIfInBounds_toArray, List.set_cons_zero, List.set_cons_succ, i64_w, i32_w]
    rfl
  refine take_ (i := 2) (N := some 60) (v := ?_) (a' := ?_) #[false, true, true, false, true, false, false, false, false] rfl rfl (by kernel_rfl) (fun _ _ _ h => h) (Or.inl ⟨by rfl, ?_⟩) hHeld ?_ ?_
  rotate_left
  · rintro w' ⟨s0, s1⟩
    go_simp
    with_reducible rfl
  rotate_left
  · simp only [Act.put, List.setIfInBounds_toArray, List.set_cons_zero, List.set_cons_succ, i64_w, i32_w]
    rfl
  refine take_ (i := 5) (N := some 63) (v := ?_) (a' := ?_) #[false, true, true, false, true, true, false, false, false] rfl rfl (by kernel_rfl) (fun _ _ _ h => h) (Or.inl ⟨by rfl, ?_⟩) hHeld ?_ ?_
  rotate_left
  · rintro w' ⟨s0, s1⟩
    go_simp
    with_reducible rfl
  rotate_left
  · simp only [Act.put, List.setIfInBounds_toArray, List.set_cons_zero, List.set_cons_succ, i64_w, i32_w]
    rfl
  have FA := Aside0.mk (show Kd.F k25 Wd (fun k => k ≠ wa.heap.size ∧ k < Wd.heap.size) Aa na.f4.length na.f4 from Kd.F_mono (Kd.F_bound Xa.out.nd.hF) (fun k hk => ⟨by omega, hk.2⟩))
  have FB := Aside0.mk (show Kd.F k25 Wd (fun k => k ≠ wa.heap.size ∧ k < Wd.heap.size) Ab nb.f4.length nb.f4 from Kd.F_mono (Kd.F_bound Xb.out.nd.hF) (fun k hk => ⟨by have := SZa.out; omega, hk.2⟩))
  refine one_ (i := 0) (N := some 58) #[true, true, true, false, true, true, false, false, false] rfl rfl (by kernel_rfl) (by decide) (fun K hK => ?_)
  refine Kd.N_lit_step k25 (w0 := Wd) Wd.heap.size 25 (by rfl) (N' := 58) rfl (xs := []) (inner := []) (ok := fun k => k ≠ wa.heap.size) (okp := fun k => k ≠ wa.heap.size) ?hr (Reps.none _ _) (fun _ hk => hk) (Nat.ne_of_gt NE1.out) (Below.refl _ _) (Nat.le_refl _) (by simp) ?_
  case hr => first | (go_simp; done) | (go_simp; rfl)
  intro v1 w1 hN1 hb1 hg1 hat1
  have X1a := Aside0.mk (Xa.out.below hb1)
  have X1b := Aside0.mk (Xb.out.below hb1)
  have HN1 := Aside0.mk hN1
  have HB1 := Aside0.mk hb1
  clear hN1 hb1 hg1 hat1
  try clear hHeld
  refine hK.out _ _ ⟨((blk_cell X1a.out.blk 4).trans rfl), ((blk_cell X1b.out.blk 4).trans rfl)⟩ (fun hHeld => ?_)
  clear hK K
  refine norm_ (a' := ?_) ?_ ?_
  rotate_left
  · show Act.put _ (some 58) _ = _
    simp only [Act.put, List.setIfInBounds_toArray, List.set_cons_zero, List.set_cons_succ, i64_w, i32_w]
    rfl
  refine one_ (i := 3) (N := some 61) #[true, true, true, true, true, true, false, false, false] rfl rfl (by kernel_rfl) (by decide) (fun K hK => ?_)
  refine Kd.N_append_rows_step k25 (w0 := Wd) Wd.heap.size (by rfl) (.tmp 58) (.tmp 60) 23 25 (.agg #[.string (⟨#[]⟩ : ByteArray), .string (⟨#[]⟩ : ByteArray), .int .i64 0, .int .i64 0, .slice none 0 0]) 72 rfl Tryd.underlying23 info25 rfl (by decide) (by decide) (v1) ([]) (na.f4) Aa (na.f4).length ca (fun k => k ≠ wa.heap.size) (fun k => k ≠ wa.heap.size ∧ k < Wd.heap.size) rfl rfl HN1.out (Kd.F_below FA.out HB1.out) ?hokp (fun k hk => by have := NE1.out; have := HB1.out.size; omega) HB1.out HB1.out.size ?hbd ?_
  case hokp => intro k hk; exact ⟨hk.1, fun e => by have := Kd.N_base HN1.out k e.symm; omega⟩
  case hbd => have := HFL.out.2.2.2.1.1; simp; omega
  intro v2 w2 hN2 hb2 hg2 hat2
  rw [List.nil_append] at hN2
  have HN2 := Aside0.mk hN2
  have HB2 := Aside0.mk hb2
  have X2a := Aside0.mk (Xa.out.below hb2)
  have X2b := Aside0.mk (Xb.out.below hb2)
  clear hN2 hb2 hg2 hat2
  try clear hHeld
  refine hK.out _ _ ⟨((blk_cell X2a.out.blk 4).trans rfl), ((blk_cell X2b.out.blk 4).trans rfl)⟩ (fun hHeld => ?_)
  clear hK K
  refine norm_ (a' := ?_) ?_ ?_
  rotate_left
  · show Act.put _ (some 61) _ = _
    simp only [Act.put, List.setIfInBounds_toArray, List.set_cons_zero, List.set_cons_succ, i64_w, i32_w]
    rfl
  refine one_ (i := 6) (N := some 64) #[true, true, true, true, true, true, true, false, false] rfl rfl (by kernel_rfl) (by decide) (fun K hK => ?_)
  refine Kd.N_append_rows_step k25 (w0 := Wd) Wd.heap.size (by rfl) (.tmp 61) (.tmp 63) 23 25 (.agg #[.string (⟨#[]⟩ : ByteArray), .string (⟨#[]⟩ : ByteArray), .int .i64 0, .int .i64 0, .slice none 0 0]) 72 rfl Tryd.underlying23 info25 rfl (by decide) (by decide) (v2) (na.f4) (nb.f4) Ab (nb.f4).length cb (fun k => k ≠ wa.heap.size) (fun k => k ≠ wa.heap.size ∧ k < Wd.heap.size) rfl rfl HN2.out (Kd.F_below FB.out HB2.out) ?hokp (fun k hk => by have := NE1.out; have := HB2.out.size; omega) HB2.out HB2.out.size ?hbd ?_
  case hokp => intro k hk; exact ⟨hk.1, fun e => by have := Kd.N_base HN2.out k e.symm; omega⟩
  case hbd => have := HFL.out.2.2.2.1.1; have := HFL.out.2.2.2.2.1; simp; omega
  intro v3 w3 hN3 hb3 hg3 hat3
  obtain ⟨A3, c3, rfl⟩ := Kd.N_slice hN3
  have HN3 := Aside0.mk hN3
  have HB3 := Aside0.mk hb3
  have X3a := Aside0.mk (Xa.out.below hb3)
  have X3b := Aside0.mk (Xb.out.below hb3)
  have X3p := Aside0.mk (Xq.out.below hb3)
  have LW3 := Aside0.mk (LWq.out.below hb3)
  clear hN3 hb3 hg3 hat3
  try clear hHeld
  refine hK.out _ _ ⟨((blk_cell X3a.out.blk 4).trans rfl), ((blk_cell X3b.out.blk 4).trans rfl)⟩ (fun hHeld => ?_)
  clear hK K
  refine norm_ (a' := ?_) ?_ ?_
  rotate_left
  · show Act.put _ (some 64) _ = _
    simp only [Act.put, List.setIfInBounds_toArray, List.set_cons_zero, List.set_cons_succ, i64_w, i32_w]
    rfl
  refine pure_ (i := 7) (N := some 65) (v := ?_) (a' := ?_) #[true, true, true, true, true, true, true, true, false] rfl rfl (by kernel_rfl) (fun _ _ _ h => h) (Or.inl ⟨by rfl, ?_⟩) ?_ ?_
  rotate_left
  · intro w'
    go_simp
    with_reducible rfl
  rotate_left
  · simp only [Act.put, List.setIfInBounds_toArray, List.set_cons_zero, List.set_cons_succ, i64_w, i32_w]
    rfl
  have x4 := (blk_cell X3a.out.blk 4).trans rfl
  have f4 := blk_frozen X3a.out.blk 4
  refine last_ (i := 8) (N := none) #[true, true, true, true, true, true, true, true, true] rfl rfl (by kernel_rfl) (by decide) (fun K hK => ?_)
  refine skip_ (w1 := ?_) (by rfl) rfl ?_ ?_
  rotate_left
  · go_simp
    rfl
  refine hK.out _ _ ?_
  clear hK K
  refine done_ (by kernel_rfl) ?_
  generalize hW9 : World.setCell w3 _ _ = W9
  rw [← List.length_append] at hW9
  have hne2 : wp.heap.size ≠ wa.heap.size := by have h1 := SZa.out; have h2 := SZb.out; have h3 := BXb0.out; have h4 := BXp0.out; omega
  have Y1 := Aside0.mk (show NodeX W9 wa.heap.size (fun k => k ≠ wa.heap.size) (⟨na.f0, na.f1, na.f2, na.f3, na.f4 ++ nb.f4⟩ : S25) A3 c3 from by rw [← hW9]; exact ⟨blk_put X3a.out.blk 4 _ rfl, ⟨(Kd.N_reads' HN3.out).2.1, Kd.F_far (Kd.N_F HN3.out) (fun k hk => hk) _⟩⟩)
  have Y3 := Aside0.mk (show NodeX W9 wp.heap.size _ _ Ap cp from by rw [← hW9]; exact X3p.out.far (p := ⟨wa.heap.size, 4, none⟩) hne2 (fun k hk => by have h1 := SZa.out; have h2 := BXb0.out; have h4 := SZb.out; show k ≠ wa.heap.size; omega) _)
  have LY := Aside0.mk (show LawW m w W9 from by rw [← hW9]; exact LW3.out.set_ BXa0.out _ HTW.out.1 HTW.out.2)
  clear hne2 x4 f4 X3a X3b X3p LW3 HN1 HN2 HN3 HB1 HB2 HB3 X1a X1b X2a X2b Xa Xb Xq LWq FA FB hHeld
  clear hW9
  have hEn : En (⟨FILE, ⟨#[]⟩, 0, 0, L⟩ : S25) (⟨na.f0, na.f1, na.f2, na.f3, na.f4 ++ nb.f4⟩ : S25) := by rw [HFL.out.1, HFL.out.2.1, HFL.out.2.2.1]; exact En.mk HEL.out
  obtain ⟨k0, hk0⟩ := same_of _ _ false hEn (by intro h; cases h) (Bn.mk HBL.out)
  have HK := Aside0.mk (hk0 k0 (Nat.le_refl _))
  clear hEn hk0
  have hsame := law_same LY.out Y3.out.nd Y1.out.nd k0 HK.out
  dsimp only at hsame
  rw [List.length_append] at hsame
  have HSAME := Aside0.mk hsame
  clear hsame
  have ya0 : W9.cell? ⟨wa.heap.size, 0, none⟩ = some (.string na.f0) := (blk_cell Y1.out.blk 0).trans rfl
  have ya1 : W9.cell? ⟨wa.heap.size, 1, none⟩ = some (.string na.f1) := (blk_cell Y1.out.blk 1).trans rfl
  have ya2 : W9.cell? ⟨wa.heap.size, 2, none⟩ = some (.int .i64 na.f2) := (blk_cell Y1.out.blk 2).trans rfl
  have ya3 : W9.cell? ⟨wa.heap.size, 3, none⟩ = some (.int .i64 na.f3) := (blk_cell Y1.out.blk 3).trans rfl
  have ya4 : W9.cell? ⟨wa.heap.size, 4, none⟩ = some (.slice A3 (na.f4.length + nb.f4.length) c3) := by rw [← List.length_append]; exact (blk_cell Y1.out.blk 4).trans rfl
  have yp0 : W9.cell? ⟨wp.heap.size, 0, none⟩ = some (.string FILE) := (blk_cell Y3.out.blk 0).trans rfl
  have yp1 : W9.cell? ⟨wp.heap.size, 1, none⟩ = some (.string (⟨#[]⟩ : ByteArray)) := (blk_cell Y3.out.blk 1).trans rfl
  have yp2 : W9.cell? ⟨wp.heap.size, 2, none⟩ = some (.int .i64 0) := (blk_cell Y3.out.blk 2).trans rfl
  have yp3 : W9.cell? ⟨wp.heap.size, 3, none⟩ = some (.int .i64 0) := (blk_cell Y3.out.blk 3).trans rfl
  have yp4 : W9.cell? ⟨wp.heap.size, 4, none⟩ = some (.slice Ap L.length cp) := (blk_cell Y3.out.blk 4).trans rfl
  have ez1 : (ep == 0) = true := by have := HEP.out; simpa using this
  go_wp2_with (first | (go_at_call 10; (with_reducible refine HSAME.out.mono ?_); rintro e w8 ⟨rfl, h1, h2⟩; have LW8 := Aside0.mk h1; clear h1 h2) | (go_at_call 8; (with_reducible refine (law_alive LW8.out).mono ?_); rintro e w9 ⟨rfl, h1, h2⟩; have LW9 := Aside0.mk h1; clear h1 h2))
  go_ret
  exact ⟨rfl, LW9.out.bel⟩
end Go.Proofs.YtknbfhhmjbnemaaDoor.P
end
section
namespace Go.Proofs.YtknbfhhmjbnemaaDoor.parseJoined
open Go.ChangeShapes Go.WideShapes Go.ChangeAt Go.RowKit
open Go.ChangeMaps (open_string shut_string)
set_option linter.unusedVariables false
set_option maxRecDepth 100000 in
theorem lifted (os : Os) (started : os.Started) (H : Type) (enc : TypeId × Value → H) :
    ReturnsInHanded {} Tryd.checked os 3 .any (fun w args => (Rows.parseJoinedSpec.pre enc Tryd.prog Tryd.f3 Rows.parseJoinedRow.domain false w args ∧ laidMetH Tryd.prog laid3 w) ∧ sizedMet enc Tryd.prog Tryd.f3 (OpenSpec.ofChange Rows.parseJoinedSpec) false w args)
      (Rows.parseJoinedSpec.post enc Tryd.prog Tryd.f3 false true false false) := by
  refine change_and_shaped (C := Tryd.checked) (X := fun w _ => laidMetH Tryd.prog laid3 w) (fun _ _ _ hh h => h.of_heap hh) own started (by kernel_rfl) Tryd.func3
    (ChangeSpec.witness_shaped (enc := enc) (C := Tryd.checked) (os := os) (X := fun w _ => laidMetH Tryd.prog laid3 w) false (World.doorLaid Tryd.prog 400 os) #[.string ByteArray.empty, .string ByteArray.empty] 8 rfl (World.shaped_of_RefB (by kernel_rfl) (by kernel_rfl)) (by kernel_rfl) (by kernel_rfl) (by kernel_rfl) (door_met os _)) ?_
  intro W base args ds gs before hval0 hW hcnd hsz0 hL hsh _
  obtain ⟨m_, hm_⟩ := Tryd.laysM144.s1_3 W hsh
  have hsz : (DataW.weightsEach Tryd.prog (Tryd.f3.params.toList ++ Rows.parseJoinedSpec.plain.varTypes Tryd.prog) (ds ++ gs)).all (· ≤ reachBytes) = true := hsz0
  have hval : ∀ (j : Nat) t v, Tryd.f3.params[j]? = some t → args[j]? = some v → Value.okWide Tryd.prog W .any base t v := hval0
  have hW' := hW
  obtain ⟨p, q, hA0, hV, rfl, hfz, hnd⟩ := hW
  have hA : DataW.TrodAll enc Tryd.prog W 0 (fun _ => true) true Tryd.f3.params.toList args.toList ds p := hA0
  rw [Tryd.params3] at hA hval hsz
  obtain ⟨v0, vs0, d0, ds0, p0, q0, hargs, rfl, rfl, h0, r0⟩ := trodAll_cons hA
  obtain ⟨v1, vs1, d1, ds1, p1, q1, rfl, rfl, rfl, h1, r1⟩ := trodAll_cons r0
  obtain ⟨rfl, rfl, rfl⟩ := trodAll_nil r1
  obtain rfl : args = #[v0, v1] := by cases args; simp_all
  obtain ⟨rfl, rfl⟩ := trodVars_none hV
  obtain ⟨a0, rfl, rfl, rfl, y0⟩ := open_string Tryd.underlying9 (hval 0 9 v0 rfl rfl) h0
  obtain ⟨a1, rfl, rfl, rfl, y1⟩ := open_string Tryd.underlying9 (hval 1 9 v1 rfl rfl) h1
  have w0 : a0.size ≤ 140737488351232 := by
    have z := sized_string hsz (j := 0) (t := 9) rfl rfl
    rw [Array.length_toList] at z
    exact z
  have w1 : a1.size ≤ 140737488351232 := by
    have z := sized_string hsz (j := 1) (t := 9) rfl rfl
    rw [Array.length_toList] at z
    exact z
  clear hA0 hval0 hsz0 hsz
  refine (P.joined_calls a0 a1 m_ W hm_ (tab_of_laid hL) w0 w1).mono fun e W' ⟨he, bel⟩ => ?_
  subst he
  exact ⟨_, rfl, _, _, _, [], _, [], hW', trodAll_mk1 (shut_bool Tryd.underlying4 _), (trodAll_cons_mk (shut_string Tryd.underlying9 y0) (trodAll_cons_mk (shut_string Tryd.underlying9 y1) trodAll_mk0)), rfl, bel.frame _, fun h => by cases h⟩
theorem over : Rows.ParseJoinedSaid :=
  OpenClaim.holds_of_wide 3 Tryd.f3 rfl rfl rfl rfl rfl rfl rfl ⟨rfl, rfl, rfl, rfl, rfl⟩ rfl rfl rfl rfl rfl (by kernel_rfl) Tryd.func3 (by kernel_rfl)
    (of_decide_eq_true (by kernel_rfl)) (by unfold Func.isWrapper; first | (rw [if_pos (by decide +kernel)]; kernel_rfl) | (rw [if_neg (by decide +kernel)]; exact ⟨rfl, rfl⟩))
    (fun os started H enc _ => lifted os started H enc)
end Go.Proofs.YtknbfhhmjbnemaaDoor.parseJoined
namespace Go.Proofs.YtknbfhhmjbnemaaDoor
/-- THE TIED CARD. -/
theorem parseJoined_holds : Rows.ParseJoinedCardSaid :=
  Claim7.holds_tied_plain_at .later [] [.data, .data, .data] true (true, "8cdf8f3caba360dc7b05f8e528f7f118d71880da62c48cb09c7ea98c408e307c") true
    parseJoined.over (fun _ h => by cases h) (by kernel_rfl) (fun _ h => by cases h) parseJoined_row_tie rfl ⟨rfl, rfl⟩ (by kernel_rfl) rfl
    (fun f fn hf hfn => by
      obtain rfl : f = 3 := Option.some.inj ((show Tryd.prog.funcNamed "cofferdam/cofferdamlaw11.ParseJoined" = some 3 by kernel_rfl).symm.trans hf) |>.symm
      obtain rfl : fn = Tryd.f3 := (Option.some.inj (Tryd.func3.symm.trans hfn)).symm
      exact ⟨by kernel_rfl, fun j t ht => by
        rw [Tryd.params3] at ht
        have hm : t ∈ [9, 9] := by simpa using Array.mem_of_getElem? ht
        have hall : ([9, 9].all fun u => !Tryd.prog.wantsStandIn u) = true := by kernel_rfl
        exact (show Tryd.prog.wantsStandIn t = false by simpa using List.all_eq_true.1 hall t hm)⟩)
    (by kernel_rfl)
end Go.Proofs.YtknbfhhmjbnemaaDoor
end
#print axioms Go.Proofs.YtknbfhhmjbnemaaDoor.parseJoined_holds
