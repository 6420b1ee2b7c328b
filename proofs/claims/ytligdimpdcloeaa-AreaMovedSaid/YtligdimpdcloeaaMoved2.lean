import Derived.Test.YtligdimpdcloeaaMoved1
namespace Go.Proofs.Ytligdimpdcloeaa.P
open Go.RowKit Go.Proofs.YtligdimpdcloeaaW.PrintWords Go.Proofs.YtligdimpdcloeaaW.PrintLast Go.Proofs.YtligdimpdcloeaaW.PrintMore
attribute [local go_sem] max2_int min2_int max_two min_two
set_option linter.unusedVariables false
set_option linter.unusedSimpArgs false

theorem infoR3 : (Try.prog.info? 33).map (fun i => (i.zero, i.size, i.bytes)) = some (some (.agg #[.int .i64 0, .int .i64 0, .int .i64 0]), 3, 24) := by kernel_rfl
/-- What the loop keeps: the rows o and m, in blocks of their own. -/
structure MovI (w : World) (b : Int) (l : List R3) (i : Nat) (vo vm : Value) (wr : World) : Prop where
  below : Below w.heap.size w wr
  o : OwnRow E3 33 3 wr w.heap.size vo (l.take i)
  m : OwnRow E3 33 3 wr w.heap.size vm ((l.take i).map (mvR b))
  ne : NeRow vo vm
  ok : ∀ j, j < i → okM (l.getD j (0, 0, 0))
theorem take_snoc (l : List R3) (i : Nat) (hi : i < l.length) : l.take (i + 1) = l.take i ++ [l.getD i (0, 0, 0)] := by
  rw [List.take_succ_eq_append_getElem hi]
  simp [List.getD, hi]
theorem own_blk {base : Nat} {w : World} {v : Value} {ps : List R3} (h : OwnRow E3 33 3 w base v ps) (k : Nat) (hk : v.ownBlock = some k) : k < w.heap.size := by
  obtain ⟨inner, ho, _⟩ := h
  exact own_lt ho k hk
theorem ne_app {W : World} {v v1 v' : Value} {base : Nat} {ps : List R3} (h : NeRow v v') (hat : v1.ownBlock = v.ownBlock ∨ ∃ b, v1.ownBlock = some b ∧ W.heap.size ≤ b) (ho : OwnRow E3 33 3 W base v' ps) : NeRow v1 v' := by
  obtain ⟨inner, ho, _⟩ := ho
  exact ne_append h hat ho

set_option maxHeartbeats 16000000 in
set_option maxRecDepth 100000 in
theorem moved_pos (A : Addr) (c : Nat) (l : List R3) (hl : l.length ≤ c) (hc : c ≤ 9223372036854775807) (by0 : Int) (hby : 0 ≤ by0) (hby2 : by0 ≤ 9223372036854775807) (b : Int) (hv : Int.tmod by0 1000 = b) (hb : 0 ≤ b ∧ b < 1000) (w : World) (h : Reads3 w A l) :
    Calls Try.prog 7 #[.slice (some A) l.length c, .int .i64 by0] w fun e w' => e = .returned (.bool true) ∧ Below w.heap.size w w' := by
  have d0 : decide (by0 < 0) = false := decide_eq_false (by omega)
  have HR := Aside0.mk h
  clear h
  go_enter Try.func7, Try.ntmps7
  go_wp2
  go_loopg [5, 6, 7] 61 (fun kx v5 v6 v7 wr => ∃ i : Nat, i ≤ l.length ∧ i ≤ 60 ∧ 61 - i ≤ kx ∧ v7 = .int .i64 i ∧ Aside0 (MovI w b l i v6 v5 wr))
  case atStart => exact ⟨0, Nat.zero_le _, Nat.zero_le _, Nat.le_refl _, rfl, ⟨⟨Below.refl _ _, OwnRow.none_ _ _ _ _ _, OwnRow.none_ _ _ _ _ _, ne_nil _, fun j hj => absurd hj (Nat.not_lt_zero _)⟩⟩⟩
  case round =>
    obtain ⟨i, hi, hi2, hg, rfl, HM⟩ := hrel
    obtain ⟨Ao, co, eo, _⟩ := HM.out.o.slice_
    obtain ⟨Am, cm, em, _⟩ := HM.out.m.slice_
    rw [show (l.take i).length = i by rw [List.length_take]; omega] at eo
    rw [show ((l.take i).map (mvR b)).length = i by rw [List.length_map, List.length_take]; omega] at em
    subst eo em
    by_cases hin : i < l.length ∧ i < 60
    · have hd : decide ((i : Int) < (l.length : Int)) = true := decide_eq_true (by omega)
      have hd60 : decide ((i : Int) < 60) = true := decide_eq_true (by omega)
      have q3 : (0 : Int) ≤ (i : Int) := by omega
      obtain ⟨k0, k1, k2⟩ := (HR.out.below HM.out.below) i hin.1
      have hts := take_snoc l i hin.1
      have HG := Aside0.mk (blk_new wr (.cells #[.int .i64 (l.getD i (0, 0, 0)).1, .int .i64 (l.getD i (0, 0, 0)).2.1, .int .i64 (l.getD i (0, 0, 0)).2.2] 33 (0, 0)))
      have hokm : ∀ j, j < i + 1 → (j < i → okM (l.getD j (0, 0, 0))) → (j = i → okM (l.getD i (0, 0, 0))) → okM (l.getD j (0, 0, 0)) := fun j hj h1 h2 => by
        by_cases hji : j = i
        · subst hji; exact h2 rfl
        · exact h1 (by omega)
      generalize hga : l.getD i (0, 0, 0) = a at *
      have g0 : (wr.alloc (.cells #[.int .i64 a.1, .int .i64 a.2.1, .int .i64 a.2.2] 33 (0, 0))).cell? ⟨wr.heap.size, 0, none⟩ = some (.int .i64 a.1) := (blk_cell HG.out 0).trans rfl
      have g1 : (wr.alloc (.cells #[.int .i64 a.1, .int .i64 a.2.1, .int .i64 a.2.2] 33 (0, 0))).cell? ⟨wr.heap.size, 1, none⟩ = some (.int .i64 a.2.1) := (blk_cell HG.out 1).trans rfl
      have g2 : (wr.alloc (.cells #[.int .i64 a.1, .int .i64 a.2.1, .int .i64 a.2.2] 33 (0, 0))).cell? ⟨wr.heap.size, 2, none⟩ = some (.int .i64 a.2.2) := (blk_cell HG.out 2).trans rfl
      by_cases c1 : a.2.1 < 0
      · have c1b : decide (a.2.1 < 0) = true := decide_eq_true c1
        go_wp2_with (go_at_call 14; refine (alive12_calls _).mono ?_; rintro e w3 ⟨rfl, hb3⟩; have HB3 := Aside0.mk hb3; clear hb3)
        go_ret
        exact ⟨rfl, (below_alloc HM.out.below _).trans (HB3.out.mono (below_alloc HM.out.below _).size)⟩
      · have c1b : decide (a.2.1 < 0) = false := decide_eq_false c1
        by_cases c2 : a.2.1 > 1048576
        · have c2b : decide (a.2.1 > 1048576) = true := decide_eq_true c2
          go_wp2_with (go_at_call 14; refine (alive12_calls _).mono ?_; rintro e w3 ⟨rfl, hb3⟩; have HB3 := Aside0.mk hb3; clear hb3)
          go_ret
          exact ⟨rfl, (below_alloc HM.out.below _).trans (HB3.out.mono (below_alloc HM.out.below _).size)⟩
        · have c2b : decide (a.2.1 > 1048576) = false := decide_eq_false c2
          by_cases c3 : a.2.2 > 1048576
          · have c3b : decide (a.2.2 > 1048576) = true := decide_eq_true c3
            go_wp2_with (go_at_call 14; refine (alive12_calls _).mono ?_; rintro e w3 ⟨rfl, hb3⟩; have HB3 := Aside0.mk hb3; clear hb3)
            go_ret
            exact ⟨rfl, (below_alloc HM.out.below _).trans (HB3.out.mono (below_alloc HM.out.below _).size)⟩
          · have c3b : decide (a.2.2 > 1048576) = false := decide_eq_false c3
            by_cases c4 : a.1 > 1099511627776
            · have c4b : decide (a.1 > 1099511627776) = true := decide_eq_true c4
              go_wp2_with (go_at_call 14; refine (alive12_calls _).mono ?_; rintro e w3 ⟨rfl, hb3⟩; have HB3 := Aside0.mk hb3; clear hb3)
              go_ret
              exact ⟨rfl, (below_alloc HM.out.below _).trans (HB3.out.mono (below_alloc HM.out.below _).size)⟩
            · have c4b : decide (a.1 > 1099511627776) = false := decide_eq_false c4
              by_cases c5 : a.1 < -1099511627776
              · have c5b : decide (a.1 < -1099511627776) = true := decide_eq_true c5
                go_wp2_with (go_at_call 14; refine (alive12_calls _).mono ?_; rintro e w3 ⟨rfl, hb3⟩; have HB3 := Aside0.mk hb3; clear hb3)
                go_ret
                exact ⟨rfl, (below_alloc HM.out.below _).trans (HB3.out.mono (below_alloc HM.out.below _).size)⟩
              · have c5b : decide (a.1 < -1099511627776) = false := decide_eq_false c5
                go_wp2_with (first | ((with_reducible refine gate_builtin (b := .append) (xs := #[.tmp 58, .tmp 60]) rfl ?_); (try (refine gate_guard (by rfl) ?_; dsimp only)); at_builtin; refine OwnRow.append (R := E3) (w0 := w) w.heap.size rfl (.tmp 58) (.tmp 60) 27 33 (.agg #[.int .i64 0, .int .i64 0, .int .i64 0]) 3 24 rfl Try.underlying27 infoR3 rfl (by decide) (by decide) (.slice Ao i co) (l.take i) a [.int .i64 a.1, .int .i64 a.2.1, .int .i64 a.2.2] rfl ?aX ?aP rfl ?a1 ?aO ?aB ?aS ?aL ?_ ; (case aX => first | rfl | (simp [World.size_alloc, Act.eval]; done)); (case aP => exact rfl); (case a1 => intro u hu; simp at hu; rcases hu with rfl | rfl | rfl <;> rfl); (case aO => exact HM.out.o.below (below_alloc (Below.refl _ _) _)); (case aB => exact below_alloc HM.out.below _); (case aS => exact (below_alloc HM.out.below _).size); (case aL => have e_ : (l.take i).length ≤ 60 := (by rw [List.length_take]; omega); omega); intro vo1 w1 ho1 hb1 hg1 hat1; rw [← hts] at ho1; have HO1 := Aside0.mk ho1; have HB1 := Aside0.mk hb1; have HM1 := Aside0.mk (OwnRow.other (HM.out.m.below (below_alloc (Below.refl _ _) _)) hg1 (ne_other HM.out.ne)); have HN1 := Aside0.mk (ne_app HM.out.ne hat1 (HM.out.m.below (below_alloc (Below.refl _ _) _))); have G1 := Aside0.mk ((hg1.block _ (by rw [World.size_alloc]; omega) (fun e_ => by have := own_blk HM.out.o _ e_.symm; omega)).trans HG.out); replace g0 := (blk_cell G1.out 0).trans rfl; replace g1 := (blk_cell G1.out 1).trans rfl; replace g2 := (blk_cell G1.out 2).trans rfl; clear ho1 hb1 hg1 hat1) | ((with_reducible refine gate_builtin (b := .append) (xs := #[.tmp 62, .tmp 74]) rfl ?_); (try (refine gate_guard (by rfl) ?_; dsimp only)); at_builtin; refine OwnRow.append (R := E3) (w0 := w) w.heap.size rfl (.tmp 62) (.tmp 74) 27 33 (.agg #[.int .i64 0, .int .i64 0, .int .i64 0]) 3 24 rfl Try.underlying27 infoR3 rfl (by decide) (by decide) (.slice Am i cm) ((l.take i).map (mvR b)) (mvR b a) [.int .i64 (mvR b a).1, .int .i64 (mvR b a).2.1, .int .i64 (mvR b a).2.2] rfl ?aX ?aP rfl ?a1 ?aO ?aB ?aS ?aL ?_ ; (case aX => first | rfl | (simp [World.size_alloc, Act.eval]; done)); (case aP => exact rfl); (case a1 => intro u hu; simp at hu; rcases hu with rfl | rfl | rfl <;> rfl); (case aO => exact HM1.out); (case aB => exact HB1.out); (case aS => exact HB1.out.size); (case aL => have e_ : ((l.take i).map (mvR b)).length ≤ 60 := (by rw [List.length_map, List.length_take]; omega); omega); intro vm1 w2 hm1 hb2 hg2 hat2; have HB2 := Aside0.mk hb2; have HMM := Aside0.mk (show OwnRow E3 33 3 w2 w.heap.size vm1 ((l.take (i + 1)).map (mvR b)) by rw [hts, List.map_append]; exact hm1); have HOO := Aside0.mk (OwnRow.other HO1.out hg2 (ne_other (ne_symm HN1.out))); have HNN := Aside0.mk (ne_symm (ne_app (ne_symm HN1.out) hat2 HO1.out)); clear hm1 hb2 hg2 hat2))
                go_roundg (61 - (i + 1))
                case rel => exact ⟨i + 1, by omega, by omega, Nat.le_refl _, by go_num, ⟨⟨HB2.out, HOO.out, HMM.out, HNN.out, fun j hj => hokm j hj (HM.out.ok j) (fun _ => by unfold okM; omega)⟩⟩⟩
                case measure => omega
    · by_cases hil : i < l.length
      · have hd : decide ((i : Int) < (l.length : Int)) = true := decide_eq_true (by omega)
        have hi60 : i = 60 := by omega
        have hd60 : decide ((i : Int) < 60) = false := decide_eq_false (by omega)
        clear hi60
        have hLl : (l.take i).length = i := by rw [List.length_take]; omega
        have hLm : ((l.take i).map (mvR b)).length = i := by rw [List.length_map, hLl]
        have hLok : ∀ j, j < (l.take i).length → okM ((l.take i).getD j (0, 0, 0)) := fun j hj => by
          rw [hLl] at hj
          have e_ : (l.take i).getD j (0, 0, 0) = l.getD j (0, 0, 0) := by
            simp only [List.getD]
            rw [List.getElem?_take, if_pos hj]
          rw [e_]
          exact HM.out.ok j hj
        have o1 := overlap_own (by rw [hLl]; omega) wr HM.out.o
        have o2 : ∀ w1, Below wr.heap.size wr w1 → _ := fun w1 hb => overlap_own (by rw [hLm]; omega) w1 (HM.out.m.below hb)
        rw [hLl] at o1
        rw [hLm, ovJ_mv hb _ hLok] at o2
        have hlt := ovJ_lt (l.take i) (i + 1) 0
        cases ho : ovJ (l.take i) (i + 1) 0 with
        | none =>
          rw [ho] at o1 o2
          dsimp only [ovR] at o1 o2
          have O1 := Aside0.mk o1
          have O2 := Aside0.mk o2
          clear o1 o2 ho hlt hLl hLm hLok
          go_wp2_with (first | (go_at_call 15; (with_reducible refine O1.out.mono ?_); rintro e w1 ⟨rfl, hb1⟩; have HB1 := Aside0.mk hb1; clear hb1) | (go_at_call 15; (with_reducible refine (O2.out _ HB1.out).mono ?_); rintro e w2 ⟨rfl, hb2⟩; have HB2 := Aside0.mk hb2; clear hb2) | (go_at_call 14; refine (alive12_calls _).mono ?_; rintro e w3 ⟨rfl, hb3⟩; have HB3 := Aside0.mk hb3; clear hb3))
          go_ret
          exact ⟨rfl, HM.out.below.trans ((two_below HB1.out HB2.out HB3.out).mono HM.out.below.size)⟩
        | some pq =>
          obtain ⟨p, q⟩ := pq
          have hpq := hlt p q ho
          rw [hLl] at hpq
          rw [ho] at o1 o2
          dsimp only [ovR] at o1 o2
          have O1 := Aside0.mk o1
          have O2 := Aside0.mk o2
          clear o1 o2 ho hlt hLl hLm hLok
          have e1 : ((p : Int) == (p : Int)) = true := beq_self_eq_true _
          have e2 : ((q : Int) == (q : Int)) = true := beq_self_eq_true _
          have e3 : (if (q : Int) < 0 then (0 : Int) else (q : Int)) = (q : Int) := if_neg (by omega)
          have e4 : decide ((p : Int) < (q : Int) + 1) = true := decide_eq_true (by omega)
          go_wp2_with (first | (go_at_call 15; (with_reducible refine O1.out.mono ?_); rintro e w1 ⟨rfl, hb1⟩; have HB1 := Aside0.mk hb1; clear hb1) | (go_at_call 15; (with_reducible refine (O2.out _ HB1.out).mono ?_); rintro e w2 ⟨rfl, hb2⟩; have HB2 := Aside0.mk hb2; clear hb2) | (go_at_call 14; refine (alive12_calls _).mono ?_; rintro e w3 ⟨rfl, hb3⟩; have HB3 := Aside0.mk hb3; clear hb3))
          go_ret
          exact ⟨rfl, HM.out.below.trans ((two_below HB1.out HB2.out HB3.out).mono HM.out.below.size)⟩
      · have hd : decide ((i : Int) < (l.length : Int)) = false := decide_eq_false (by omega)
        have hLl : (l.take i).length = i := by rw [List.length_take]; omega
        have hLm : ((l.take i).map (mvR b)).length = i := by rw [List.length_map, hLl]
        have hLok : ∀ j, j < (l.take i).length → okM ((l.take i).getD j (0, 0, 0)) := fun j hj => by
          rw [hLl] at hj
          have e_ : (l.take i).getD j (0, 0, 0) = l.getD j (0, 0, 0) := by
            simp only [List.getD]
            rw [List.getElem?_take, if_pos hj]
          rw [e_]
          exact HM.out.ok j hj
        have o1 := overlap_own (by rw [hLl]; omega) wr HM.out.o
        have o2 : ∀ w1, Below wr.heap.size wr w1 → _ := fun w1 hb => overlap_own (by rw [hLm]; omega) w1 (HM.out.m.below hb)
        rw [hLl] at o1
        rw [hLm, ovJ_mv hb _ hLok] at o2
        have hlt := ovJ_lt (l.take i) (i + 1) 0
        cases ho : ovJ (l.take i) (i + 1) 0 with
        | none =>
          rw [ho] at o1 o2
          dsimp only [ovR] at o1 o2
          have O1 := Aside0.mk o1
          have O2 := Aside0.mk o2
          clear o1 o2 ho hlt hLl hLm hLok
          go_wp2_with (first | (go_at_call 15; (with_reducible refine O1.out.mono ?_); rintro e w1 ⟨rfl, hb1⟩; have HB1 := Aside0.mk hb1; clear hb1) | (go_at_call 15; (with_reducible refine (O2.out _ HB1.out).mono ?_); rintro e w2 ⟨rfl, hb2⟩; have HB2 := Aside0.mk hb2; clear hb2) | (go_at_call 14; refine (alive12_calls _).mono ?_; rintro e w3 ⟨rfl, hb3⟩; have HB3 := Aside0.mk hb3; clear hb3))
          go_ret
          exact ⟨rfl, HM.out.below.trans ((two_below HB1.out HB2.out HB3.out).mono HM.out.below.size)⟩
        | some pq =>
          obtain ⟨p, q⟩ := pq
          have hpq := hlt p q ho
          rw [hLl] at hpq
          rw [ho] at o1 o2
          dsimp only [ovR] at o1 o2
          have O1 := Aside0.mk o1
          have O2 := Aside0.mk o2
          clear o1 o2 ho hlt hLl hLm hLok
          have e1 : ((p : Int) == (p : Int)) = true := beq_self_eq_true _
          have e2 : ((q : Int) == (q : Int)) = true := beq_self_eq_true _
          have e3 : (if (q : Int) < 0 then (0 : Int) else (q : Int)) = (q : Int) := if_neg (by omega)
          have e4 : decide ((p : Int) < (q : Int) + 1) = true := decide_eq_true (by omega)
          go_wp2_with (first | (go_at_call 15; (with_reducible refine O1.out.mono ?_); rintro e w1 ⟨rfl, hb1⟩; have HB1 := Aside0.mk hb1; clear hb1) | (go_at_call 15; (with_reducible refine (O2.out _ HB1.out).mono ?_); rintro e w2 ⟨rfl, hb2⟩; have HB2 := Aside0.mk hb2; clear hb2) | (go_at_call 14; refine (alive12_calls _).mono ?_; rintro e w3 ⟨rfl, hb3⟩; have HB3 := Aside0.mk hb3; clear hb3))
          go_ret
          exact ⟨rfl, HM.out.below.trans ((two_below HB1.out HB2.out HB3.out).mono HM.out.below.size)⟩
set_option maxHeartbeats 16000000 in
set_option maxRecDepth 100000 in
theorem moved_nil_pos (by0 : Int) (hby : 0 ≤ by0) (hby2 : by0 ≤ 9223372036854775807) (b : Int) (hv : Int.tmod by0 1000 = b) (hb : 0 ≤ b ∧ b < 1000) (w : World) :
    Calls Try.prog 7 #[.slice none 0 0, .int .i64 by0] w fun e w' => e = .returned (.bool true) ∧ Below w.heap.size w w' := by
  have d0 : decide (by0 < 0) = false := decide_eq_false (by omega)
  go_enter Try.func7, Try.ntmps7
  go_wp2
  go_loopg [5, 6, 7] 1 (fun kx v5 v6 v7 wr => 1 ≤ kx ∧ v5 = .slice none 0 0 ∧ v6 = .slice none 0 0 ∧ v7 = .int .i64 0 ∧ Aside0 (Below w.heap.size w wr))
  case atStart => exact ⟨Nat.le_refl _, rfl, rfl, rfl, ⟨Below.refl _ _⟩⟩
  case round =>
    obtain ⟨hg, rfl, rfl, rfl, HB⟩ := hrel
    go_wp2_with (first | (go_at_call 15; refine (overlap_nil _).mono ?_; rintro e w1 ⟨rfl, hb1⟩; replace HB := Aside0.mk (HB.out.trans (hb1.mono HB.out.size)); clear hb1) | (go_at_call 14; refine (alive12_calls _).mono ?_; rintro e w3 ⟨rfl, hb3⟩; have HB3 := Aside0.mk hb3; clear hb3))
    go_ret
    exact ⟨rfl, HB.out.trans (HB3.out.mono HB.out.size)⟩
end Go.Proofs.Ytligdimpdcloeaa.P
