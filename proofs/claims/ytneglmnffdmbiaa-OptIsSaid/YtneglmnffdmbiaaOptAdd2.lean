import Derived.Test.YtneglmnffdmbiaaOptStep
namespace Go.Proofs.Ytneglmnffdmbiaa.P
open Go.RowKit Go.Proofs.YtneglmnffdmbiaaW.PrintWords Go.Proofs.YtneglmnffdmbiaaW.PrintLast Go.Proofs.YtneglmnffdmbiaaW.PrintMore
set_option linter.unusedVariables false
set_option linter.unusedSimpArgs false

/-! the plain side -/
def lastE (l : List S36) : S36 := rd_T36 l ((l.length - 1 : Nat) : Int)
def joinStep (l : List S36) (y : S36) : List S36 :=
  if 0 < l.length then (if (lastE l).f2 = y.f2 then (if (lastE l).f3 + (lastE l).f1 = y.f3 then l.set (l.length - 1) { lastE l with f1 := (lastE l).f1 + y.f1 } else l ++ [y]) else l ++ [y]) else l ++ [y]
def kidE (P : List Int) (x : S36) : S36 := { x with f2 := rd P x.f2 }
def addE (L : List S34) (P : List Int) (es : List S36) : List S36 := es.foldl (fun l x => (fuseL L (kidE P x)).foldl joinStep l) []
/-- What stands for a step whose extents are l: the one kid that it is all of, or itself. -/
def atL (L : List S34) (l : List S36) : Int := if l.length = 1 then (if (rd_T36 l 0).f3 = 0 then (if (rd_T36 l 0).f1 = (rd_T34 L (rd_T36 l 0).f2).f1 then (rd_T36 l 0).f2 else (L.length : Int)) else (L.length : Int)) else (L.length : Int)
def kidsL (P : List Int) (ks : List Int) (i : Nat) : List Int := (ks.take i).map (rd P) ++ ks.drop i
theorem kidsL_zero (P ks : List Int) : kidsL P ks 0 = ks := by simp [kidsL]
theorem kidsL_len (P ks : List Int) (i : Nat) : (kidsL P ks i).length = ks.length := by
  unfold kidsL
  rw [List.length_append, List.length_map, List.length_take, List.length_drop]
  omega
theorem kidsL_at (P ks : List Int) (i : Nat) (hi : i < ks.length) : rd (kidsL P ks i) (i : Int) = rd ks (i : Int) := by
  unfold kidsL rd
  rw [Int.toNat_natCast, List.getD_eq_getElem?_getD, List.getElem?_append_right (by rw [List.length_map, List.length_take]; omega), List.length_map, List.length_take, List.getElem?_drop, show i + (i - min i ks.length) = i by omega, List.getD_eq_getElem?_getD]
theorem kidsL_set (P ks : List Int) (i : Nat) (hi : i < ks.length) : (kidsL P ks i).set i (rd P (rd ks (i : Int))) = kidsL P ks (i + 1) := by
  unfold kidsL
  have e : rd ks (i : Int) = ks[i] := by simp [rd, List.getD, hi]
  rw [List.set_append_right _ _ (by rw [List.length_map, List.length_take]; omega), List.length_map, List.length_take, show i - min i ks.length = 0 by omega, List.drop_eq_getElem_cons hi, List.set_cons_zero, List.take_succ_eq_append_getElem hi, List.map_append, List.append_assoc, e]
  rfl
theorem kidsL_all (P ks : List Int) : kidsL P ks ks.length = ks.map (rd P) := by simp [kidsL]

theorem grown_drew {w W : World} {row : Option Nat} (h : w.grownBy W row) : w.grownBy W.drew row := ⟨h.os, h.tape, h.output, h.size, h.block⟩
theorem joinStep_len (l : List S36) (y : S36) : (joinStep l y).length ≤ l.length + 1 := by
  unfold joinStep
  split
  · split
    · split <;> simp
    · simp
  · simp
theorem join_len : ∀ (ys l : List S36), (ys.foldl joinStep l).length ≤ l.length + ys.length
  | [], l => by simp
  | y :: ys, l => by
    have h1 := joinStep_len l y
    have h2 := join_len ys (joinStep l y)
    rw [List.foldl_cons, List.length_cons]
    omega
theorem addE_snoc (L : List S34) (P : List Int) (es : List S36) (j : Nat) (hj : j < es.length) : addE L P (es.take (j + 1)) = (fuseL L (kidE P (rd_T36 es (j : Int)))).foldl joinStep (addE L P (es.take j)) := by
  unfold addE
  have e : rd_T36 es (j : Int) = es[j] := by simp [rd_T36, List.getD, hj]
  rw [List.take_succ_eq_append_getElem hj, List.foldl_append, e]
  rfl
theorem fuseL_len (L : List S34) (x : S36) (hlen : (rd_T34 L x.f2).f3.length ≤ 100000) : (fuseL L x).length ≤ 100000 := by
  unfold fuseL
  split
  · exact Nat.le_trans (fuseK_len _ _) hlen
  · simp
theorem addE_len (L : List S34) (P : List Int) (hL : ∀ p : Int, (rd_T34 L p).f3.length ≤ 100000) (es : List S36) : (addE L P es).length ≤ es.length * 100000 := by
  have key : ∀ (es l : List S36), (es.foldl (fun l x => (fuseL L (kidE P x)).foldl joinStep l) l).length ≤ l.length + es.length * 100000 := by
    intro es
    induction es with
    | nil => intro l; simp
    | cons x es ih =>
      intro l
      have h1 := ih ((fuseL L (kidE P x)).foldl joinStep l)
      have h2 := join_len (fuseL L (kidE P x)) l
      have h3 := fuseL_len L (kidE P x) (hL _)
      rw [List.foldl_cons, List.length_cons]
      omega
  have := key es []
  simpa [addE] using this
theorem addE_len' (L : List S34) (P : List Int) (hL : ∀ p : Int, (rd_T34 L p).f3.length ≤ 100000) (es : List S36) (h : es.length ≤ 100000) : (addE L P es).length ≤ 10000000000 := Nat.le_trans (addE_len L P hL es) (by omega)
theorem adz (a : Addr) : a.add 0 = a := by unfold Addr.add; simp
theorem foldl_snoc (f : List S36 → S36 → List S36) (ys l : List S36) (i : Nat) (hi : i < ys.length) : (ys.take (i + 1)).foldl f l = f ((ys.take i).foldl f l) (rd_T36 ys (i : Int)) := by
  have e : rd_T36 ys (i : Int) = ys[i] := by simp [rd_T36, List.getD, hi]
  rw [List.take_succ_eq_append_getElem hi, List.foldl_append, e]
  rfl
def okJ (x : S36) : Prop := 0 ≤ x.f3 ∧ 0 ≤ x.f1 ∧ x.f3 + x.f1 ≤ 8192
theorem okJ_of {x : S36} (h : exOk x) : okJ x := by unfold exOk at h; unfold okJ; omega
theorem fuse1_okJ {x y : S36} (hx : exOk x) (hy : exOk y) : ∀ e ∈ fuse1 x y, okJ e := by
  intro e he
  unfold fuse1 at he
  split at he
  · rename_i hn
    rw [List.mem_singleton] at he
    subst he
    have hs : 0 ≤ skipL x y := by unfold skipL; split <;> omega
    have hn2 : numL x y ≤ y.f1 - skipL x y := by unfold numL; split <;> omega
    unfold exOk at hx hy
    unfold okJ
    simp only
    omega
  · cases he
theorem rd_mem (l : List S36) (i : Nat) (hi : i < l.length) : rd_T36 l (i : Int) ∈ l := by
  have e : rd_T36 l (i : Int) = l[i] := by simp [rd_T36, List.getD, hi]
  rw [e]
  exact List.getElem_mem hi
theorem mem_rd {l : List S36} {e : S36} (h : e ∈ l) : ∃ i : Nat, i < l.length ∧ rd_T36 l (i : Int) = e := by
  obtain ⟨i, hi, rfl⟩ := List.mem_iff_getElem.1 h
  exact ⟨i, hi, by simp [rd_T36, List.getD, hi]⟩
theorem fuseL_okJ {L : List S34} {x : S36} (hx : exOk x) (hL : ∀ j : Nat, j < (rd_T34 L x.f2).f3.length → exOk (rd_T36 (rd_T34 L x.f2).f3 j)) : ∀ e ∈ fuseL L x, okJ e := by
  intro e he
  unfold fuseL at he
  split at he
  · unfold fuseK at he
    obtain ⟨y, hy, hey⟩ := List.mem_flatMap.1 he
    obtain ⟨i, hi, rfl⟩ := mem_rd hy
    exact fuse1_okJ hx (hL i hi) e hey
  · rw [List.mem_singleton] at he
    subst he
    exact okJ_of hx
theorem joinStep_okJ {l : List S36} {y : S36} (hl : ∀ e ∈ l, okJ e) (hy : okJ y) : ∀ e ∈ joinStep l y, okJ e := by
  intro e he
  have app : e ∈ l ++ [y] → okJ e := fun h => by
    rcases List.mem_append.1 h with h | h
    · exact hl e h
    · rw [List.mem_singleton] at h
      subst h
      exact hy
  unfold joinStep at he
  split at he
  · rename_i h0
    split at he
    · split at he
      · rename_i h1 h2
        rcases List.mem_or_eq_of_mem_set he with h | h
        · exact hl e h
        · subst h
          have hla := hl _ (rd_mem l (l.length - 1) (by omega))
          have e1 : lastE l = rd_T36 l ((l.length - 1 : Nat) : Int) := rfl
          rw [← e1] at hla
          unfold okJ at hla hy ⊢
          simp only
          omega
      · exact app he
    · exact app he
  · exact app he
theorem join_okJ : ∀ (ys l : List S36), (∀ e ∈ l, okJ e) → (∀ e ∈ ys, okJ e) → ∀ e ∈ ys.foldl joinStep l, okJ e
  | [], l, hl, _ => hl
  | y :: ys, l, hl, hy => by
    rw [List.foldl_cons]
    exact join_okJ ys _ (joinStep_okJ hl (hy y (List.mem_cons.2 (Or.inl rfl)))) (fun e he => hy e (List.mem_cons.2 (Or.inr he)))
theorem addE_okJ {L : List S34} {P : List Int} (hL : ∀ p : Int, ∀ j : Nat, j < (rd_T34 L p).f3.length → exOk (rd_T36 (rd_T34 L p).f3 j)) : ∀ (es l : List S36), (∀ e ∈ es, exOk e) → (∀ e ∈ l, okJ e) → ∀ e ∈ es.foldl (fun l x => (fuseL L (kidE P x)).foldl joinStep l) l, okJ e
  | [], l, _, hl => hl
  | x :: es, l, he, hl => by
    rw [List.foldl_cons]
    refine addE_okJ hL es _ (fun e h => he e (List.mem_cons.2 (Or.inr h))) (join_okJ _ _ hl (fuseL_okJ ?_ (hL _)))
    exact he x (List.mem_cons.2 (Or.inl rfl))
/-- The cells of a step. -/
def sc (x : S34) (ev kv v8 v9 : Value) : List Value := [.int .i64 x.f0, .int .i64 x.f1, .int .i64 x.f2, ev, kv, .int .i64 x.f5, .int .i64 x.f6, .int .i64 x.f7, v8, v9]

set_option maxHeartbeats 16000000 in
set_option maxRecDepth 100000 in
theorem add_calls (o : Nat) (A : Option Addr) (c : Nat) (L : List S34) (Ap : Option Addr) (cp : Nat) (P : List Int) (C : List Value) (t : S34) (A3 : Option Addr) (c3 : Nat) (A4 : Option Addr) (c4 : Nat) (v8 v9 : Value) (base : Nat) (w : World)
    (ho : OptAt w o (.slice A L.length c) (.slice Ap P.length cp)) (hbo : base ≤ o) (hbw : base ≤ w.heap.size) (hC : Kd.C k34 w A L.length L) (hS : w.ownsRow base 34 10 (.slice A L.length c) L.length C) (hP : w.ownsRow base 3 1 (.slice Ap P.length cp) P.length (nums .i64 P))
    (h3 : Kd.C k36 w A3 t.f3.length t.f3) (l3 : t.f3.length ≤ c3) (h4 : Kd.C (Kd.int .i64) w A4 t.f4.length t.f4) (l4 : t.f4.length ≤ c4) (hl4 : t.f4.length ≤ 100000) (h8 : v8.oneCell' = true) (h9 : v9.oneCell' = true) (hLn : L.length ≤ 100000) (hPn : P.length ≤ 100000) (hbx : o ≠ w.heap.size)
    (hk : ∀ i, i < t.f4.length → 0 ≤ rd t.f4 (i : Int) ∧ rd t.f4 (i : Int) < (P.length : Int))
    (hLl : ∀ p : Int, (rd_T34 L p).f3.length ≤ 100000) (hLe : ∀ p : Int, ∀ j : Nat, j < (rd_T34 L p).f3.length → exOk (rd_T36 (rd_T34 L p).f3 j)) (hl3 : t.f3.length ≤ 100000)
    (he : ∀ i : Nat, i < t.f3.length → exOk (rd_T36 t.f3 i) ∧ 0 ≤ (rd_T36 t.f3 i).f2 ∧ (rd_T36 t.f3 i).f2 < (P.length : Int) ∧ 0 ≤ rd P (rd_T36 t.f3 i).f2 ∧ rd P (rd_T36 t.f3 i).f2 < (L.length : Int))
    (hne : t.f0 = 3 → 0 < (addE L P t.f3).length ∧ ∀ e ∈ addE L P t.f3, 0 ≤ e.f2 ∧ e.f2 < (L.length : Int)) :
    Calls Try.prog 14 #[.pointer (some ⟨o, 0, none⟩), .agg (sc t (.slice A3 t.f3.length c3) (.slice A4 t.f4.length c4) v8 v9).toArray] w fun e w' => e = .returned (.tuple #[]) ∧ ∃ (sv1 pv1 : Value) (at_ : Int) (ev : Value) (Ak : Option Addr) (ck : Nat),
      AddS w o base sv1 pv1 (sc t ev (.slice Ak t.f4.length ck) v8 v9).toArray (Value.slice A L.length c).ownBlock (Value.slice Ap P.length cp).ownBlock (.slice Ak t.f4.length ck) ev t.f4.length (addE L P t.f3).length (t.f4.map (rd P)) (ec (addE L P t.f3)) (t.f0 = 3) w' sv1 pv1 (L.length + 1) (P.length + 1) (C ++ sc t ev (.slice Ak t.f4.length ck) v8 v9) (P ++ [at_])
        ∧ (t.f0 = 3 → at_ = atL L (addE L P t.f3)) ∧ (t.f0 ≠ 3 → ev = .slice A3 t.f3.length c3 ∧ at_ = L.length) := by
  have bx : Below w.heap.size w (w.alloc (.cells (sc t (.slice A3 t.f3.length c3) (.slice A4 t.f4.length c4) v8 v9).toArray 34 (0, 0))) := below_alloc (Below.refl _ _) _
  have hxb := blk_new w (.cells (sc t (.slice A3 t.f3.length c3) (.slice A4 t.f4.length c4) v8 v9).toArray 34 (0, 0))
  have x4 : (w.alloc (.cells (sc t (.slice A3 t.f3.length c3) (.slice A4 t.f4.length c4) v8 v9).toArray 34 (0, 0))).cell? ⟨w.heap.size, 4, none⟩ = some (.slice A4 t.f4.length c4) := (blk_cell hxb 4).trans rfl
  have hz : (w.alloc (.cells (sc t (.slice A3 t.f3.length c3) (.slice A4 t.f4.length c4) v8 v9).toArray 34 (0, 0))).heap.size = w.heap.size + 1 := World.size_alloc _ _
  have HCL := Aside0.mk (clone_calls A4 c4 t.f4 l4 hl4 _ (Kd.C_below h4 bx))
  unfold sc at *
  go_enter Try.func14, Try.ntmps14
  have HXB := Aside0.mk hxb
  have HBX := Aside0.mk bx
  clear bx
  go_wp2_with (go_at_call 20; (with_reducible refine HCL.out.mono ?_); rintro e w1 ⟨kv, rfl, hkv, hb1⟩; obtain ⟨Ak, ck, ekv, _⟩ := Kd.R_reads hkv; subst ekv; have hx1 := blk_below hxb hb1; have x41 : w1.cell? ⟨w.heap.size, 4, none⟩ = some (.slice A4 t.f4.length c4) := (blk_cell hx1 4).trans rfl; have f41 := blk_frozen hx1 4; have HX1 := Aside0.mk hx1; have HKV := Aside0.mk hkv; have HB1 := Aside0.mk hb1; clear hkv hb1 hx1)
  rw [hz] at HKV HB1
  have hx2 := blk_set HX1.out 4 (.slice Ak t.f4.length ck)
  have hk2 := own_setCell (Kd.own_of_R HKV.out) (p := ⟨w.heap.size, 4, none⟩) (fun e_ => by have := own_base (Kd.own_of_R HKV.out) _ e_.symm; simp at this; omega) (.slice Ak t.f4.length ck)
  have hb2 : Below w.heap.size w (w1.setCell ⟨w.heap.size, 4, none⟩ (.slice Ak t.f4.length ck)) := below_set (HBX.out.trans (HB1.out.mono (by omega))) (Nat.le_refl _)
  have hz2 : w.heap.size + 1 ≤ (w1.setCell ⟨w.heap.size, 4, none⟩ (.slice Ak t.f4.length ck)).heap.size := by have := HB1.out.size; simpa [World.setCell] using this
  generalize w1.setCell ⟨w.heap.size, 4, none⟩ (.slice Ak t.f4.length ck) = W2 at *
  have HX2 := Aside0.mk hx2
  have HK2 := Aside0.mk hk2
  have HB2 := Aside0.mk hb2
  clear hx2 hk2 hb2 HKV HB1 HX1 HXB HBX HCL x4 hxb
  have hPC : Kd.C (Kd.int .i64) w Ap P.length P := (Kd.R_reads' (Kd.R_of_own (ok := fun _ => True) (h1 := fun _ => rfl) hP (fun _ _ => trivial))).2.2
  have HPC := Aside0.mk hPC
  have HO := Aside0.mk ho
  have HP := Aside0.mk hP
  have HS := Aside0.mk hS
  have HC := Aside0.mk hC
  have H3 := Aside0.mk h3
  have HKI := Aside0.mk hk
  have HLE := Aside0.mk hLe
  have HLL := Aside0.mk hLl
  have HE := Aside0.mk he
  have HNE := Aside0.mk hne
  clear hPC ho hP hS hC h3 h4 hk hLe hLl he hne
  go_loopg [21] (t.f4.length + 1) (fun kx v21 wr => ∃ i : Nat, i ≤ t.f4.length ∧ t.f4.length - i + 1 ≤ kx ∧ v21 = .int .i64 i ∧ Aside0 (wr.ownsRow (w.heap.size + 1) 3 1 (.slice Ak t.f4.length ck) t.f4.length (nums .i64 (kidsL P t.f4 i))) ∧ Aside0 (W2.grownBy wr (Value.slice Ak t.f4.length ck).ownBlock) ∧ Aside0 (Below w.heap.size w wr))
  case atStart => exact ⟨0, Nat.zero_le _, by omega, rfl, ⟨by rw [kidsL_zero]; exact HK2.out⟩, ⟨World.grownBy.refl _ _⟩, ⟨HB2.out⟩⟩
  case round =>
    obtain ⟨i, hi, hg, rfl, RK, GW, BB⟩ := hrel
    have hxr := (GW.out.block w.heap.size (by omega) (fun e_ => by have := own_base RK.out _ e_.symm; omega)).trans HX2.out
    have xr4 : wr.cell? ⟨w.heap.size, 4, none⟩ = some (.slice Ak t.f4.length ck) := (blk_cell hxr 4).trans rfl
    by_cases hlt : i < t.f4.length
    · have hd : decide ((i : Int) < (t.f4.length : Int)) = true := decide_eq_true (by omega)
      obtain ⟨g, cap, hform, _, _⟩ := RK.out.form (by omega)
      injection hform with hAk _ hck
      subst hAk hck
      have q3 : (0 : Int) ≤ (i : Int) := by omega
      obtain ⟨ki, kf⟩ := own_at RK.out (i : Int) q3 (by omega)
      obtain ⟨hk0, hk1⟩ := HKI.out i hlt
      have hst := own_store RK.out (i : Int) (rd P (rd t.f4 (i : Int)))
      rw [kidsL_at P t.f4 i hlt, Int.toNat_natCast] at ki
      rw [Int.toNat_natCast] at kf hst
      rw [kidsL_set P t.f4 i hlt] at hst
      have hob := HO.out.below BB.out
      have o1 : wr.cell? ⟨o, 1, none⟩ = some (.slice Ap P.length cp) := (blk_cell hob.at_ 1).trans rfl
      generalize hkk : rd t.f4 (i : Int) = kk at *
      obtain ⟨ad, eAp, pk⟩ := (Kd.reads_of_C (enc := Value.int .i64) (d := (0 : Int)) (Kd.C_below HPC.out BB.out)).at_ kk hk0 hk1
      subst eAp
      clear hob hxr
      have HST := Aside0.mk hst
      clear hst
      go_wp2
      go_region
      go_wp2
      go_roundg (t.f4.length - (i + 1) + 1)
      case rel => exact ⟨i + 1, by omega, by omega, by go_num, ⟨show (wr.setCell ⟨g, i, none⟩ (.int .i64 (rd P kk))).ownsRow _ _ _ _ _ _ from HST.out.1⟩, ⟨grown_drew (World.grownBy.trans GW.out (show wr.grownBy _ (Value.slice (some ⟨g, 0, none⟩) t.f4.length ck).ownBlock from HST.out.2))⟩, ⟨below_drew (BB.out.setCell (show w.heap.size ≤ g by have := own_base RK.out g rfl; omega) _)⟩⟩
      case measure => omega
    · have hd : decide ((i : Int) < (t.f4.length : Int)) = false := decide_eq_false (by omega)
      obtain rfl : i = t.f4.length := by omega
      rw [kidsL_all] at RK
      have HXR := Aside0.mk hxr
      have hob := HO.out.below BB.out
      have o0 : wr.cell? ⟨o, 0, none⟩ = some (.slice A L.length c) := (blk_cell hob.at_ 0).trans rfl
      have x0 : wr.cell? ⟨w.heap.size, 0, none⟩ = some (.int .i64 t.f0) := (blk_cell hxr 0).trans rfl
      have HSZ := Aside0.mk (show w.heap.size + 1 ≤ wr.heap.size by have := GW.out.size; omega)
      clear hob hxr
      obtain ⟨W3, hW3⟩ : ∃ W3, W3 = wr := ⟨_, rfl⟩
      subst hW3
      go_upto_if 45 with (fail)
      go_cut [6] (fun v6 wc => ∃ (at_ : Int) (ev : Value), v6 = .int .i64 at_ ∧ Aside0 (wc.heap[w.heap.size]? = some (.cells (sc t ev (.slice Ak t.f4.length ck) v8 v9).toArray 34 (0, 0))) ∧ Aside0 (Below w.heap.size w wc) ∧ Aside0 (wc.ownsRow (w.heap.size + 1) 3 1 (.slice Ak t.f4.length ck) t.f4.length (nums .i64 (t.f4.map (rd P)))) ∧ Aside0 (w.heap.size + 1 ≤ wc.heap.size) ∧ Aside0 ((t.f0 = 3 → Kd.R k36 36 wc (w.heap.size + 1) (fun _ => True) ev (addE L P t.f3)) ∧ (t.f0 = 3 → at_ = atL L (addE L P t.f3)) ∧ (t.f0 ≠ 3 → ev = .slice A3 t.f3.length c3 ∧ at_ = L.length)))
      case first =>
        by_cases ht : t.f0 = 3
        · have ht1 : (t.f0 == 3) = true := by rw [ht]; rfl
          have HT := Aside0.mk ht
          clear ht
          have xr3 : W3.cell? ⟨w.heap.size, 3, none⟩ = some (.slice A3 t.f3.length c3) := (blk_cell HXR.out 3).trans rfl
          rw [ht1]
          clear ht1
          go_wp2
          go_loopg [7, 49] (t.f3.length + 1) (fun kx v7 v49 wr => ∃ j : Nat, j ≤ t.f3.length ∧ t.f3.length - j + 1 ≤ kx ∧ v49 = .int .i64 j ∧ Aside0 (Kd.R k36 36 wr W3.heap.size (fun _ => True) v7 (addE L P (t.f3.take j))) ∧ Aside0 (Below W3.heap.size W3 wr))
          case atStart => exact ⟨0, Nat.zero_le _, by omega, rfl, ⟨Kd.R_nil _ _ _ _ _⟩, ⟨Below.refl _ _⟩⟩
          case round =>
            obtain ⟨j, hj, hgj, rfl, RL, BW⟩ := hrel
            obtain ⟨Al, cl, el, _⟩ := Kd.R_reads RL.out
            generalize hnl : (addE L P (t.f3.take j)).length = nl at el
            subst el
            have BB2 := Aside0.mk (BB.out.trans (BW.out.mono BB.out.size))
            by_cases hjl : j < t.f3.length
            · have hdj : decide ((j : Int) < (t.f3.length : Int)) = true := decide_eq_true (by omega)
              have qj : (0 : Int) ≤ (j : Int) := by omega
              obtain ⟨ad3, ea3, y0, y1, y2, y3⟩ := at_T36 (Kd.C_below H3.out BB2.out) (j : Int) qj (by omega)
              obtain ⟨hex, hx0, hx1, hp0, hp1⟩ := HE.out j hjl
              have hsn := addE_snoc L P t.f3 j hjl
              have HLEN := Aside0.mk (addE_len' L P HLL.out (t.f3.take j) (by rw [List.length_take]; omega))
              rw [Int.toNat_natCast] at y0 y1 y2 y3
              subst ea3
              generalize rd_T36 t.f3 (j : Int) = x at *
              have bX : Below wr.heap.size wr (wr.alloc (.cells #[.int .i64 x.f0, .int .i64 x.f1, .int .i64 x.f2, .int .i64 x.f3] 36 (0, 0))) := below_alloc (Below.refl _ _) _
              have hxb := blk_new wr (.cells #[.int .i64 x.f0, .int .i64 x.f1, .int .i64 x.f2, .int .i64 x.f3] 36 (0, 0))
              have hzx : (wr.alloc (.cells #[.int .i64 x.f0, .int .i64 x.f1, .int .i64 x.f2, .int .i64 x.f3] 36 (0, 0))).heap.size = wr.heap.size + 1 := World.size_alloc _ _
              have hob := (HO.out.below BB2.out).below bX
              have hpp := (Kd.reads_of_C (enc := Value.int .i64) (d := (0 : Int)) (Kd.C_below (Kd.C_below HPC.out BB2.out) bX)).at_ x.f2 hx0 hx1
              have HBX := Aside0.mk bX
              clear bX
              go_wp2
              generalize wr.alloc (.cells #[.int .i64 x.f0, .int .i64 x.f1, .int .i64 x.f2, .int .i64 x.f3] 36 (0, 0)) = Wx at *
              have xx2 : Wx.cell? ⟨wr.heap.size, 2, none⟩ = some (.int .i64 x.f2) := (blk_cell hxb 2).trans rfl
              have xf2 := blk_frozen hxb 2
              have oo1 : Wx.cell? ⟨o, 1, none⟩ = some (.slice Ap P.length cp) := (blk_cell hob.at_ 1).trans rfl
              obtain ⟨adp, eAp, pk⟩ := hpp
              subst eAp
              have hxs := blk_set hxb 2 (.int .i64 (rd P x.f2))
              have HXS := Aside0.mk hxs
              have HZX := Aside0.mk hzx
              clear hob hxb hxs hzx
              go_region
              have hfx : ((Wx.setCell ⟨wr.heap.size, 2, none⟩ (.int .i64 (rdOf 0 P x.f2))).drew).heap[wr.heap.size]? = some (.cells #[.int .i64 x.f0, .int .i64 x.f1, .int .i64 (rd P x.f2), .int .i64 x.f3] 36 (0, 0)) := HXS.out
              have hfz : ((Wx.setCell ⟨wr.heap.size, 2, none⟩ (.int .i64 (rdOf 0 P x.f2))).drew).heap.size = wr.heap.size + 1 := by
                show (Wx.setCell ⟨wr.heap.size, 2, none⟩ (.int .i64 (rdOf 0 P x.f2))).heap.size = _
                have := HZX.out
                simpa [World.setCell] using this
              have hfb : Below wr.heap.size wr ((Wx.setCell ⟨wr.heap.size, 2, none⟩ (.int .i64 (rdOf 0 P x.f2))).drew) := below_drew (HBX.out.setCell (Nat.le_refl _) _)
              have HFX := Aside0.mk hfx
              have HFZ := Aside0.mk hfz
              have HFB := Aside0.mk hfb
              clear hfx hfz hfb HXS HZX HBX xx2 xf2 oo1 pk
              generalize (Wx.setCell ⟨wr.heap.size, 2, none⟩ (.int .i64 (rdOf 0 P x.f2))).drew = Wf at *
              have b2f := BB2.out.trans (HFB.out.mono BB2.out.size)
              have HFU : Aside0 (Calls Try.prog 21 #[.pointer (some ⟨o, 0, none⟩), .agg #[.int .i64 x.f0, .int .i64 x.f1, .int .i64 (rd P x.f2), .int .i64 x.f3]] Wf fun e w' => ∃ v, e = .returned v ∧ Kd.R k36 36 w' Wf.heap.size (fun _ => True) v (fuseL L (kidE P x)) ∧ Below Wf.heap.size Wf w') := Aside0.mk (fuse_calls o A c L (.slice (some adp) P.length cp) (kidE P x) Wf (HO.out.below b2f) (Kd.C_below HC.out b2f) hp0 hp1 hex (HLE.out (rd P x.f2)) (HLL.out (rd P x.f2)))
              have f0 : Wf.cell? ⟨wr.heap.size, 0, none⟩ = some (.int .i64 x.f0) := (blk_cell HFX.out 0).trans rfl
              have f1 : Wf.cell? ⟨wr.heap.size, 1, none⟩ = some (.int .i64 x.f1) := (blk_cell HFX.out 1).trans rfl
              have f2 : Wf.cell? ⟨wr.heap.size, 2, none⟩ = some (.int .i64 (rd P x.f2)) := (blk_cell HFX.out 2).trans rfl
              have f3 : Wf.cell? ⟨wr.heap.size, 3, none⟩ = some (.int .i64 x.f3) := (blk_cell HFX.out 3).trans rfl
              have hfl := fuseL_len L (kidE P x) (HLL.out _)
              have HFO := Aside0.mk (fuseL_okJ (L := L) (x := kidE P x) hex (HLE.out _))
              have HB2F := Aside0.mk b2f
              clear b2f
              generalize fuseL L (kidE P x) = fl at *
              go_wp2_with (go_at_call 21; (with_reducible refine HFU.out.mono ?_); rintro e W5 ⟨vf, rfl, hvf, hbf⟩; obtain ⟨Af, cf, evf, _⟩ := Kd.R_reads hvf; subst evf; have HVF := Aside0.mk hvf; have HBF := Aside0.mk hbf; clear hvf hbf)
              obtain ⟨W4, hW4⟩ : ∃ W4, W4 = wr := ⟨_, rfl⟩
              subst hW4
              have HVF2 := HVF
              have hok0 : ∀ e ∈ addE L P (t.f3.take j), okJ e := addE_okJ HLE.out _ _ (fun e he => by
                obtain ⟨i, hi, rfl⟩ := mem_rd he
                rw [List.length_take] at hi
                have e_ : rd_T36 (t.f3.take j) (i : Int) = rd_T36 t.f3 (i : Int) := by
                  simp only [rd_T36, List.getD, Int.toNat_natCast]
                  rw [List.getElem?_take, if_pos (by omega)]
                rw [e_]
                exact (HE.out i (by omega)).1) (fun e he => by cases he)
              have HOK0 := Aside0.mk hok0
              have HSN := Aside0.mk hsn
              have HL0 := Aside0.mk (show (addE L P (t.f3.take j)).length + fl.length ≤ 10000200000 by have := HLEN.out; omega)
              clear hok0 hsn
              generalize addE L P (t.f3.take j) = l0 at *
              go_loopg [7, 66] (fl.length + 1) (fun kx v7 v66 wi => ∃ q : Nat, q ≤ fl.length ∧ fl.length - q + 1 ≤ kx ∧ v66 = .int .i64 q ∧ Aside0 (Kd.R k36 36 wi W3.heap.size (fun k => k < Wf.heap.size ∨ W5.heap.size ≤ k) v7 ((fl.take q).foldl joinStep l0)) ∧ Aside0 (Below W3.heap.size W3 wi) ∧ Aside0 (∀ k, Wf.heap.size ≤ k → k < W5.heap.size → wi.heap[k]? = W5.heap[k]?) ∧ Aside0 (W5.heap.size ≤ wi.heap.size))
              case atStart => exact ⟨0, Nat.zero_le _, by omega, rfl, ⟨Kd.R_below (Kd.R_below (Kd.R_mono (Kd.R_bound RL.out) (fun k hk => Or.inl (by have := hk.2.2.1; have := HFB.out.size; omega))) HFB.out) HBF.out⟩, ⟨(BW.out.trans (HFB.out.mono BW.out.size)).trans (HBF.out.mono (Nat.le_trans BW.out.size HFB.out.size))⟩, ⟨fun _ _ _ => rfl⟩, ⟨Nat.le_refl _⟩⟩
              case round =>
                obtain ⟨q, hq, hgq, rfl, RQ, BQ, FR, SQ⟩ := hrel
                by_cases hql : q < fl.length
                · have hdq : decide ((q : Int) < (fl.length : Int)) = true := decide_eq_true (by omega)
                  have qq : (0 : Int) ≤ (q : Int) := by omega
                  have hmv := Kd.R_move (Kd.R_bound HVF.out) (fun k hk => FR.out k hk.2.1 hk.2.2.1)
                  obtain ⟨adf, eaf, y0, y1, y2, y3⟩ := at_T36 (Kd.R_reads' hmv).2.2 (q : Int) qq (by omega)
                  rw [Int.toNat_natCast] at y0 y1 y2 y3
                  have hyo := HFO.out (rd_T36 fl (q : Int)) (rd_mem fl q hql)
                  have hsq := foldl_snoc joinStep fl l0 q hql
                  have hlo := join_okJ (fl.take q) l0 HOK0.out (fun e he => HFO.out e (List.mem_of_mem_take he))
                  have hln := join_len (fl.take q) l0
                  rw [List.length_take] at hln
                  clear hmv
                  subst eaf
                  generalize rd_T36 fl (q : Int) = y at *
                  generalize (fl.take q).foldl joinStep l0 = lq at *
                  obtain ⟨Aq, cq, eq_, _⟩ := Kd.R_reads RQ.out
                  have hform := (own36 RQ.out).form
                  subst eq_
                  have bY : Below wr.heap.size wr (wr.alloc (.cells #[.int .i64 y.f0, .int .i64 y.f1, .int .i64 y.f2, .int .i64 y.f3] 36 (0, 0))) := below_alloc (Below.refl _ _) _
                  have hyb := blk_new wr (.cells #[.int .i64 y.f0, .int .i64 y.f1, .int .i64 y.f2, .int .i64 y.f3] 36 (0, 0))
                  have z0 : (wr.alloc (.cells #[.int .i64 y.f0, .int .i64 y.f1, .int .i64 y.f2, .int .i64 y.f3] 36 (0, 0))).cell? ⟨wr.heap.size, 0, none⟩ = some (.int .i64 y.f0) := (blk_cell hyb 0).trans rfl
                  have z1 : (wr.alloc (.cells #[.int .i64 y.f0, .int .i64 y.f1, .int .i64 y.f2, .int .i64 y.f3] 36 (0, 0))).cell? ⟨wr.heap.size, 1, none⟩ = some (.int .i64 y.f1) := (blk_cell hyb 1).trans rfl
                  have z2 : (wr.alloc (.cells #[.int .i64 y.f0, .int .i64 y.f1, .int .i64 y.f2, .int .i64 y.f3] 36 (0, 0))).cell? ⟨wr.heap.size, 2, none⟩ = some (.int .i64 y.f2) := (blk_cell hyb 2).trans rfl
                  have z3 : (wr.alloc (.cells #[.int .i64 y.f0, .int .i64 y.f1, .int .i64 y.f2, .int .i64 y.f3] 36 (0, 0))).cell? ⟨wr.heap.size, 3, none⟩ = some (.int .i64 y.f3) := (blk_cell hyb 3).trans rfl
                  have HBY := Aside0.mk bY
                  clear bY hyb
                  go_wp2
                  have hyw : Below wr.heap.size wr (wr.alloc (.cells #[.int .i64 y.f0, .int .i64 y.f1, .int .i64 y.f2, .int .i64 y.f3] 36 (0, 0))) := HBY.out
                  have hyz : (wr.alloc (.cells #[.int .i64 y.f0, .int .i64 y.f1, .int .i64 y.f2, .int .i64 y.f3] 36 (0, 0))).heap.size = wr.heap.size + 1 := World.size_alloc _ _
                  clear HBY
                  generalize wr.alloc (.cells #[.int .i64 y.f0, .int .i64 y.f1, .int .i64 y.f2, .int .i64 y.f3] 36 (0, 0)) = Wy at *
                  have RY := Aside0.mk (Kd.R_below RQ.out hyw)
                  have HYW := Aside0.mk hyw
                  have HYZ := Aside0.mk hyz
                  have HSQ := Aside0.mk hsq
                  have HLN := Aside0.mk (show lq.length ≤ 10000200000 by have := HL0.out; omega)
                  have hlast : 0 < lq.length → okJ (lastE lq) := fun h => hlo _ (rd_mem lq (lq.length - 1) (by omega))
                  have hcast : 0 < lq.length → lastE lq = rd_T36 lq ((lq.length : Int) - 1) := fun h => by
                    unfold lastE
                    congr 1
                    omega
                  have hjs : joinStep lq y = if 0 < lq.length then (if (lastE lq).f2 = y.f2 then (if (lastE lq).f3 + (lastE lq).f1 = y.f3 then lq.set (lq.length - 1) { lastE lq with f1 := (lastE lq).f1 + y.f1 } else lq ++ [y]) else lq ++ [y]) else lq ++ [y] := rfl
                  clear hyw hyz hsq hlo hln y0 y1 y2 y3
                  by_cases h0 : 0 < lq.length
                  · have dn : decide ((lq.length : Int) > 0) = true := decide_eq_true (by omega)
                    have dn2 : decide ((0 : Int) < (lq.length : Int)) = true := decide_eq_true (by omega)
                    have dn3 : decide (0 < lq.length) = true := decide_eq_true h0
                    have hnb : lq.length ≤ 10000200000 := HLN.out
                    obtain ⟨ji, hji⟩ : ∃ ji : Int, (lq.length : Int) - 1 = ji := ⟨_, rfl⟩
                    have pj0 : 0 ≤ ji := by omega
                    have qj0 : ji < (lq.length : Int) := by omega
                    have HJN := Aside0.mk (show ji.toNat = lq.length - 1 by omega)
                    have hjw : IntKind.i64.wrap ((lq.length : Int) - 1) = ji := by
                      rw [i64_w, hji]
                      unfold wrap64
                      omega
                    obtain ⟨g, cap, hf_, _, _⟩ := hform h0
                    injection hf_ with hAq _ hcq
                    have hok1 := hlast h0
                    have hla := hcast h0
                    rw [hji] at hla
                    obtain ⟨ad_, ea_, m0, m1, m2, m3⟩ := at_T36 (Kd.R_reads' RY.out).2.2 ji pj0 qj0
                    subst ea_
                    have hadg : ad_ = ⟨g, 0, none⟩ := Option.some.inj hAq
                    subst hadg
                    clear hAq hcq
                    rw [← hla] at m0 m1 m2 m3
                    simp only [add_plain] at m0 m1 m2 m3
                    have hjw2 : IntKind.i64.wrap ji = ji := by rw [← hji] at hjw ⊢; exact hjw
                    have pj := eq_true pj0
                    have qj := eq_true qj0
                    have HJI := Aside0.mk hji
                    clear pj0 qj0 hji hjw
                    have hjw3 : IntKind.i64.wrap ((lq.length : Int) - 1) = ji := by rw [HJI.out]; exact hjw2
                    rw [if_pos h0] at hjs
                    clear hlast hcast hla hform
                    have hec : ∀ c, (ec lq).set ((lq.length - 1) * 4 + 1) (.int .i64 c) = ec (lq.set (lq.length - 1) { lastE lq with f1 := c }) := fun c => ec_set1 lq _ (by omega) c
                    generalize lastE lq = la at *
                    by_cases h2 : la.f2 = y.f2
                    · have e2 : (la.f2 == y.f2) = true := by rw [h2]; exact beq_self_eq_true _
                      rw [if_pos h2] at hjs
                      clear h2
                      obtain ⟨j1, j2, j3⟩ := hok1
                      by_cases h3 : la.f3 + la.f1 = y.f3
                      · have e3 : (la.f3 + la.f1 == y.f3) = true := by rw [h3]; exact beq_self_eq_true _
                        rw [if_pos h3] at hjs
                        have HJS := Aside0.mk hjs
                        clear hjs
                        obtain ⟨j4, j5, j6⟩ := hyo
                        have hst := ((own36 RY.out).stored (ji.toNat * 4 + 1) (.int .i64 (la.f1 + y.f1)))
                        rw [HJN.out, hec, ← HJN.out] at hst
                        have HST := Aside0.mk hst
                        have hfz : Wy.frozen? ⟨g, ji.toNat * 4 + 1, none⟩ = false := by
                          obtain ⟨cs_, hh_⟩ := own_typed (own36 RY.out) g rfl
                          exact blk_frozen hh_ _
                        clear hst h3
                        clear hec
                        go_quiet (fail)
                        go_wp2
                        go_region
                        go_wp2
                        go_roundg (fl.length - (q + 1) + 1)
                        case rel => exact ⟨q + 1, by omega, by omega, by go_num, ⟨by rw [HSQ.out, HJS.out]; exact R36 (by rw [List.length_set, ← HJN.out]; exact HST.out.1) (fun k hk => RY.out.1 k hk)⟩, ⟨show Below W3.heap.size W3 (World.setCell _ ⟨g, ji.toNat * 4 + 1, none⟩ _) from Below.setCell (pw_below_drewN (BQ.out.trans (HYW.out.mono BQ.out.size)) _) (show W3.heap.size ≤ g from own_base (own36 RY.out) g rfl) _⟩, ⟨fun k hk1 hk2 => ((HST.out.2.block k (show k < Wy.heap.size by have := SQ.out; have := HYW.out.size; omega) (fun e_ => by have := RY.out.1 g rfl; injection e_ with e_; omega)).trans (HYW.out.block k (by have := SQ.out; omega))).trans (FR.out k hk1 hk2)⟩, ⟨by have e1_ := SQ.out; have e2_ := HYW.out.size; have e3_ : Wy.heap.size ≤ (Wy.setCell ⟨g, ji.toNat * 4 + 1, none⟩ (.int .i64 (la.f1 + y.f1))).heap.size := HST.out.2.size; exact Nat.le_trans e1_ (Nat.le_trans e2_ e3_)⟩⟩
                        case measure => omega
                      · have e3 : (la.f3 + la.f1 == y.f3) = false := beq_eq_false_iff_ne.2 h3
                        rw [if_neg h3] at hjs
                        clear h3 hec
                        have HJS := Aside0.mk hjs
                        clear hjs
                        go_quiet (fail)
                        go_wp2_with (first | ((with_reducible refine gate_builtin (b := .append) (xs := #[.tmp 114, .tmp 116]) rfl ?_); (try (refine gate_guard (by rfl) ?_; dsimp only)); at_builtin; refine Kd.R_append k36 (w0 := W3) W3.heap.size rfl (.tmp 114) (.tmp 116) 31 36 (.agg #[(.int .i64 0), (.int .i64 0), (.int .i64 0), (.int .i64 0)]) 32 rfl Try.underlying31 info36 rfl (by decide) (by omega) (.slice (some ⟨g, 0, none⟩) lq.length cq) lq y [.int .i64 y.f0, .int .i64 y.f1, .int .i64 y.f2, .int .i64 y.f3] (fun k => k < Wf.heap.size ∨ W5.heap.size ≤ k) (fun _ => False) rfl ?aX ?aP (fun _ hk => hk.elim) ?aF ?aO ?aB ?aS ?aL ?_; (case aX => first | rfl | (simp [World.size_alloc, Act.eval]; done)); (case aP => exact k36_mkM _ _ _ _); (case aB => exact pw_below_drewN (BQ.out.trans (HYW.out.mono BQ.out.size)) _); (case aF => intro k hk; right; have e1_ := SQ.out; have e2_ := HYW.out.size; have e3_ : Wy.heap.size ≤ k := hk; omega); (case aO => exact Kd.R_drewN RY.out _); (case aS => exact (BQ.out.trans (HYW.out.mono BQ.out.size)).size); (case aL => have := HLN.out; omega); intro v1 w1 ho1 hb1 hg1 hat1; have HO1 := Aside0.mk ho1; have HB1 := Aside0.mk hb1; have HG1 := Aside0.mk hg1; clear ho1 hb1 hg1 hat1))
                        go_roundg (fl.length - (q + 1) + 1)
                        case rel => exact ⟨q + 1, by omega, by omega, by go_num, ⟨by rw [HSQ.out, HJS.out]; exact HO1.out⟩, ⟨HB1.out⟩, ⟨fun k hk1 hk2 => ((HG1.out.block k (show k < Wy.heap.size by have := SQ.out; have := HYW.out.size; omega) (fun e_ => by have := RY.out.1 _ e_.symm; omega)).trans (HYW.out.block k (by have := SQ.out; omega))).trans (FR.out k hk1 hk2)⟩, ⟨by have e1_ := SQ.out; have e2_ := HYW.out.size; have e3_ : Wy.heap.size ≤ w1.heap.size := HG1.out.size; omega⟩⟩
                        case measure => omega
                    · have e2 : (la.f2 == y.f2) = false := beq_eq_false_iff_ne.2 h2
                      rw [if_neg h2] at hjs
                      clear h2 hec
                      have HJS := Aside0.mk hjs
                      clear hjs
                      go_quiet (fail)
                      go_wp2_with (first | ((with_reducible refine gate_builtin (b := .append) (xs := #[.tmp 114, .tmp 116]) rfl ?_); (try (refine gate_guard (by rfl) ?_; dsimp only)); at_builtin; refine Kd.R_append k36 (w0 := W3) W3.heap.size rfl (.tmp 114) (.tmp 116) 31 36 (.agg #[(.int .i64 0), (.int .i64 0), (.int .i64 0), (.int .i64 0)]) 32 rfl Try.underlying31 info36 rfl (by decide) (by omega) (.slice (some ⟨g, 0, none⟩) lq.length cq) lq y [.int .i64 y.f0, .int .i64 y.f1, .int .i64 y.f2, .int .i64 y.f3] (fun k => k < Wf.heap.size ∨ W5.heap.size ≤ k) (fun _ => False) rfl ?aX ?aP (fun _ hk => hk.elim) ?aF ?aO ?aB ?aS ?aL ?_; (case aX => first | rfl | (simp [World.size_alloc, Act.eval]; done)); (case aP => exact k36_mkM _ _ _ _); (case aB => exact pw_below_drewN (BQ.out.trans (HYW.out.mono BQ.out.size)) _); (case aF => intro k hk; right; have e1_ := SQ.out; have e2_ := HYW.out.size; have e3_ : Wy.heap.size ≤ k := hk; omega); (case aO => exact Kd.R_drewN RY.out _); (case aS => exact (BQ.out.trans (HYW.out.mono BQ.out.size)).size); (case aL => have := HLN.out; omega); intro v1 w1 ho1 hb1 hg1 hat1; have HO1 := Aside0.mk ho1; have HB1 := Aside0.mk hb1; have HG1 := Aside0.mk hg1; clear ho1 hb1 hg1 hat1))
                      go_roundg (fl.length - (q + 1) + 1)
                      case rel => exact ⟨q + 1, by omega, by omega, by go_num, ⟨by rw [HSQ.out, HJS.out]; exact HO1.out⟩, ⟨HB1.out⟩, ⟨fun k hk1 hk2 => ((HG1.out.block k (show k < Wy.heap.size by have := SQ.out; have := HYW.out.size; omega) (fun e_ => by have := RY.out.1 _ e_.symm; omega)).trans (HYW.out.block k (by have := SQ.out; omega))).trans (FR.out k hk1 hk2)⟩, ⟨by have e1_ := SQ.out; have e2_ := HYW.out.size; have e3_ : Wy.heap.size ≤ w1.heap.size := HG1.out.size; omega⟩⟩
                      case measure => omega
                  · have hz0 : lq.length = 0 := by omega
                    have dn : decide ((lq.length : Int) > 0) = false := decide_eq_false (by omega)
                    have dn2 : decide ((0 : Int) < (lq.length : Int)) = false := decide_eq_false (by omega)
                    have dn3 : decide (0 < lq.length) = false := decide_eq_false h0
                    rw [if_neg h0] at hjs
                    clear hlast hcast hform h0 hz0
                    have HJS := Aside0.mk hjs
                    clear hjs
                    go_quiet (fail)
                    go_wp2_with (first | ((with_reducible refine gate_builtin (b := .append) (xs := #[.tmp 114, .tmp 116]) rfl ?_); (try (refine gate_guard (by rfl) ?_; dsimp only)); at_builtin; refine Kd.R_append k36 (w0 := W3) W3.heap.size rfl (.tmp 114) (.tmp 116) 31 36 (.agg #[(.int .i64 0), (.int .i64 0), (.int .i64 0), (.int .i64 0)]) 32 rfl Try.underlying31 info36 rfl (by decide) (by omega) (.slice Aq lq.length cq) lq y [.int .i64 y.f0, .int .i64 y.f1, .int .i64 y.f2, .int .i64 y.f3] (fun k => k < Wf.heap.size ∨ W5.heap.size ≤ k) (fun _ => False) rfl ?aX ?aP (fun _ hk => hk.elim) ?aF ?aO ?aB ?aS ?aL ?_; (case aX => first | rfl | (simp [World.size_alloc, Act.eval]; done)); (case aP => exact k36_mkM _ _ _ _); (case aB => exact pw_below_drewN (BQ.out.trans (HYW.out.mono BQ.out.size)) _); (case aF => intro k hk; right; have e1_ := SQ.out; have e2_ := HYW.out.size; have e3_ : Wy.heap.size ≤ k := hk; omega); (case aO => exact Kd.R_drewN RY.out _); (case aS => exact (BQ.out.trans (HYW.out.mono BQ.out.size)).size); (case aL => have := HLN.out; omega); intro v1 w1 ho1 hb1 hg1 hat1; have HO1 := Aside0.mk ho1; have HB1 := Aside0.mk hb1; have HG1 := Aside0.mk hg1; clear ho1 hb1 hg1 hat1))
                    go_roundg (fl.length - (q + 1) + 1)
                    case rel => exact ⟨q + 1, by omega, by omega, by go_num, ⟨by rw [HSQ.out, HJS.out]; exact HO1.out⟩, ⟨HB1.out⟩, ⟨fun k hk1 hk2 => ((HG1.out.block k (show k < Wy.heap.size by have := SQ.out; have := HYW.out.size; omega) (fun e_ => by have := RY.out.1 _ e_.symm; omega)).trans (HYW.out.block k (by have := SQ.out; omega))).trans (FR.out k hk1 hk2)⟩, ⟨by have e1_ := SQ.out; have e2_ := HYW.out.size; have e3_ : Wy.heap.size ≤ w1.heap.size := HG1.out.size; omega⟩⟩
                    case measure => omega
                · have hdq : decide ((q : Int) < (fl.length : Int)) = false := decide_eq_false (by omega)
                  obtain rfl : q = fl.length := by omega
                  rw [List.take_length, ← HSN.out] at RQ
                  go_wp2
                  go_roundg (t.f3.length - (j + 1) + 1)
                  case rel => exact ⟨j + 1, by omega, by omega, by go_num, ⟨Kd.R_mono RQ.out (fun _ _ => trivial)⟩, ⟨BQ.out⟩⟩
                  case measure => omega
            · have hdj : decide ((j : Int) < (t.f3.length : Int)) = false := decide_eq_false (by omega)
              obtain rfl : j = t.f3.length := by omega
              rw [List.take_length] at RL hnl
              have hne := HNE.out HT.out
              have HNE2 := Aside0.mk hne
              clear hne
              have hx3 := (BW.out.block w.heap.size (by have := HSZ.out; omega)).trans HXR.out
              have xw3 : wr.cell? ⟨w.heap.size, 3, none⟩ = some (.slice A3 t.f3.length c3) := (blk_cell hx3 3).trans rfl
              have xf3 := blk_frozen hx3 3
              have h0l : 0 < nl := by rw [← hnl]; exact HNE2.out.1
              have h0i : (0 : Int) < (nl : Int) := by omega
              have hreads := (Kd.R_reads' RL.out).2.2
              obtain ⟨ad0, ea0, _⟩ := at_T36 hreads 0 (Int.le_refl _) (by rw [hnl]; exact h0i)
              subst ea0
              clear hreads
              have RS := Kd.R_far (p := ⟨w.heap.size, 3, none⟩) (Kd.R_mono (Kd.R_bound RL.out) (ok' := fun k => k ≠ w.heap.size) (fun k hk => by have := hk.2.1; have := HSZ.out; omega)) (fun k hk => hk) (.slice (some ad0) nl cl)
              have HBS := Aside0.mk (show Below w.heap.size w (wr.setCell ⟨w.heap.size, 3, none⟩ (.slice (some ad0) nl cl)) from Below.setCell (BB.out.trans (BW.out.mono BB.out.size)) (Nat.le_refl _) _)
              have HZS := Aside0.mk (show wr.heap.size = (wr.setCell ⟨w.heap.size, 3, none⟩ (.slice (some ad0) nl cl)).heap.size by simp [World.setCell])
              have HS3 := Aside0.mk (blk_set hx3 3 (.slice (some ad0) nl cl))
              have HKS := Aside0.mk (own_setCell (pw_own_below RK.out BW.out) (p := ⟨w.heap.size, 3, none⟩) (fun e_ => by have := own_base RK.out _ e_.symm; simp at this; omega) (.slice (some ad0) nl cl))
              obtain ⟨ad1, ea1, n0, n1, n2, n3⟩ := at_T36 (Kd.R_reads' RS).2.2 0 (Int.le_refl _) (by rw [hnl]; exact h0i)
              obtain rfl := Option.some.inj ea1
              simp only [Int.toNat_zero, Nat.zero_mul, adz] at n0 n1 n2 n3
              have hl2 := HNE2.out.2 _ (rd_mem _ 0 (HNE2.out.1))
              have hat : atL L (addE L P t.f3) = if nl = 1 then (if (rd_T36 (addE L P t.f3) 0).f3 = 0 then (if (rd_T36 (addE L P t.f3) 0).f1 = (rd_T34 L (rd_T36 (addE L P t.f3) 0).f2).f1 then (rd_T36 (addE L P t.f3) 0).f2 else (L.length : Int)) else (L.length : Int)) else (L.length : Int) := by rw [← hnl]; rfl
              have HRS := Aside0.mk RS
              have HRL := Aside0.mk RL.out
              clear RS ea1 hx3
              change 0 ≤ (rd_T36 (addE L P t.f3) 0).f2 ∧ (rd_T36 (addE L P t.f3) 0).f2 < (L.length : Int) at hl2
              generalize rd_T36 (addE L P t.f3) 0 = x at *
              go_wp2
              have bX : Below (wr.setCell ⟨w.heap.size, 3, none⟩ (.slice (some ad0) nl cl)).heap.size (wr.setCell ⟨w.heap.size, 3, none⟩ (.slice (some ad0) nl cl)) ((wr.setCell ⟨w.heap.size, 3, none⟩ (.slice (some ad0) nl cl)).alloc (.cells #[.int .i64 x.f0, .int .i64 x.f1, .int .i64 x.f2, .int .i64 x.f3] 36 (0, 0))) := below_alloc (Below.refl _ _) _
              have hxb := blk_new (wr.setCell ⟨w.heap.size, 3, none⟩ (.slice (some ad0) nl cl)) (.cells #[.int .i64 x.f0, .int .i64 x.f1, .int .i64 x.f2, .int .i64 x.f3] 36 (0, 0))
              rw [← HZS.out] at hxb
              have B6 := Aside0.mk (HBS.out.trans (bX.mono HBS.out.size))
              have H6 := Aside0.mk (blk_below HS3.out bX)
              have K6 := Aside0.mk (pw_own_below HKS.out bX)
              have R6 := Aside0.mk (Kd.R_below HRS.out bX)
              have Z6 := Aside0.mk (show w.heap.size + 1 ≤ ((wr.setCell ⟨w.heap.size, 3, none⟩ (.slice (some ad0) nl cl)).alloc (.cells #[.int .i64 x.f0, .int .i64 x.f1, .int .i64 x.f2, .int .i64 x.f3] 36 (0, 0))).heap.size by have := bX.size; have := HZS.out; have := HSZ.out; have := BW.out.size; omega)
              clear bX n0 n1 n2 n3
              generalize (wr.setCell ⟨w.heap.size, 3, none⟩ (.slice (some ad0) nl cl)).alloc (.cells #[.int .i64 x.f0, .int .i64 x.f1, .int .i64 x.f2, .int .i64 x.f3] 36 (0, 0)) = W6 at *
              have x0c : W6.cell? ⟨wr.heap.size, 0, none⟩ = some (.int .i64 x.f0) := (blk_cell hxb 0).trans rfl
              have x1c : W6.cell? ⟨wr.heap.size, 1, none⟩ = some (.int .i64 x.f1) := (blk_cell hxb 1).trans rfl
              have x2c : W6.cell? ⟨wr.heap.size, 2, none⟩ = some (.int .i64 x.f2) := (blk_cell hxb 2).trans rfl
              have x3c : W6.cell? ⟨wr.heap.size, 3, none⟩ = some (.int .i64 x.f3) := (blk_cell hxb 3).trans rfl
              have o6 : W6.cell? ⟨o, 0, none⟩ = some (.slice A L.length c) := (blk_cell (HO.out.below B6.out).at_ 0).trans rfl
              obtain ⟨adL, E3, d3, E4, d4, E8, d8, E9, d9, eA, s0, s1, s2, s3, s4, s5, s6, s7, s8, s9, _⟩ := at_T34 (Kd.C_below HC.out B6.out) x.f2 hl2.1 hl2.2
              subst eA
              have ql0 : 0 ≤ x.f2 := hl2.1
              have ql1 : x.f2 < (L.length : Int) := hl2.2
              clear s0 s2 s3 s4 s5 s6 s7 s8 s9 hxb
              generalize (rd_T34 L x.f2).f1 = sz at *
              by_cases c1 : nl = 1
              · have e1 : ((nl : Int) == 1) = true := by rw [c1]; rfl
                rw [if_pos c1] at hat
                by_cases c2 : x.f3 = 0
                · have e2 : (x.f3 == 0) = true := by rw [c2]; rfl
                  rw [if_pos c2] at hat
                  by_cases c3 : x.f1 = sz
                  · have e3 : (x.f1 == sz) = true := by rw [c3]; exact beq_self_eq_true _
                    rw [if_pos c3] at hat
                    have HAT := Aside0.mk hat
                    clear c1 c2 c3 hat h0l h0i hnl
                    go_quiet (fail)
                    go_wp2
                    go_meet
                    case rel => exact ⟨_, _, rfl, ⟨H6.out⟩, ⟨pw_below_drewN B6.out _⟩, ⟨K6.out⟩, ⟨Z6.out⟩, ⟨fun _ => Kd.R_lower (Kd.R_mono R6.out (fun _ _ => trivial)) HSZ.out, fun _ => HAT.out.symm, fun h => absurd HT.out h⟩⟩
                  · have e3 : (x.f1 == sz) = false := beq_eq_false_iff_ne.2 c3
                    rw [if_neg c3] at hat
                    have HAT := Aside0.mk hat
                    clear c1 c2 c3 hat h0l h0i hnl
                    go_quiet (fail)
                    go_wp2
                    go_meet
                    case rel => exact ⟨_, _, rfl, ⟨H6.out⟩, ⟨pw_below_drewN B6.out _⟩, ⟨K6.out⟩, ⟨Z6.out⟩, ⟨fun _ => Kd.R_lower (Kd.R_mono R6.out (fun _ _ => trivial)) HSZ.out, fun _ => HAT.out.symm, fun h => absurd HT.out h⟩⟩
                · have e2 : (x.f3 == 0) = false := beq_eq_false_iff_ne.2 c2
                  rw [if_neg c2] at hat
                  have HAT := Aside0.mk hat
                  clear c1 c2 hat h0l h0i hnl
                  go_quiet (fail)
                  go_wp2
                  go_meet
                  case rel => exact ⟨_, _, rfl, ⟨H6.out⟩, ⟨pw_below_drewN B6.out _⟩, ⟨K6.out⟩, ⟨Z6.out⟩, ⟨fun _ => Kd.R_lower (Kd.R_mono R6.out (fun _ _ => trivial)) HSZ.out, fun _ => HAT.out.symm, fun h => absurd HT.out h⟩⟩
              · have e1 : ((nl : Int) == 1) = false := beq_eq_false_iff_ne.2 (by omega)
                rw [if_neg c1] at hat
                have HAT := Aside0.mk hat
                clear c1 hat h0l h0i hnl
                go_quiet (fail)
                go_wp2
                go_meet
                case rel => exact ⟨_, _, rfl, ⟨H6.out⟩, ⟨pw_below_drewN B6.out _⟩, ⟨K6.out⟩, ⟨Z6.out⟩, ⟨fun _ => Kd.R_lower (Kd.R_mono R6.out (fun _ _ => trivial)) HSZ.out, fun _ => HAT.out.symm, fun h => absurd HT.out h⟩⟩
        · have ht1 : (t.f0 == 3) = false := beq_eq_false_iff_ne.2 ht
          go_wp2
          go_meet
          case rel => exact ⟨_, _, rfl, ⟨HXR.out⟩, ⟨BB.out⟩, ⟨RK.out⟩, ⟨HSZ.out⟩, ⟨fun h => absurd h ht, fun h => absurd h ht, fun _ => ⟨rfl, rfl⟩⟩⟩
      case rest =>
        obtain ⟨at_, ev, rfl, HBX, HBB, HKK, HZC, HEV⟩ := hcut
        have HO7 := Aside0.mk (HO.out.below HBB.out).at_
        have HS7 := Aside0.mk (pw_own_below HS.out HBB.out)
        have HP7 := Aside0.mk (pw_own_below HP.out HBB.out)
        go_wp2
        refine start_ (n := 22) (S := fun w' => w'.cell? ⟨o, 0, none⟩ = some (.slice A L.length c) ∧ w'.cell? ⟨o, 1, none⟩ = some (.slice Ap P.length cp) ∧ w'.cell? ⟨w.heap.size, 0, none⟩ = some (.int .i64 t.f0) ∧ w'.cell? ⟨w.heap.size, 1, none⟩ = some (.int .i64 t.f1) ∧ w'.cell? ⟨w.heap.size, 2, none⟩ = some (.int .i64 t.f2) ∧ w'.cell? ⟨w.heap.size, 3, none⟩ = some ev ∧ w'.cell? ⟨w.heap.size, 4, none⟩ = some (.slice Ak t.f4.length ck) ∧ w'.cell? ⟨w.heap.size, 5, none⟩ = some (.int .i64 t.f5) ∧ w'.cell? ⟨w.heap.size, 6, none⟩ = some (.int .i64 t.f6) ∧ w'.cell? ⟨w.heap.size, 7, none⟩ = some (.int .i64 t.f7) ∧ w'.cell? ⟨w.heap.size, 8, none⟩ = some v8 ∧ w'.cell? ⟨w.heap.size, 9, none⟩ = some v9) (ds := [18, 21]) #[false, false, false, false, false, false, false, false, false, false, false, false, false, false, false, false, false, false, false, false, false, false] (by kernel_rfl) rfl rfl ?hS (fun hHeld => ?_)
        case hS => exact ⟨(blk_cell HO7.out 0).trans rfl, (blk_cell HO7.out 1).trans rfl, (blk_cell HBX.out 0).trans rfl, (blk_cell HBX.out 1).trans rfl, (blk_cell HBX.out 2).trans rfl, (blk_cell HBX.out 3).trans rfl, (blk_cell HBX.out 4).trans rfl, (blk_cell HBX.out 5).trans rfl, (blk_cell HBX.out 6).trans rfl, (blk_cell HBX.out 7).trans rfl, (blk_cell HBX.out 8).trans rfl, (blk_cell HBX.out 9).trans rfl⟩
        have HO8 := Aside0.mk (blk_drew HO7.out)
        have HBX8 := Aside0.mk (blk_drew HBX.out)
        have HS8 : Aside0 (wc.drew.ownsRow base 34 10 (.slice A L.length c) L.length C) := ⟨HS7.out⟩
        have HP8 : Aside0 (wc.drew.ownsRow base 3 1 (.slice Ap P.length cp) P.length (nums .i64 P)) := ⟨HP7.out⟩
        have HB8 := Aside0.mk (below_drew HBB.out)
        have HK8 : Aside0 (wc.drew.ownsRow (w.heap.size + 1) 3 1 (.slice Ak t.f4.length ck) t.f4.length (nums .i64 (t.f4.map (rd P)))) := ⟨HKK.out⟩
        have HE8 : Aside0 (t.f0 = 3 → wc.drew.ownsRow (w.heap.size + 1) 36 4 ev (addE L P t.f3).length (ec (addE L P t.f3))) := ⟨fun ht => own36 (HEV.out.1 ht)⟩
        have HZ8 : Aside0 (w.heap.size + 1 ≤ wc.drew.heap.size) := ⟨HZC.out⟩
        clear HO7 HS7 HP7
        generalize wc.drew = wd at *
        refine pure_ (i := 0) (N := some 149) (v := ?_) (a' := ?_) #[true, false, false, false, false, false, false, false, false, false, false, false, false, false, false, false, false, false, false, false, false, false] rfl rfl (by kernel_rfl) (fun _ _ _ h => h) (Or.inl ⟨by rfl, ?_⟩) ?_ ?_
        rotate_left
        · intro w'
          go_simp
          with_reducible rfl
        rotate_left
        · simp only [Act.put, List.setIfInBounds_toArray, List.set_cons_zero, List.set_cons_succ, i64_w, i32_w]
          rfl
        refine pure_ (i := 1) (N := some 150) (v := ?_) (a' := ?_) #[true, true, false, false, false, false, false, false, false, false, false, false, false, false, false, false, false, false, false, false, false, false] rfl rfl (by kernel_rfl) (fun _ _ _ h => h) (Or.inl ⟨by rfl, ?_⟩) ?_ ?_
        rotate_left
        · intro w'
          go_simp
          with_reducible rfl
        rotate_left
        · simp only [Act.put, List.setIfInBounds_toArray, List.set_cons_zero, List.set_cons_succ, i64_w, i32_w]
          rfl
        refine pure_ (i := 2) (N := some 151) (v := ?_) (a' := ?_) #[true, true, true, false, false, false, false, false, false, false, false, false, false, false, false, false, false, false, false, false, false, false] rfl rfl (by kernel_rfl) (fun _ _ _ h => h) (Or.inl ⟨by rfl, ?_⟩) ?_ ?_
        rotate_left
        · intro w'
          go_simp
          with_reducible rfl
        rotate_left
        · simp only [Act.put, List.setIfInBounds_toArray, List.set_cons_zero, List.set_cons_succ, i64_w, i32_w]
          rfl
        refine pure_ (i := 3) (N := some 152) (v := ?_) (a' := ?_) #[true, true, true, true, false, false, false, false, false, false, false, false, false, false, false, false, false, false, false, false, false, false] rfl rfl (by kernel_rfl) (fun _ _ _ h => h) (Or.inl ⟨by rfl, ?_⟩) ?_ ?_
        rotate_left
        · intro w'
          go_simp
          with_reducible rfl
        rotate_left
        · simp only [Act.put, List.setIfInBounds_toArray, List.set_cons_zero, List.set_cons_succ, i64_w, i32_w]
          rfl
        refine pure_ (i := 4) (N := some 153) (v := ?_) (a' := ?_) #[true, true, true, true, true, false, false, false, false, false, false, false, false, false, false, false, false, false, false, false, false, false] rfl rfl (by kernel_rfl) (fun _ _ _ h => h) (Or.inl ⟨by rfl, ?_⟩) ?_ ?_
        rotate_left
        · intro w'
          go_simp
          with_reducible rfl
        rotate_left
        · simp only [Act.put, List.setIfInBounds_toArray, List.set_cons_zero, List.set_cons_succ, i64_w, i32_w]
          rfl
        refine pure_ (i := 9) (N := some 158) (v := ?_) (a' := ?_) #[true, true, true, true, true, false, false, false, false, true, false, false, false, false, false, false, false, false, false, false, false, false] rfl rfl (by kernel_rfl) (fun _ _ _ h => h) (Or.inl ⟨by rfl, ?_⟩) ?_ ?_
        rotate_left
        · intro w'
          go_simp
          with_reducible rfl
        rotate_left
        · simp only [Act.put, List.setIfInBounds_toArray, List.set_cons_zero, List.set_cons_succ, i64_w, i32_w]
          rfl
        refine pure_ (i := 10) (N := some 159) (v := ?_) (a' := ?_) #[true, true, true, true, true, false, false, false, false, true, true, false, false, false, false, false, false, false, false, false, false, false] rfl rfl (by kernel_rfl) (fun _ _ _ h => h) (Or.inl ⟨by rfl, ?_⟩) ?_ ?_
        rotate_left
        · intro w'
          go_simp
          with_reducible rfl
        rotate_left
        · simp only [Act.put, List.setIfInBounds_toArray, List.set_cons_zero, List.set_cons_succ, i64_w, i32_w]
          rfl
        refine pure_ (i := 11) (N := some 160) (v := ?_) (a' := ?_) #[true, true, true, true, true, false, false, false, false, true, true, true, false, false, false, false, false, false, false, false, false, false] rfl rfl (by kernel_rfl) (fun _ _ _ h => h) (Or.inl ⟨by rfl, ?_⟩) ?_ ?_
        rotate_left
        · intro w'
          go_simp
          with_reducible rfl
        rotate_left
        · simp only [Act.put, List.setIfInBounds_toArray, List.set_cons_zero, List.set_cons_succ, i64_w, i32_w]
          rfl
        refine pure_ (i := 13) (N := some 162) (v := ?_) (a' := ?_) #[true, true, true, true, true, false, false, false, false, true, true, true, false, true, false, false, false, false, false, false, false, false] rfl rfl (by kernel_rfl) (fun _ _ _ h => h) (Or.inl ⟨by rfl, ?_⟩) ?_ ?_
        rotate_left
        · intro w'
          go_simp
          with_reducible rfl
        rotate_left
        · simp only [Act.put, List.setIfInBounds_toArray, List.set_cons_zero, List.set_cons_succ, i64_w, i32_w]
          rfl
        refine take_ (i := 5) (N := some 154) (v := ?_) (a' := ?_) #[true, true, true, true, true, true, false, false, false, true, true, true, false, true, false, false, false, false, false, false, false, false] rfl rfl (by kernel_rfl) (fun _ _ _ h => h) (Or.inl ⟨by rfl, ?_⟩) hHeld ?_ ?_
        rotate_left
        · rintro w' ⟨s0, s1, s2, s3, s4, s5, s6, s7, s8, s9, s10, s11⟩
          go_simp
          with_reducible rfl
        rotate_left
        · simp only [Act.put, List.setIfInBounds_toArray, List.set_cons_zero, List.set_cons_succ, i64_w, i32_w]
          rfl
        refine take_ (i := 6) (N := some 155) (v := ?_) (a' := ?_) #[true, true, true, true, true, true, true, false, false, true, true, true, false, true, false, false, false, false, false, false, false, false] rfl rfl (by kernel_rfl) (fun _ _ _ h => h) (Or.inl ⟨by rfl, ?_⟩) hHeld ?_ ?_
        rotate_left
        · rintro w' ⟨s0, s1, s2, s3, s4, s5, s6, s7, s8, s9, s10, s11⟩
          go_simp
          with_reducible rfl
        rotate_left
        · simp only [Act.put, List.setIfInBounds_toArray, List.set_cons_zero, List.set_cons_succ, i64_w, i32_w]
          rfl
        refine take_ (i := 12) (N := some 161) (v := ?_) (a' := ?_) #[true, true, true, true, true, true, true, false, false, true, true, true, true, true, false, false, false, false, false, false, false, false] rfl rfl (by kernel_rfl) (fun _ _ _ h => h) (Or.inl ⟨by rfl, ?_⟩) hHeld ?_ ?_
        rotate_left
        · rintro w' ⟨s0, s1, s2, s3, s4, s5, s6, s7, s8, s9, s10, s11⟩
          go_simp
          with_reducible rfl
        rotate_left
        · simp only [Act.put, List.setIfInBounds_toArray, List.set_cons_zero, List.set_cons_succ, i64_w, i32_w]
          rfl
        have hev1 : ev.oneCell' = true := by
          by_cases ht : t.f0 = 3
          · obtain ⟨A_, c_, e_, _⟩ := Kd.R_reads (HEV.out.1 ht)
            subst e_
            rfl
          · rw [(HEV.out.2.2 ht).1]
            rfl
        have hcs1 : ∀ u ∈ ([.int .i64 t.f0, .int .i64 t.f1, .int .i64 t.f2, ev, .slice Ak t.f4.length ck, .int .i64 t.f5, .int .i64 t.f6, .int .i64 t.f7, v8, v9] : List Value), u.oneCell' = true := by
          intro u hu
          simp only [List.mem_cons, List.not_mem_nil, or_false] at hu
          rcases hu with rfl | rfl | rfl | rfl | rfl | rfl | rfl | rfl | rfl | rfl <;> first | rfl | exact hev1 | exact h8 | exact h9
        have AS0 := Aside0.mk (show AddS w o base (.slice A L.length c) (.slice Ap P.length cp) #[.int .i64 t.f0, .int .i64 t.f1, .int .i64 t.f2, ev, .slice Ak t.f4.length ck, .int .i64 t.f5, .int .i64 t.f6, .int .i64 t.f7, v8, v9] (Value.slice A L.length c).ownBlock (Value.slice Ap P.length cp).ownBlock (.slice Ak t.f4.length ck) ev t.f4.length (addE L P t.f3).length (t.f4.map (rd P)) (ec (addE L P t.f3)) (t.f0 = 3) wd (.slice A L.length c) (.slice Ap P.length cp) L.length P.length C P from ⟨HO8.out, HBX8.out, HS8.out, HP8.out, HK8.out, fun ht => HE8.out ht, HB8.out.mono hbw, HZ8.out, fun k h1 _ _ _ => HB8.out.block k h1, fun k hk hk' => by have e1_ := own_base HK8.out k hk'; have e2_ := own_lt HP.out k hk; omega, .inl rfl⟩)
        have hslt : ∀ k, (Value.slice A L.length c).ownBlock = some k → k < w.heap.size := own_lt HS.out
        clear hHeld
        refine two_ (i := 7) (j := 14) (Ni := some 156) (Nj := some 163) #[true, true, true, true, true, true, true, true, false, true, true, true, true, true, false, false, false, false, false, false, false, false] #[true, true, true, true, true, true, true, false, false, true, true, true, true, true, true, false, false, false, false, false, false, false] rfl rfl rfl rfl (by kernel_rfl) (by decide) (by decide) (fun K hK => ?_) (fun K hK => ?_)
        · refine value_ (w1 := ?_) (v := ?_) (by rfl) rfl ?_ ?_
          rotate_left 2
          · go_simp
            constructor
            · rfl
            · rfl
          have A1 := Aside0.mk (AS0.out.alloc hbw (.cells #[.int .i64 t.f0, .int .i64 t.f1, .int .i64 t.f2, ev, .slice Ak t.f4.length ck, .int .i64 t.f5, .int .i64 t.f6, .int .i64 t.f7, v8, v9] 34 (0, 0)))
          have V7 := Aside0.mk (blk_new wd (.cells #[.int .i64 t.f0, .int .i64 t.f1, .int .i64 t.f2, ev, .slice Ak t.f4.length ck, .int .i64 t.f5, .int .i64 t.f6, .int .i64 t.f7, v8, v9] 34 (0, 0)))
          refine hK.out _ _ ⟨(blk_cell A1.out.fo 0).trans rfl, (blk_cell A1.out.fo 1).trans rfl, (blk_cell A1.out.fb 0).trans rfl, (blk_cell A1.out.fb 1).trans rfl, (blk_cell A1.out.fb 2).trans rfl, (blk_cell A1.out.fb 3).trans rfl, (blk_cell A1.out.fb 4).trans rfl, (blk_cell A1.out.fb 5).trans rfl, (blk_cell A1.out.fb 6).trans rfl, (blk_cell A1.out.fb 7).trans rfl, (blk_cell A1.out.fb 8).trans rfl, (blk_cell A1.out.fb 9).trans rfl⟩ (fun hHeld => ?_)
          clear hK K hHeld
          refine norm_ (a' := ?_) ?_ ?_
          rotate_left
          · simp only [Act.put, List.setIfInBounds_toArray, List.set_cons_zero, List.set_cons_succ]
            rfl
          obtain ⟨b7, hb7⟩ : ∃ b_, b_ = wd.heap.size := ⟨_, rfl⟩
          rw [← hb7] at V7 ⊢
          generalize wd.alloc (.cells #[.int .i64 t.f0, .int .i64 t.f1, .int .i64 t.f2, ev, .slice Ak t.f4.length ck, .int .i64 t.f5, .int .i64 t.f6, .int .i64 t.f7, v8, v9] 34 (0, 0)) = W1 at *
          clear hb7
          refine two_ (i := 8) (j := 14) (Ni := some 157) (Nj := some 163) #[true, true, true, true, true, true, true, true, true, true, true, true, true, true, false, false, false, false, false, false, false, false] #[true, true, true, true, true, true, true, true, false, true, true, true, true, true, true, false, false, false, false, false, false, false] rfl rfl rfl rfl (by kernel_rfl) (by decide) (by decide) (fun K hK => ?_) (fun K hK => ?_)
          · refine step_append_at (w0 := w) base (by rfl) (.tmp 154) (.tmp 156) 22 34 _ 10 144 rfl Try.underlying22 info34 rfl (by decide) (by decide) (.slice A L.length c) L.length C [.int .i64 t.f0, .int .i64 t.f1, .int .i64 t.f2, ev, .slice Ak t.f4.length ck, .int .i64 t.f5, .int .i64 t.f6, .int .i64 t.f7, v8, v9] b7 (by rfl) (by rfl) rfl V7.out hcs1 A1.out.fs A1.out.bel (by have := A1.out.sz; omega) (by omega) ?_
            intro sv1 w2 ho1 hb1 hg1 hat1
            obtain ⟨As_, ca_, es_⟩ := own_slice ho1
            subst es_
            have A2 := Aside0.mk (A1.out.appS rfl hslt ho1 hb1 hg1)
            refine hK.out _ _ ⟨(blk_cell A2.out.fo 0).trans rfl, (blk_cell A2.out.fo 1).trans rfl, (blk_cell A2.out.fb 0).trans rfl, (blk_cell A2.out.fb 1).trans rfl, (blk_cell A2.out.fb 2).trans rfl, (blk_cell A2.out.fb 3).trans rfl, (blk_cell A2.out.fb 4).trans rfl, (blk_cell A2.out.fb 5).trans rfl, (blk_cell A2.out.fb 6).trans rfl, (blk_cell A2.out.fb 7).trans rfl, (blk_cell A2.out.fb 8).trans rfl, (blk_cell A2.out.fb 9).trans rfl⟩ (fun hHeld => ?_)
            clear hK K hHeld ho1 hb1 hg1 hat1 V7
            refine norm_ (a' := ?_) ?_ ?_
            rotate_left
            · simp only [Act.put, List.setIfInBounds_toArray, List.set_cons_zero, List.set_cons_succ]
              rfl
            refine one_ (i := 14) (N := some 163) #[true, true, true, true, true, true, true, true, true, true, true, true, true, true, true, false, false, false, false, false, false, false] rfl rfl (by kernel_rfl) (by decide) (fun K hK => ?_)
            refine value_ (w1 := ?_) (v := ?_) (by rfl) rfl ?_ ?_
            rotate_left 2
            · go_simp
              constructor
              · rfl
              · rfl
            have A3 := Aside0.mk (A2.out.alloc hbw (.cells #[.int .i64 at_] 3 (0, 0)))
            have V14 := Aside0.mk (blk_new w2 (.cells #[.int .i64 at_] 3 (0, 0)))
            refine hK.out _ _ ⟨(blk_cell A3.out.fo 0).trans rfl, (blk_cell A3.out.fo 1).trans rfl, (blk_cell A3.out.fb 0).trans rfl, (blk_cell A3.out.fb 1).trans rfl, (blk_cell A3.out.fb 2).trans rfl, (blk_cell A3.out.fb 3).trans rfl, (blk_cell A3.out.fb 4).trans rfl, (blk_cell A3.out.fb 5).trans rfl, (blk_cell A3.out.fb 6).trans rfl, (blk_cell A3.out.fb 7).trans rfl, (blk_cell A3.out.fb 8).trans rfl, (blk_cell A3.out.fb 9).trans rfl⟩ (fun hHeld => ?_)
            clear hK K hHeld
            refine norm_ (a' := ?_) ?_ ?_
            rotate_left
            · simp only [Act.put, List.setIfInBounds_toArray, List.set_cons_zero, List.set_cons_succ]
              rfl
            obtain ⟨b14, hb14⟩ : ∃ b_, b_ = w2.heap.size := ⟨_, rfl⟩
            rw [← hb14] at V14 ⊢
            generalize w2.alloc (.cells #[.int .i64 at_] 3 (0, 0)) = W3 at *
            clear hb14
            refine one_ (i := 15) (N := some 164) #[true, true, true, true, true, true, true, true, true, true, true, true, true, true, true, true, false, false, false, false, false, false] rfl rfl (by kernel_rfl) (by decide) (fun K hK => ?_)
            refine step_append_at (w0 := w) base (by rfl) (.tmp 161) (.tmp 163) 25 3 _ 1 8 rfl Try.underlying25 info3 rfl (by decide) (by decide) (.slice Ap P.length cp) P.length (nums .i64 P) [.int .i64 at_] b14 (by rfl) (by rfl) rfl V14.out (by intro u hu; rw [List.mem_singleton] at hu; subst hu; rfl) A3.out.fp A3.out.bel (by have := A3.out.sz; omega) (by omega) ?_
            intro pv1 w4 ho1 hb1 hg1 hat1
            obtain ⟨Ap_, cb_, ep_⟩ := own_slice ho1
            subst ep_
            have A4 := Aside0.mk (A3.out.appP rfl (Ps2 := P ++ [at_]) (by rw [nums_append]; exact ho1) hb1 hg1 hat1)
            refine hK.out _ _ ⟨(blk_cell A4.out.fo 0).trans rfl, (blk_cell A4.out.fo 1).trans rfl, (blk_cell A4.out.fb 0).trans rfl, (blk_cell A4.out.fb 1).trans rfl, (blk_cell A4.out.fb 2).trans rfl, (blk_cell A4.out.fb 3).trans rfl, (blk_cell A4.out.fb 4).trans rfl, (blk_cell A4.out.fb 5).trans rfl, (blk_cell A4.out.fb 6).trans rfl, (blk_cell A4.out.fb 7).trans rfl, (blk_cell A4.out.fb 8).trans rfl, (blk_cell A4.out.fb 9).trans rfl⟩ (fun hHeld => ?_)
            clear hK K hHeld ho1 hb1 hg1 hat1 V14
            refine norm_ (a' := ?_) ?_ ?_
            rotate_left
            · simp only [Act.put, List.setIfInBounds_toArray, List.set_cons_zero, List.set_cons_succ]
              rfl
            refine pure_ (i := 16) (N := some 165) (v := ?_) (a' := ?_) #[true, true, true, true, true, true, true, true, true, true, true, true, true, true, true, true, true, false, false, false, false, false] rfl rfl (by kernel_rfl) (fun _ _ _ h => h) (Or.inl ⟨by rfl, ?_⟩) ?_ ?_
            rotate_left
            · intro w'
              go_simp
              with_reducible rfl
            rotate_left
            · simp only [Act.put, List.setIfInBounds_toArray, List.set_cons_zero, List.set_cons_succ, i64_w, i32_w]
              rfl
            refine pure_ (i := 17) (N := some 166) (v := ?_) (a' := ?_) #[true, true, true, true, true, true, true, true, true, true, true, true, true, true, true, true, true, true, false, false, false, false] rfl rfl (by kernel_rfl) (fun _ _ _ h => h) (Or.inl ⟨by rfl, ?_⟩) ?_ ?_
            rotate_left
            · intro w'
              go_simp
              with_reducible rfl
            rotate_left
            · simp only [Act.put, List.setIfInBounds_toArray, List.set_cons_zero, List.set_cons_succ, i64_w, i32_w]
              rfl
            have o0_ : w4.cell? ⟨o, 0, none⟩ = some (.slice A L.length c) := (blk_cell A4.out.fo 0).trans rfl
            have f0_ := blk_frozen A4.out.fo 0
            have AX := Aside0.mk (A4.out.set0 hbo hbx (.slice As_ (L.length + 1) ca_))
            refine last_store (i := 18) (w1 := ?_) #[true, true, true, true, true, true, true, true, true, true, true, true, true, true, true, true, true, true, true, false, false, false] rfl rfl (by kernel_rfl) (by decide) (by rfl) ?_ ?_
            rotate_left
            · go_simp
              rfl
            refine pure_ (i := 19) (N := some 167) (v := ?_) (a' := ?_) #[true, true, true, true, true, true, true, true, true, true, true, true, true, true, true, true, true, true, true, true, false, false] rfl rfl (by kernel_rfl) (fun _ _ _ h => h) (Or.inl ⟨by rfl, ?_⟩) ?_ ?_
            rotate_left
            · intro w'
              go_simp
              with_reducible rfl
            rotate_left
            · simp only [Act.put, List.setIfInBounds_toArray, List.set_cons_zero, List.set_cons_succ, i64_w, i32_w]
              rfl
            refine pure_ (i := 20) (N := some 168) (v := ?_) (a' := ?_) #[true, true, true, true, true, true, true, true, true, true, true, true, true, true, true, true, true, true, true, true, true, false] rfl rfl (by kernel_rfl) (fun _ _ _ h => h) (Or.inl ⟨by rfl, ?_⟩) ?_ ?_
            rotate_left
            · intro w'
              go_simp
              with_reducible rfl
            rotate_left
            · simp only [Act.put, List.setIfInBounds_toArray, List.set_cons_zero, List.set_cons_succ, i64_w, i32_w]
              rfl
            have o1_ : (w4.setCell ⟨o, 0, none⟩ (.slice As_ (L.length + 1) ca_)).cell? ⟨o, 1, none⟩ = some (.slice Ap P.length cp) := (blk_cell AX.out.fo 1).trans rfl
            have f1_ := blk_frozen AX.out.fo 1
            have AY := Aside0.mk (AX.out.set1 hbo hbx (.slice Ap_ (P.length + 1) cb_))
            refine last_store (i := 21) (w1 := ?_) #[true, true, true, true, true, true, true, true, true, true, true, true, true, true, true, true, true, true, true, true, true, true] rfl rfl (by kernel_rfl) (by decide) (by rfl) ?_ ?_
            rotate_left
            · go_simp
              rfl
            refine done_ (by kernel_rfl) ?_
            try go_wp2
            first | go_end0 | ((try simp only [Exit.inBlock, Exit.then]); refine bodyPost_ret (results_none rfl _ _ _) rfl ?_)
            exact ⟨rfl, _, _, at_, ev, ⟨Ak, ck, AY.out⟩, HEV.out.2.1, HEV.out.2.2⟩
          · refine value_ (w1 := ?_) (v := ?_) (by rfl) rfl ?_ ?_
            rotate_left 2
            · go_simp
              constructor
              · rfl
              · rfl
            have A2 := Aside0.mk (A1.out.alloc hbw (.cells #[.int .i64 at_] 3 (0, 0)))
            have V14 := Aside0.mk (blk_new W1 (.cells #[.int .i64 at_] 3 (0, 0)))
            have V7' := Aside0.mk (blk_alloc V7.out (.cells #[.int .i64 at_] 3 (0, 0)))
            clear V7
            have V7 := V7'
            clear V7'
            refine hK.out _ _ ⟨(blk_cell A2.out.fo 0).trans rfl, (blk_cell A2.out.fo 1).trans rfl, (blk_cell A2.out.fb 0).trans rfl, (blk_cell A2.out.fb 1).trans rfl, (blk_cell A2.out.fb 2).trans rfl, (blk_cell A2.out.fb 3).trans rfl, (blk_cell A2.out.fb 4).trans rfl, (blk_cell A2.out.fb 5).trans rfl, (blk_cell A2.out.fb 6).trans rfl, (blk_cell A2.out.fb 7).trans rfl, (blk_cell A2.out.fb 8).trans rfl, (blk_cell A2.out.fb 9).trans rfl⟩ (fun hHeld => ?_)
            clear hK K hHeld
            refine norm_ (a' := ?_) ?_ ?_
            rotate_left
            · simp only [Act.put, List.setIfInBounds_toArray, List.set_cons_zero, List.set_cons_succ]
              rfl
            obtain ⟨b14, hb14⟩ : ∃ b_, b_ = W1.heap.size := ⟨_, rfl⟩
            rw [← hb14] at V14 ⊢
            generalize W1.alloc (.cells #[.int .i64 at_] 3 (0, 0)) = W2 at *
            clear hb14
            refine one_ (i := 8) (N := some 157) #[true, true, true, true, true, true, true, true, true, true, true, true, true, true, true, false, false, false, false, false, false, false] rfl rfl (by kernel_rfl) (by decide) (fun K hK => ?_)
            refine step_append_at (w0 := w) base (by rfl) (.tmp 154) (.tmp 156) 22 34 _ 10 144 rfl Try.underlying22 info34 rfl (by decide) (by decide) (.slice A L.length c) L.length C [.int .i64 t.f0, .int .i64 t.f1, .int .i64 t.f2, ev, .slice Ak t.f4.length ck, .int .i64 t.f5, .int .i64 t.f6, .int .i64 t.f7, v8, v9] b7 (by rfl) (by rfl) rfl V7.out hcs1 A2.out.fs A2.out.bel (by have := A2.out.sz; omega) (by omega) ?_
            intro sv1 w3 ho1 hb1 hg1 hat1
            obtain ⟨As_, ca_, es_⟩ := own_slice ho1
            subst es_
            have A3 := Aside0.mk (A2.out.appS rfl hslt ho1 hb1 hg1)
            have V14' := Aside0.mk ((hg1.block _ (blk_lt V14.out) (own_ne A2.out.fs V14.out (by decide))).trans V14.out)
            clear V14
            have V14 := V14'
            clear V14'
            refine hK.out _ _ ⟨(blk_cell A3.out.fo 0).trans rfl, (blk_cell A3.out.fo 1).trans rfl, (blk_cell A3.out.fb 0).trans rfl, (blk_cell A3.out.fb 1).trans rfl, (blk_cell A3.out.fb 2).trans rfl, (blk_cell A3.out.fb 3).trans rfl, (blk_cell A3.out.fb 4).trans rfl, (blk_cell A3.out.fb 5).trans rfl, (blk_cell A3.out.fb 6).trans rfl, (blk_cell A3.out.fb 7).trans rfl, (blk_cell A3.out.fb 8).trans rfl, (blk_cell A3.out.fb 9).trans rfl⟩ (fun hHeld => ?_)
            clear hK K hHeld ho1 hb1 hg1 hat1 V7
            refine norm_ (a' := ?_) ?_ ?_
            rotate_left
            · simp only [Act.put, List.setIfInBounds_toArray, List.set_cons_zero, List.set_cons_succ]
              rfl
            refine one_ (i := 15) (N := some 164) #[true, true, true, true, true, true, true, true, true, true, true, true, true, true, true, true, false, false, false, false, false, false] rfl rfl (by kernel_rfl) (by decide) (fun K hK => ?_)
            refine step_append_at (w0 := w) base (by rfl) (.tmp 161) (.tmp 163) 25 3 _ 1 8 rfl Try.underlying25 info3 rfl (by decide) (by decide) (.slice Ap P.length cp) P.length (nums .i64 P) [.int .i64 at_] b14 (by rfl) (by rfl) rfl V14.out (by intro u hu; rw [List.mem_singleton] at hu; subst hu; rfl) A3.out.fp A3.out.bel (by have := A3.out.sz; omega) (by omega) ?_
            intro pv1 w4 ho1 hb1 hg1 hat1
            obtain ⟨Ap_, cb_, ep_⟩ := own_slice ho1
            subst ep_
            have A4 := Aside0.mk (A3.out.appP rfl (Ps2 := P ++ [at_]) (by rw [nums_append]; exact ho1) hb1 hg1 hat1)
            refine hK.out _ _ ⟨(blk_cell A4.out.fo 0).trans rfl, (blk_cell A4.out.fo 1).trans rfl, (blk_cell A4.out.fb 0).trans rfl, (blk_cell A4.out.fb 1).trans rfl, (blk_cell A4.out.fb 2).trans rfl, (blk_cell A4.out.fb 3).trans rfl, (blk_cell A4.out.fb 4).trans rfl, (blk_cell A4.out.fb 5).trans rfl, (blk_cell A4.out.fb 6).trans rfl, (blk_cell A4.out.fb 7).trans rfl, (blk_cell A4.out.fb 8).trans rfl, (blk_cell A4.out.fb 9).trans rfl⟩ (fun hHeld => ?_)
            clear hK K hHeld ho1 hb1 hg1 hat1 V14
            refine norm_ (a' := ?_) ?_ ?_
            rotate_left
            · simp only [Act.put, List.setIfInBounds_toArray, List.set_cons_zero, List.set_cons_succ]
              rfl
            refine pure_ (i := 16) (N := some 165) (v := ?_) (a' := ?_) #[true, true, true, true, true, true, true, true, true, true, true, true, true, true, true, true, true, false, false, false, false, false] rfl rfl (by kernel_rfl) (fun _ _ _ h => h) (Or.inl ⟨by rfl, ?_⟩) ?_ ?_
            rotate_left
            · intro w'
              go_simp
              with_reducible rfl
            rotate_left
            · simp only [Act.put, List.setIfInBounds_toArray, List.set_cons_zero, List.set_cons_succ, i64_w, i32_w]
              rfl
            refine pure_ (i := 17) (N := some 166) (v := ?_) (a' := ?_) #[true, true, true, true, true, true, true, true, true, true, true, true, true, true, true, true, true, true, false, false, false, false] rfl rfl (by kernel_rfl) (fun _ _ _ h => h) (Or.inl ⟨by rfl, ?_⟩) ?_ ?_
            rotate_left
            · intro w'
              go_simp
              with_reducible rfl
            rotate_left
            · simp only [Act.put, List.setIfInBounds_toArray, List.set_cons_zero, List.set_cons_succ, i64_w, i32_w]
              rfl
            have o0_ : w4.cell? ⟨o, 0, none⟩ = some (.slice A L.length c) := (blk_cell A4.out.fo 0).trans rfl
            have f0_ := blk_frozen A4.out.fo 0
            have AX := Aside0.mk (A4.out.set0 hbo hbx (.slice As_ (L.length + 1) ca_))
            refine last_store (i := 18) (w1 := ?_) #[true, true, true, true, true, true, true, true, true, true, true, true, true, true, true, true, true, true, true, false, false, false] rfl rfl (by kernel_rfl) (by decide) (by rfl) ?_ ?_
            rotate_left
            · go_simp
              rfl
            refine pure_ (i := 19) (N := some 167) (v := ?_) (a' := ?_) #[true, true, true, true, true, true, true, true, true, true, true, true, true, true, true, true, true, true, true, true, false, false] rfl rfl (by kernel_rfl) (fun _ _ _ h => h) (Or.inl ⟨by rfl, ?_⟩) ?_ ?_
            rotate_left
            · intro w'
              go_simp
              with_reducible rfl
            rotate_left
            · simp only [Act.put, List.setIfInBounds_toArray, List.set_cons_zero, List.set_cons_succ, i64_w, i32_w]
              rfl
            refine pure_ (i := 20) (N := some 168) (v := ?_) (a' := ?_) #[true, true, true, true, true, true, true, true, true, true, true, true, true, true, true, true, true, true, true, true, true, false] rfl rfl (by kernel_rfl) (fun _ _ _ h => h) (Or.inl ⟨by rfl, ?_⟩) ?_ ?_
            rotate_left
            · intro w'
              go_simp
              with_reducible rfl
            rotate_left
            · simp only [Act.put, List.setIfInBounds_toArray, List.set_cons_zero, List.set_cons_succ, i64_w, i32_w]
              rfl
            have o1_ : (w4.setCell ⟨o, 0, none⟩ (.slice As_ (L.length + 1) ca_)).cell? ⟨o, 1, none⟩ = some (.slice Ap P.length cp) := (blk_cell AX.out.fo 1).trans rfl
            have f1_ := blk_frozen AX.out.fo 1
            have AY := Aside0.mk (AX.out.set1 hbo hbx (.slice Ap_ (P.length + 1) cb_))
            refine last_store (i := 21) (w1 := ?_) #[true, true, true, true, true, true, true, true, true, true, true, true, true, true, true, true, true, true, true, true, true, true] rfl rfl (by kernel_rfl) (by decide) (by rfl) ?_ ?_
            rotate_left
            · go_simp
              rfl
            refine done_ (by kernel_rfl) ?_
            try go_wp2
            first | go_end0 | ((try simp only [Exit.inBlock, Exit.then]); refine bodyPost_ret (results_none rfl _ _ _) rfl ?_)
            exact ⟨rfl, _, _, at_, ev, ⟨Ak, ck, AY.out⟩, HEV.out.2.1, HEV.out.2.2⟩
        · refine value_ (w1 := ?_) (v := ?_) (by rfl) rfl ?_ ?_
          rotate_left 2
          · go_simp
            constructor
            · rfl
            · rfl
          have A1 := Aside0.mk (AS0.out.alloc hbw (.cells #[.int .i64 at_] 3 (0, 0)))
          have V14 := Aside0.mk (blk_new wd (.cells #[.int .i64 at_] 3 (0, 0)))
          refine hK.out _ _ ⟨(blk_cell A1.out.fo 0).trans rfl, (blk_cell A1.out.fo 1).trans rfl, (blk_cell A1.out.fb 0).trans rfl, (blk_cell A1.out.fb 1).trans rfl, (blk_cell A1.out.fb 2).trans rfl, (blk_cell A1.out.fb 3).trans rfl, (blk_cell A1.out.fb 4).trans rfl, (blk_cell A1.out.fb 5).trans rfl, (blk_cell A1.out.fb 6).trans rfl, (blk_cell A1.out.fb 7).trans rfl, (blk_cell A1.out.fb 8).trans rfl, (blk_cell A1.out.fb 9).trans rfl⟩ (fun hHeld => ?_)
          clear hK K hHeld
          refine norm_ (a' := ?_) ?_ ?_
          rotate_left
          · simp only [Act.put, List.setIfInBounds_toArray, List.set_cons_zero, List.set_cons_succ]
            rfl
          obtain ⟨b14, hb14⟩ : ∃ b_, b_ = wd.heap.size := ⟨_, rfl⟩
          rw [← hb14] at V14 ⊢
          generalize wd.alloc (.cells #[.int .i64 at_] 3 (0, 0)) = W1 at *
          clear hb14
          refine one_ (i := 7) (N := some 156) #[true, true, true, true, true, true, true, true, false, true, true, true, true, true, true, false, false, false, false, false, false, false] rfl rfl (by kernel_rfl) (by decide) (fun K hK => ?_)
          refine value_ (w1 := ?_) (v := ?_) (by rfl) rfl ?_ ?_
          rotate_left 2
          · go_simp
            constructor
            · rfl
            · rfl
          have A2 := Aside0.mk (A1.out.alloc hbw (.cells #[.int .i64 t.f0, .int .i64 t.f1, .int .i64 t.f2, ev, .slice Ak t.f4.length ck, .int .i64 t.f5, .int .i64 t.f6, .int .i64 t.f7, v8, v9] 34 (0, 0)))
          have V7 := Aside0.mk (blk_new W1 (.cells #[.int .i64 t.f0, .int .i64 t.f1, .int .i64 t.f2, ev, .slice Ak t.f4.length ck, .int .i64 t.f5, .int .i64 t.f6, .int .i64 t.f7, v8, v9] 34 (0, 0)))
          have V14' := Aside0.mk (blk_alloc V14.out (.cells #[.int .i64 t.f0, .int .i64 t.f1, .int .i64 t.f2, ev, .slice Ak t.f4.length ck, .int .i64 t.f5, .int .i64 t.f6, .int .i64 t.f7, v8, v9] 34 (0, 0)))
          clear V14
          have V14 := V14'
          clear V14'
          refine hK.out _ _ ⟨(blk_cell A2.out.fo 0).trans rfl, (blk_cell A2.out.fo 1).trans rfl, (blk_cell A2.out.fb 0).trans rfl, (blk_cell A2.out.fb 1).trans rfl, (blk_cell A2.out.fb 2).trans rfl, (blk_cell A2.out.fb 3).trans rfl, (blk_cell A2.out.fb 4).trans rfl, (blk_cell A2.out.fb 5).trans rfl, (blk_cell A2.out.fb 6).trans rfl, (blk_cell A2.out.fb 7).trans rfl, (blk_cell A2.out.fb 8).trans rfl, (blk_cell A2.out.fb 9).trans rfl⟩ (fun hHeld => ?_)
          clear hK K hHeld
          refine norm_ (a' := ?_) ?_ ?_
          rotate_left
          · simp only [Act.put, List.setIfInBounds_toArray, List.set_cons_zero, List.set_cons_succ]
            rfl
          obtain ⟨b7, hb7⟩ : ∃ b_, b_ = W1.heap.size := ⟨_, rfl⟩
          rw [← hb7] at V7 ⊢
          generalize W1.alloc (.cells #[.int .i64 t.f0, .int .i64 t.f1, .int .i64 t.f2, ev, .slice Ak t.f4.length ck, .int .i64 t.f5, .int .i64 t.f6, .int .i64 t.f7, v8, v9] 34 (0, 0)) = W2 at *
          clear hb7
          refine one_ (i := 8) (N := some 157) #[true, true, true, true, true, true, true, true, true, true, true, true, true, true, true, false, false, false, false, false, false, false] rfl rfl (by kernel_rfl) (by decide) (fun K hK => ?_)
          refine step_append_at (w0 := w) base (by rfl) (.tmp 154) (.tmp 156) 22 34 _ 10 144 rfl Try.underlying22 info34 rfl (by decide) (by decide) (.slice A L.length c) L.length C [.int .i64 t.f0, .int .i64 t.f1, .int .i64 t.f2, ev, .slice Ak t.f4.length ck, .int .i64 t.f5, .int .i64 t.f6, .int .i64 t.f7, v8, v9] b7 (by rfl) (by rfl) rfl V7.out hcs1 A2.out.fs A2.out.bel (by have := A2.out.sz; omega) (by omega) ?_
          intro sv1 w3 ho1 hb1 hg1 hat1
          obtain ⟨As_, ca_, es_⟩ := own_slice ho1
          subst es_
          have A3 := Aside0.mk (A2.out.appS rfl hslt ho1 hb1 hg1)
          have V14' := Aside0.mk ((hg1.block _ (blk_lt V14.out) (own_ne A2.out.fs V14.out (by decide))).trans V14.out)
          clear V14
          have V14 := V14'
          clear V14'
          refine hK.out _ _ ⟨(blk_cell A3.out.fo 0).trans rfl, (blk_cell A3.out.fo 1).trans rfl, (blk_cell A3.out.fb 0).trans rfl, (blk_cell A3.out.fb 1).trans rfl, (blk_cell A3.out.fb 2).trans rfl, (blk_cell A3.out.fb 3).trans rfl, (blk_cell A3.out.fb 4).trans rfl, (blk_cell A3.out.fb 5).trans rfl, (blk_cell A3.out.fb 6).trans rfl, (blk_cell A3.out.fb 7).trans rfl, (blk_cell A3.out.fb 8).trans rfl, (blk_cell A3.out.fb 9).trans rfl⟩ (fun hHeld => ?_)
          clear hK K hHeld ho1 hb1 hg1 hat1 V7
          refine norm_ (a' := ?_) ?_ ?_
          rotate_left
          · simp only [Act.put, List.setIfInBounds_toArray, List.set_cons_zero, List.set_cons_succ]
            rfl
          refine one_ (i := 15) (N := some 164) #[true, true, true, true, true, true, true, true, true, true, true, true, true, true, true, true, false, false, false, false, false, false] rfl rfl (by kernel_rfl) (by decide) (fun K hK => ?_)
          refine step_append_at (w0 := w) base (by rfl) (.tmp 161) (.tmp 163) 25 3 _ 1 8 rfl Try.underlying25 info3 rfl (by decide) (by decide) (.slice Ap P.length cp) P.length (nums .i64 P) [.int .i64 at_] b14 (by rfl) (by rfl) rfl V14.out (by intro u hu; rw [List.mem_singleton] at hu; subst hu; rfl) A3.out.fp A3.out.bel (by have := A3.out.sz; omega) (by omega) ?_
          intro pv1 w4 ho1 hb1 hg1 hat1
          obtain ⟨Ap_, cb_, ep_⟩ := own_slice ho1
          subst ep_
          have A4 := Aside0.mk (A3.out.appP rfl (Ps2 := P ++ [at_]) (by rw [nums_append]; exact ho1) hb1 hg1 hat1)
          refine hK.out _ _ ⟨(blk_cell A4.out.fo 0).trans rfl, (blk_cell A4.out.fo 1).trans rfl, (blk_cell A4.out.fb 0).trans rfl, (blk_cell A4.out.fb 1).trans rfl, (blk_cell A4.out.fb 2).trans rfl, (blk_cell A4.out.fb 3).trans rfl, (blk_cell A4.out.fb 4).trans rfl, (blk_cell A4.out.fb 5).trans rfl, (blk_cell A4.out.fb 6).trans rfl, (blk_cell A4.out.fb 7).trans rfl, (blk_cell A4.out.fb 8).trans rfl, (blk_cell A4.out.fb 9).trans rfl⟩ (fun hHeld => ?_)
          clear hK K hHeld ho1 hb1 hg1 hat1 V14
          refine norm_ (a' := ?_) ?_ ?_
          rotate_left
          · simp only [Act.put, List.setIfInBounds_toArray, List.set_cons_zero, List.set_cons_succ]
            rfl
          refine pure_ (i := 16) (N := some 165) (v := ?_) (a' := ?_) #[true, true, true, true, true, true, true, true, true, true, true, true, true, true, true, true, true, false, false, false, false, false] rfl rfl (by kernel_rfl) (fun _ _ _ h => h) (Or.inl ⟨by rfl, ?_⟩) ?_ ?_
          rotate_left
          · intro w'
            go_simp
            with_reducible rfl
          rotate_left
          · simp only [Act.put, List.setIfInBounds_toArray, List.set_cons_zero, List.set_cons_succ, i64_w, i32_w]
            rfl
          refine pure_ (i := 17) (N := some 166) (v := ?_) (a' := ?_) #[true, true, true, true, true, true, true, true, true, true, true, true, true, true, true, true, true, true, false, false, false, false] rfl rfl (by kernel_rfl) (fun _ _ _ h => h) (Or.inl ⟨by rfl, ?_⟩) ?_ ?_
          rotate_left
          · intro w'
            go_simp
            with_reducible rfl
          rotate_left
          · simp only [Act.put, List.setIfInBounds_toArray, List.set_cons_zero, List.set_cons_succ, i64_w, i32_w]
            rfl
          have o0_ : w4.cell? ⟨o, 0, none⟩ = some (.slice A L.length c) := (blk_cell A4.out.fo 0).trans rfl
          have f0_ := blk_frozen A4.out.fo 0
          have AX := Aside0.mk (A4.out.set0 hbo hbx (.slice As_ (L.length + 1) ca_))
          refine last_store (i := 18) (w1 := ?_) #[true, true, true, true, true, true, true, true, true, true, true, true, true, true, true, true, true, true, true, false, false, false] rfl rfl (by kernel_rfl) (by decide) (by rfl) ?_ ?_
          rotate_left
          · go_simp
            rfl
          refine pure_ (i := 19) (N := some 167) (v := ?_) (a' := ?_) #[true, true, true, true, true, true, true, true, true, true, true, true, true, true, true, true, true, true, true, true, false, false] rfl rfl (by kernel_rfl) (fun _ _ _ h => h) (Or.inl ⟨by rfl, ?_⟩) ?_ ?_
          rotate_left
          · intro w'
            go_simp
            with_reducible rfl
          rotate_left
          · simp only [Act.put, List.setIfInBounds_toArray, List.set_cons_zero, List.set_cons_succ, i64_w, i32_w]
            rfl
          refine pure_ (i := 20) (N := some 168) (v := ?_) (a' := ?_) #[true, true, true, true, true, true, true, true, true, true, true, true, true, true, true, true, true, true, true, true, true, false] rfl rfl (by kernel_rfl) (fun _ _ _ h => h) (Or.inl ⟨by rfl, ?_⟩) ?_ ?_
          rotate_left
          · intro w'
            go_simp
            with_reducible rfl
          rotate_left
          · simp only [Act.put, List.setIfInBounds_toArray, List.set_cons_zero, List.set_cons_succ, i64_w, i32_w]
            rfl
          have o1_ : (w4.setCell ⟨o, 0, none⟩ (.slice As_ (L.length + 1) ca_)).cell? ⟨o, 1, none⟩ = some (.slice Ap P.length cp) := (blk_cell AX.out.fo 1).trans rfl
          have f1_ := blk_frozen AX.out.fo 1
          have AY := Aside0.mk (AX.out.set1 hbo hbx (.slice Ap_ (P.length + 1) cb_))
          refine last_store (i := 21) (w1 := ?_) #[true, true, true, true, true, true, true, true, true, true, true, true, true, true, true, true, true, true, true, true, true, true] rfl rfl (by kernel_rfl) (by decide) (by rfl) ?_ ?_
          rotate_left
          · go_simp
            rfl
          refine done_ (by kernel_rfl) ?_
          try go_wp2
          first | go_end0 | ((try simp only [Exit.inBlock, Exit.then]); refine bodyPost_ret (results_none rfl _ _ _) rfl ?_)
          exact ⟨rfl, _, _, at_, ev, ⟨Ak, ck, AY.out⟩, HEV.out.2.1, HEV.out.2.2⟩
end Go.Proofs.Ytneglmnffdmbiaa.P
