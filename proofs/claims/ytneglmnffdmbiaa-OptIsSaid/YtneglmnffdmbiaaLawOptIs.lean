/- Proved here: any plan that may be, of at most 60 steps of at most 60 extents, becomes the one that the document says, and stays as it is. No condition. -/
import Derived.Test.YtneglmnffdmbiaaRows
import Derived.Test.YtneglmnffdmbiaaOptRp
import Derived.Test.YtneglmnffdmbiaaPcofferdamlaw16copied
import Derived.Test.YtneglmnffdmbiaaOptAlive
import Derived.Test.YtneglmnffdmbiaaOptSame
import Derived.Test.YtneglmnffdmbiaaOptOpen
import Derived.Test.YtneglmnffdmbiaaAgain
import Derived.WalkKit
import Derived.ProofKit
import Derived.OpenShut
import Derived.ShutString
import Derived.ChangeOld
import Derived.Below
import Derived.SizedLaws
namespace Go.Proofs.Ytneglmnffdmbiaa.P
open Go.RowKit Go.Proofs.YtneglmnffdmbiaaW.PrintWords Go.Proofs.YtneglmnffdmbiaaW.PrintLast Go.Proofs.YtneglmnffdmbiaaW.PrintMore
set_option linter.unusedVariables false
set_option linter.unusedSimpArgs false

/-! a plan in lists of its own reads as it did -/
def Lens (L : List S34) : Prop := L.length ≤ 1000 ∧ ∀ p : Int, 0 ≤ p → p < (L.length : Int) → (rd_T34 L p).f3.length ≤ 100000 ∧ (rd_T34 L p).f4.length ≤ 100000 ∧ (rd_T34 L p).f8.length ≤ 100000 ∧ (rd_T34 L p).f9.length ≤ 100000
theorem drop_T34 (L : List S34) (i : Nat) (hi : i < L.length) : L.drop i = rd_T34 L (i : Int) :: L.drop (i + 1) := by
  rw [List.drop_eq_getElem_cons hi]
  simp [rd_T34, List.getD, hi]
theorem copied_l0 (L : List S34) (root : Int) (ro : Bool) (hL : Lens L) : ∀ (m i k : Nat) (acc : List S34), i ≤ L.length → L.length - i ≤ m → m < k → acc.length = i → cofferdamlaw16_copied.l0 k (i : Int) L root ro acc root ro = some (acc ++ L.drop i, root, ro)
  | m, i, 0, acc, _, _, h, _ => absurd h (Nat.not_lt_zero _)
  | m, i, k + 1, acc, h0, h1, h2, h3 => by
    have hn := hL.1
    rw [cofferdamlaw16_copied.l0]
    by_cases hc : (i : Int) < (L.length : Int)
    · have hi0 : (0 : Int) ≤ (i : Int) := Int.natCast_nonneg i
      have hil : i < L.length := by omega
      obtain ⟨l3, l4, l8, l9⟩ := hL.2 (i : Int) hi0 hc
      have ih := copied_l0 L root ro hL (m - 1) (i + 1) k (acc ++ [rd_T34 L (i : Int)]) hil (by clear l3 l4 l8 l9; omega) (by clear l3 l4 l8 l9; omega) (by rw [List.length_append, List.length_singleton, h3])
      have e1 : wrap64 ((i : Int) + 1) = ((i + 1 : Nat) : Int) := by clear l3 l4 l8 l9 ih; unfold wrap64; omega
      rw [List.append_assoc, List.singleton_append] at ih
      rw [if_pos hc, if_pos hi0, drop_T34 L i hil]
      generalize rd_T34 L (i : Int) = t at *
      have hacc : acc.length < 977343669134 := by clear ih l3 l4 l8 l9; omega
      have b3 : ([] : List S36).length + t.f3.length < 4398046511104 := by clear ih; rw [List.length_nil]; omega
      have b4 : ([] : List Int).length + t.f4.length < 17592186044416 := by clear ih; rw [List.length_nil]; omega
      have b8 : ([] : List Int).length + t.f8.length < 140737488355328 := by clear ih; rw [List.length_nil]; omega
      have b9 : ([] : List Int).length + t.f9.length < 140737488355328 := by clear ih; rw [List.length_nil]; omega
      rw [Option.bind_some, if_pos b4, Option.bind_some, if_pos b3, Option.bind_some, if_pos b8, Option.bind_some, if_pos b9, if_pos hacc, e1]
      exact ih
    · rw [if_neg hc, List.drop_eq_nil_of_le (by omega), List.append_nil]
theorem copied_same (L : List S34) (root : Int) (ro : Bool) (hL : Lens L) : cofferdamlaw16_copied.f 2000 L root ro = some (L, root, ro) := by
  unfold cofferdamlaw16_copied.f
  have hn := hL.1
  have := copied_l0 L root ro hL L.length 0 2000 [] (Nat.zero_le _) (by omega) (by omega) rfl
  rw [List.nil_append, List.drop_zero] at this
  exact this
theorem Lens.of {L : List S34} {root : Int} (h : BdOk L root) : Lens L := by
  obtain ⟨h60, hl, hr⟩ := h
  refine ⟨by omega, fun p p0 p1 => ?_⟩
  have a := hl p p0 p1
  have b := (hr.2.2.2 p p0 p1).2.2.2
  omega
theorem flat_len {f : S36 → List S36} {n : Nat} (hf : ∀ e, (f e).length ≤ n) : ∀ l : List S36, (l.flatMap f).length ≤ l.length * n
  | [] => Nat.zero_le _
  | x :: l => by
    have h1 := flat_len hf l
    have h2 := hf x
    rw [List.flatMap_cons, List.length_append, List.length_cons, Nat.succ_mul]
    omega
theorem refOk {L0 : List S34} {root : Int} (hb : Pk L0 root) : RefOk L0 root := by
  have hall := Inv.all hb L0.length (Nat.le_refl _)
  rw [List.take_length] at hall
  refine ⟨planOk hb, fun i hi => ?_, fun p => Nat.le_trans (hall.g.l3 p) (by omega)⟩
  have hI := Inv.all hb i (by omega)
  have hl := (hb.2.1 (i : Int) (by omega) (by omega)).1
  have hf : ∀ e, (fuseL (opt1 (L0.take i)).1 e).length ≤ 8192 := by
    intro e
    unfold fuseL
    split
    · exact Nat.le_trans (fuseK_len _ _) (hI.g.l3 _)
    · simp
  have h := flat_len hf ((rd_T34 L0 (i : Int)).f3.map (kidE (opt1 (L0.take i)).2))
  rw [List.length_map] at h
  have h2 : (rd_T34 L0 (i : Int)).f3.length * 8192 ≤ 60 * 8192 := Nat.mul_le_mul_right _ hl
  omega
theorem optG_mem (M : List S34) (V : Int → Bool) (p : Int) : rd_T34 (optG M V) p = z34 ∨ ∃ i : Nat, rd_T34 (optG M V) p = ren V (rd_T34 M (i : Int)) := by
  unfold optG
  show (List.map _ _).getD p.toNat z34 = z34 ∨ ∃ i : Nat, (List.map _ _).getD p.toNat z34 = _
  rw [List.getD_eq_getElem?_getD, List.getElem?_map]
  cases (idxV V M.length)[p.toNat]? with
  | none => exact .inl rfl
  | some i => exact .inr ⟨i, rfl⟩
theorem optL_lens {L : List S34} {root : Int} (hb : Pk L root) : (optL L root).length ≤ 1000 ∧ (∀ p : Int, (rd_T34 (optL L root) p).f3.length ≤ 10000000000) ∧ ∀ p : Int, (rd_T34 (optL L root) p).f4.length ≤ 10000000000 := by
  have hall := Inv.all hb L.length (Nat.le_refl _)
  rw [List.take_length] at hall
  refine ⟨?_, fun p => ?_, fun p => ?_⟩
  · unfold optL optG
    rw [List.length_map, idxV_len]
    have h1 := cnt_le (optV L root) (opt1 L).1.length
    have h2 := (opt1_len L).1
    have h3 := hb.1
    omega
  · unfold optL
    rcases optG_mem (opt1 L).1 (optV L root) p with h | ⟨i, h⟩
    · rw [h]; exact Nat.zero_le _
    · rw [h]
      show ((rd_T34 _ _).f3.map _).length ≤ _
      rw [List.length_map]
      exact Nat.le_trans (hall.g.l3 _) (by omega)
  · unfold optL
    rcases optG_mem (opt1 L).1 (optV L root) p with h | ⟨i, h⟩
    · rw [h]; exact Nat.zero_le _
    · rw [h]
      show ((rd_T34 _ _).f4.map _).length ≤ _
      rw [List.length_map]
      exact Nat.le_trans (hall.g.l4 _) (by omega)
theorem own_lens {L : List S34} {root : Int} (hb : BdOk L root) : (∀ p : Int, (rd_T34 L p).f3.length ≤ 10000000000) ∧ ∀ p : Int, (rd_T34 L p).f4.length ≤ 10000000000 := by
  have key : ∀ p : Int, (rd_T34 L p).f3.length ≤ 60 ∧ (rd_T34 L p).f4.length ≤ 60 := by
    intro p
    rw [rdT_nat]
    by_cases h : p.toNat < L.length
    · exact hb.2.1 _ (by omega) (by omega)
    · rw [rdT_out L _ (by omega)]
      exact ⟨Nat.zero_le _, Nat.zero_le _⟩
  exact ⟨fun p => Nat.le_trans (key p).1 (by omega), fun p => Nat.le_trans (key p).2 (by omega)⟩

set_option maxHeartbeats 64000000 in
set_option maxRecDepth 100000 in
theorem optIs_calls (A : Option Addr) (c : Nat) (L : List S34) (root : Int) (ro : Bool) (D : Option Addr) (cd : Nat) (dv : List Int) (w : World) (hA : Kd.C k34 w A L.length L) (hc : L.length ≤ c) (hD : Kd.C (Kd.int .i64) w D dv.length dv) (hcd : dv.length ≤ cd) (hdl : dv.length ≤ 9223372036854775807) :
    Calls Try.prog 3 #[.agg #[.slice A L.length c, .int .i64 root, .bool ro], .slice D dv.length cd] w fun e w' => e = .returned (.bool true) ∧ Below w.heap.size w w' := by
  have HA := Aside0.mk hA
  have HD := Aside0.mk hD
  clear hA hD
  go_enter Try.func3, Try.ntmps3
  go_upto_region 1 with (fail)
  have h3 := blk_new w (.cells #[.slice A L.length c, .int .i64 root, .bool ro] 24 (0, 0))
  have hb0 := below_alloc (Below.refl w.heap.size w) (.cells #[.slice A L.length c, .int .i64 root, .bool ro] 24 (0, 0))
  have H3 := Aside0.mk h3
  have HB0 := Aside0.mk hb0
  clear h3 hb0
  generalize w.alloc (.cells #[.slice A L.length c, .int .i64 root, .bool ro] 24 (0, 0)) = W0 at *
  obtain ⟨b3, hb3⟩ : ∃ b, b = w.heap.size := ⟨_, rfl⟩
  rw [← hb3] at H3 ⊢
  clear hb3
  have x0 : W0.cell? ⟨b3, 0, none⟩ = some (.slice A L.length c) := (blk_cell H3.out 0).trans rfl
  have x1 : W0.cell? ⟨b3, 1, none⟩ = some (.int .i64 root) := (blk_cell H3.out 1).trans rfl
  have x2 : W0.cell? ⟨b3, 2, none⟩ = some (.bool ro) := (blk_cell H3.out 2).trans rfl
  have HBD := Aside0.mk (bound_calls A c L root ro D cd dv W0 (Kd.C_below HA.out HB0.out) hc (Kd.C_below HD.out HB0.out) hcd hdl)
  go_upto_if 14 with (go_at_call 6; (with_reducible refine HBD.out.mono ?_); rintro e w5 ⟨⟨b, rfl, hb⟩, hb5⟩; have HB5 := Aside0.mk (HB0.out.trans (hb5.mono HB0.out.size)); have HBY := Aside0.mk hb; have H35 := Aside0.mk (blk_below H3.out hb5); clear hb hb5)
  clear x0 x1 x2
  cases b with
  | false =>
    go_wp2_with (go_at_call 7; (with_reducible refine (alive_calls _).mono ?_); rintro e w6 ⟨rfl, hb6⟩; have HB6 := Aside0.mk (HB5.out.trans (hb6.mono HB5.out.size)); clear hb6)
    first | go_end0 | ((try simp only [Exit.inBlock, Exit.then]); refine bodyPost_ret (results_tmp rfl _ _ _) rfl ?_)
    exact ⟨rfl, HB6.out⟩
  | true =>
    have hok : BdOk L root := HBY.out rfl
    have HOK := Aside0.mk hok
    have hl60 := hok.1
    have HPO := Aside0.mk (planOk (.of hok))
    have HRO := Aside0.mk (refOk (.of hok))
    have HQL := Aside0.mk (optL_lens (.of hok))
    have HLL := Aside0.mk (own_lens hok)
    clear hok HBD
    have x0 : w5.cell? ⟨b3, 0, none⟩ = some (.slice A L.length c) := (blk_cell H35.out 0).trans rfl
    have x1 : w5.cell? ⟨b3, 1, none⟩ = some (.int .i64 root) := (blk_cell H35.out 1).trans rfl
    have x2 : w5.cell? ⟨b3, 2, none⟩ = some (.bool ro) := (blk_cell H35.out 2).trans rfl
    have HCP := Aside0.mk (fun (W : World) (hW : Kd.C k34 W A L.length L) => cofferdamlaw16_copied.calls 2000 A c L root ro L root ro W hW hc (copied_same L root ro (.of HOK.out)))
    have HOP := Aside0.mk (fun (A8 : Option Addr) (c8 : Nat) (W : World) (hW : Kd.C k34 W A8 L.length L) (h8 : L.length ≤ c8) => optimize_calls A8 c8 L root ro W hW h8 HPO.out)
    have HRF := Aside0.mk (fun (A8 : Option Addr) (c8 : Nat) (W : World) (hW : Kd.C k34 W A8 L.length L) (h8 : L.length ≤ c8) => refopt_calls A8 c8 L root ro W hW h8 HRO.out)
    generalize optL L root = q at *
    generalize optR L root = qr at *
    go_upto_region 5 with (go_at_call 8; (with_reducible refine (HCP.out _ (Kd.C_below HA.out HB5.out)).mono ?_); rintro e w6 ⟨v0, rfl, hS, hb6⟩; obtain ⟨Av, cv, rfl, hlv, hCv⟩ := Kd.N_reads (Kd.S_N hS); have HCv' := Aside0.mk hCv; have HB6' := Aside0.mk (HB5.out.trans (hb6.mono HB5.out.size)); have H36' := Aside0.mk (blk_below H35.out hb6); clear hS hb6 hCv x0 x1 x2)
    have ha := below_alloc (Below.refl w6.heap.size w6) (.cells #[.slice Av L.length cv, .int .i64 root, .bool ro] 24 (0, 0))
    have H66 := Aside0.mk (blk_new w6 (.cells #[.slice Av L.length cv, .int .i64 root, .bool ro] 24 (0, 0)))
    have H36 := Aside0.mk (blk_below H36'.out ha)
    have HCv := Aside0.mk (Kd.C_below HCv'.out ha)
    have HB6 := Aside0.mk (HB6'.out.trans (ha.mono HB6'.out.size))
    clear ha
    generalize w6.alloc (.cells #[.slice Av L.length cv, .int .i64 root, .bool ro] 24 (0, 0)) = W6 at *
    obtain ⟨b6, hb6⟩ : ∃ b, b = w6.heap.size := ⟨_, rfl⟩
    rw [← hb6] at H66 ⊢
    clear hb6
    have z0 : W6.cell? ⟨b6, 0, none⟩ = some (.slice Av L.length cv) := (blk_cell H66.out 0).trans rfl
    have z1 : W6.cell? ⟨b6, 1, none⟩ = some (.int .i64 root) := (blk_cell H66.out 1).trans rfl
    have z2 : W6.cell? ⟨b6, 2, none⟩ = some (.bool ro) := (blk_cell H66.out 2).trans rfl
    go_upto_region 6 with (go_at_call 9; (with_reducible refine (HOP.out _ _ _ HCv.out hlv).mono ?_); rintro e w7 ⟨v7, rfl, ⟨A7, c7, rfl, hl7, hC7⟩, hb7⟩; have HC7' := Aside0.mk hC7; have HB7 := Aside0.mk (HB6.out.trans (hb7.mono HB6.out.size)); have H37 := Aside0.mk (blk_below H36.out hb7); have H67 := Aside0.mk (blk_below H66.out hb7); have HCv7 := Aside0.mk (Kd.C_below HCv.out hb7); clear hb7 hC7 z0 z1 z2)
    have ha := below_alloc (Below.refl w7.heap.size w7) (.cells #[.slice A7 q.length c7, .int .i64 qr, .bool ro] 24 (0, 0))
    have H7_w10 := Aside0.mk (blk_new w7 (.cells #[.slice A7 q.length c7, .int .i64 qr, .bool ro] 24 (0, 0)))
    have H3_w10 := Aside0.mk (blk_below H37.out ha)
    have H6_w10 := Aside0.mk (blk_below H67.out ha)
    have HC_w10 := Aside0.mk (Kd.C_below HC7'.out ha)
    have HV_w10 := Aside0.mk (Kd.C_below HCv7.out ha)
    have HB_w10 := Aside0.mk (HB7.out.trans (ha.mono HB7.out.size))
    clear ha
    generalize w7.alloc (.cells #[.slice A7 q.length c7, .int .i64 qr, .bool ro] 24 (0, 0)) = w10 at *
    obtain ⟨b7, hb7⟩ : ∃ b, b = w7.heap.size := ⟨_, rfl⟩
    rw [← hb7] at H7_w10 ⊢
    clear hb7
    refine start_ (n := 6) (S := fun w' => w'.cell? ⟨b7, 0, none⟩ = some (.slice A7 q.length c7) ∧ w'.cell? ⟨b7, 1, none⟩ = some (.int .i64 qr) ∧ w'.cell? ⟨b7, 2, none⟩ = some (.bool ro) ∧ w'.cell? ⟨b3, 0, none⟩ = some (.slice A L.length c) ∧ w'.cell? ⟨b3, 1, none⟩ = some (.int .i64 root) ∧ w'.cell? ⟨b3, 2, none⟩ = some (.bool ro)) (ds := []) #[false, false, false, false, false, false] (by kernel_rfl) rfl rfl ?hS (fun hHeld => ?_)
    case hS => exact ⟨(blk_cell H7_w10.out 0).trans rfl, (blk_cell H7_w10.out 1).trans rfl, (blk_cell H7_w10.out 2).trans rfl, (blk_cell H3_w10.out 0).trans rfl, (blk_cell H3_w10.out 1).trans rfl, (blk_cell H3_w10.out 2).trans rfl⟩
    have HB_W3 := Aside0.mk (show Below w.heap.size w w10.drew from below_drew HB_w10.out)
    have H3_W3 := Aside0.mk (blk_drew H3_w10.out)
    have H6_W3 := Aside0.mk (blk_drew H6_w10.out)
    have H7_W3 := Aside0.mk (blk_drew H7_w10.out)
    have HC_W3 : Aside0 (Kd.C k34 w10.drew A7 q.length q) := ⟨Kd.C_below HC_w10.out (below_drew (Below.refl _ _))⟩
    have HV_W3 : Aside0 (Kd.C k34 w10.drew Av L.length L) := ⟨Kd.C_below HV_w10.out (below_drew (Below.refl _ _))⟩
    refine take_ (i := 0) (N := some 20) (v := ?_) (a' := ?_) #[true, false, false, false, false, false] rfl rfl (by kernel_rfl) (fun _ _ _ h => h) (Or.inl ⟨by rfl, ?_⟩) hHeld ?_ ?_
    rotate_left
    · rintro w' ⟨s0, s1, s2, s3, s4, s5⟩
      go_simp
      with_reducible rfl
    rotate_left
    · simp only [Act.put, List.setIfInBounds_toArray, List.set_cons_zero, List.set_cons_succ]
      rfl
    refine take_ (i := 1) (N := some 21) (v := ?_) (a' := ?_) #[true, true, false, false, false, false] rfl rfl (by kernel_rfl) (fun _ _ _ h => h) (Or.inl ⟨by rfl, ?_⟩) hHeld ?_ ?_
    rotate_left
    · rintro w' ⟨s0, s1, s2, s3, s4, s5⟩
      go_simp
      with_reducible rfl
    rotate_left
    · simp only [Act.put, List.setIfInBounds_toArray, List.set_cons_zero, List.set_cons_succ]
      rfl
    refine one_ (i := 2) (N := some 22) #[true, true, true, false, false, false] rfl rfl (by kernel_rfl) (by decide) (fun K hK => ?_)
    refine goes_ Try.func8 (by kernel_rfl) rfl #[.agg #[.slice A L.length c, .int .i64 root, .bool ro]] (by rfl) rfl rfl (by first | rfl | (simp [Act.eval]; done) | (go_simp; done)) ?_
    refine (HCP.out _ (Kd.C_below HA.out HB_W3.out)).mono ?_
    rintro e w11 ⟨v8, rfl, hS8, hb_⟩
    obtain ⟨A8, c8, rfl, l8, C8⟩ := Kd.N_reads (Kd.S_N hS8)
    have HC8 := Aside0.mk C8
    clear C8 hS8
    have HB_w11 := Aside0.mk (HB_W3.out.trans (hb_.mono HB_W3.out.size))
    have H3_w11 := Aside0.mk (blk_below H3_W3.out hb_)
    have H6_w11 := Aside0.mk (blk_below H6_W3.out hb_)
    have H7_w11 := Aside0.mk (blk_below H7_W3.out hb_)
    have HC_w11 := Aside0.mk (Kd.C_below HC_W3.out hb_)
    have HV_w11 := Aside0.mk (Kd.C_below HV_W3.out hb_)
    refine ⟨_, rfl, ?_⟩
    refine hK.out _ _ ⟨(blk_cell H7_w11.out 0).trans rfl, (blk_cell H7_w11.out 1).trans rfl, (blk_cell H7_w11.out 2).trans rfl, (blk_cell H3_w11.out 0).trans rfl, (blk_cell H3_w11.out 1).trans rfl, (blk_cell H3_w11.out 2).trans rfl⟩ (fun hHeld => ?_)
    clear hK K
    refine norm_ (a' := ?_) ?_ ?_
    rotate_left
    · simp only [Act.put, List.setIfInBounds_toArray, List.set_cons_zero, List.set_cons_succ]
      rfl
    refine one_ (i := 3) (N := some 23) #[true, true, true, true, false, false] rfl rfl (by kernel_rfl) (by decide) (fun K hK => ?_)
    refine goes_ Try.func11 (by kernel_rfl) rfl #[.agg #[.slice A8 L.length c8, .int .i64 root, .bool ro]] (by rfl) rfl rfl (by first | rfl | (simp [Act.eval]; done) | (go_simp; done)) ?_
    refine (HRF.out A8 c8 w11 HC8.out l8).mono ?_
    rintro e w12 ⟨v9, rfl, ⟨A9, c9, rfl, l9, C9⟩, hb_⟩
    have HC9 := Aside0.mk C9
    clear C9
    have HB_w12 := Aside0.mk (HB_w11.out.trans (hb_.mono HB_w11.out.size))
    have H3_w12 := Aside0.mk (blk_below H3_w11.out hb_)
    have H6_w12 := Aside0.mk (blk_below H6_w11.out hb_)
    have H7_w12 := Aside0.mk (blk_below H7_w11.out hb_)
    have HC_w12 := Aside0.mk (Kd.C_below HC_w11.out hb_)
    have HV_w12 := Aside0.mk (Kd.C_below HV_w11.out hb_)
    refine ⟨_, rfl, ?_⟩
    refine hK.out _ _ ⟨(blk_cell H7_w12.out 0).trans rfl, (blk_cell H7_w12.out 1).trans rfl, (blk_cell H7_w12.out 2).trans rfl, (blk_cell H3_w12.out 0).trans rfl, (blk_cell H3_w12.out 1).trans rfl, (blk_cell H3_w12.out 2).trans rfl⟩ (fun hHeld => ?_)
    clear hK K
    refine norm_ (a' := ?_) ?_ ?_
    rotate_left
    · simp only [Act.put, List.setIfInBounds_toArray, List.set_cons_zero, List.set_cons_succ]
      rfl
    refine one_ (i := 4) (N := some 24) #[true, true, true, true, true, false] rfl rfl (by kernel_rfl) (by decide) (fun K hK => ?_)
    refine goes_ Try.func10 (by kernel_rfl) rfl #[.agg #[.slice A7 q.length c7, .int .i64 qr, .bool ro], .agg #[.slice A9 q.length c9, .int .i64 qr, .bool ro]] (by rfl) rfl rfl (by first | rfl | (simp [Act.eval]; done) | (go_simp; done)) ?_
    refine (same_calls A7 c7 A9 c9 q qr ro w12 HC_w12.out HC9.out hl7 l9 (by have := HQL.out.1; omega) HQL.out.2.1 HQL.out.2.2).mono ?_
    rintro e w13 ⟨rfl, hb_⟩
    have HB_w13 := Aside0.mk (HB_w12.out.trans (hb_.mono HB_w12.out.size))
    have H3_w13 := Aside0.mk (blk_below H3_w12.out hb_)
    have H6_w13 := Aside0.mk (blk_below H6_w12.out hb_)
    have H7_w13 := Aside0.mk (blk_below H7_w12.out hb_)
    have HC_w13 := Aside0.mk (Kd.C_below HC_w12.out hb_)
    have HV_w13 := Aside0.mk (Kd.C_below HV_w12.out hb_)
    refine ⟨_, rfl, ?_⟩
    refine hK.out _ _ ⟨(blk_cell H7_w13.out 0).trans rfl, (blk_cell H7_w13.out 1).trans rfl, (blk_cell H7_w13.out 2).trans rfl, (blk_cell H3_w13.out 0).trans rfl, (blk_cell H3_w13.out 1).trans rfl, (blk_cell H3_w13.out 2).trans rfl⟩ (fun hHeld => ?_)
    clear hK K
    refine norm_ (a' := ?_) ?_ ?_
    rotate_left
    · simp only [Act.put, List.setIfInBounds_toArray, List.set_cons_zero, List.set_cons_succ]
      rfl
    refine pure_ (i := 5) (N := some 8) (v := ?_) (a' := ?_) #[true, true, true, true, true, true] rfl rfl (by kernel_rfl) (fun _ _ _ h => h) (Or.inl ⟨by rfl, ?_⟩) ?_ ?_
    rotate_left
    · intro w'
      go_simp
      with_reducible rfl
    rotate_left
    · simp only [Act.put, List.setIfInBounds_toArray, List.set_cons_zero, List.set_cons_succ]
      rfl
    refine done_ (by kernel_rfl) ?_
    have y0 : w13.cell? ⟨b6, 0, none⟩ = some (.slice Av L.length cv) := (blk_cell H6_w13.out 0).trans rfl
    have y1 : w13.cell? ⟨b6, 1, none⟩ = some (.int .i64 root) := (blk_cell H6_w13.out 1).trans rfl
    have y2 : w13.cell? ⟨b6, 2, none⟩ = some (.bool ro) := (blk_cell H6_w13.out 2).trans rfl
    have x0 : w13.cell? ⟨b3, 0, none⟩ = some (.slice A L.length c) := (blk_cell H3_w13.out 0).trans rfl
    have x1 : w13.cell? ⟨b3, 1, none⟩ = some (.int .i64 root) := (blk_cell H3_w13.out 1).trans rfl
    have x2 : w13.cell? ⟨b3, 2, none⟩ = some (.bool ro) := (blk_cell H3_w13.out 2).trans rfl
    have HSM := Aside0.mk (same_calls Av cv A c L root ro w13 HV_w13.out (Kd.C_below HA.out HB_w13.out) hlv hc (by omega) HLL.out.1 HLL.out.2)
    go_wp2_with (first | (go_at_call 10; (with_reducible refine HSM.out.mono ?_); rintro e w14 ⟨rfl, hb14⟩; have HB14 := Aside0.mk (HB_w13.out.trans (hb14.mono HB_w13.out.size)); clear hb14) | (go_at_call 7; (with_reducible refine (alive_calls _).mono ?_); rintro e w15 ⟨rfl, hb15⟩; have HB15 := Aside0.mk (HB14.out.trans (hb15.mono HB14.out.size)); clear hb15))
    repeat (go_quiet (fail); try go_wp2)
    first | go_end0 | ((try simp only [Exit.inBlock, Exit.then]); refine bodyPost_ret (results_tmp rfl _ _ _) rfl ?_)
    exact ⟨rfl, HB15.out⟩
end Go.Proofs.Ytneglmnffdmbiaa.P
namespace Go.Proofs.Ytneglmnffdmbiaa.optIs
open Go.ChangeShapes Go.WideShapes Go.ChangeAt Go.RowKit
set_option linter.unusedVariables false
theorem own : ownKnob Try.prog.godebug = none := by kernel_rfl
set_option maxRecDepth 100000 in
theorem lifted (os : Os) (started : os.Started) (H : Type) (enc : TypeId × Value → H) :
    ReturnsInHanded {} Try.checked os 3 .any (Rows.optIsSpec.pre6 enc Try.prog Try.f3 Rows.optIsRow.domain false) (Rows.optIsSpec.post enc Try.prog Try.f3 false true false false) := by
  refine returnsInHanded_of_change_sized (C := Try.checked) own started (by kernel_rfl) Try.func3
    (ChangeSpec.witness6 (enc := enc) (C := Try.checked) false ⟨#[], #[.agg #[.slice none 0 0, .int .i64 0, .bool false], .slice none 0 0], []⟩ 8 (by kernel_rfl) (by kernel_rfl) (by kernel_rfl) (by kernel_rfl)) ?_
  intro W base args ds gs before hval0 hW hcnd hsz0 _
  have hval : ∀ (j : Nat) t v, Try.f3.params[j]? = some t → args[j]? = some v → Value.okWide Try.prog W .any base t v := hval0
  have hW' := hW
  obtain ⟨p, q, hA0, hV, rfl, hfz, hnd⟩ := hW
  have hA : DataW.TrodAll enc Try.prog W 0 (fun _ => true) true Try.f3.params.toList args.toList ds p := hA0
  have hT : ∀ t ∈ Try.f3.params.toList, t < Try.prog.types.size := of_decide_eq_true (by kernel_rfl)
  have hAk := fun (W' : World) (hb : Below W.heap.size W W') => Rd.again hT hA hb
  rw [Try.params3] at hA hval
  obtain ⟨v0, vs0, d0, ds0, p0, q0, hargs, rfl, rfl, h0, r0⟩ := trodAll_cons hA
  obtain ⟨v1, vs1, d1, ds1, p1, q1, rfl, rfl, rfl, h1, r1⟩ := trodAll_cons r0
  obtain ⟨rfl, rfl, rfl⟩ := trodAll_nil r1
  obtain rfl : args = #[v0, v1] := by cases args; simp_all
  obtain ⟨rfl, rfl⟩ := trodVars_none hV
  obtain ⟨cs0, e0, _⟩ := okWide_struct Try.underlying24 (hval 0 24 v0 rfl rfl)
  obtain ⟨A1, n1, c1, e1⟩ := okWide_slice Try.underlying25 (hval 1 25 v1 rfl rfl)
  obtain ⟨A, c, L, root, ro, g0, hc, hC⟩ := P.open_plan h0 ⟨cs0, e0⟩
  obtain ⟨D, cd, dv, g1, hcd, hcd2, hD⟩ := P.open_ints h1 ⟨A1, n1, c1, e1⟩
  clear hA0 hval0 hsz0 e0 e1 hval
  subst g0 g1
  refine (P.optIs_calls A c L root ro D cd dv W hC hc hD hcd (Nat.le_trans hcd hcd2)).mono fun e W' ⟨he, bel⟩ => ?_
  subst he
  exact ⟨_, rfl, _, _, _, [], _, [], hW', trodAll_mk1 (shut_bool Try.underlying4 _), hAk W' bel, rfl, bel.frame _, fun h => by cases h⟩
theorem over : Rows.optIsRow.holds Try.pinned (OpenSpec.ofChange Rows.optIsSpec) :=
  OpenClaim.holds_of_wide 3 Try.f3 rfl rfl rfl rfl rfl rfl rfl ⟨rfl, rfl, rfl, rfl, rfl⟩ rfl rfl rfl rfl rfl (by kernel_rfl) Try.func3 (by kernel_rfl)
    (of_decide_eq_true (by kernel_rfl)) (by unfold Func.isWrapper; first | (rw [if_pos (by decide +kernel)]; kernel_rfl) | (rw [if_neg (by decide +kernel)]; exact ⟨rfl, rfl⟩))
    (fun os started H enc _ => lifted os started H enc)
theorem proved : Rows.OptIsSaid := over
#print axioms proved
end Go.Proofs.Ytneglmnffdmbiaa.optIs
namespace Go.Proofs.Ytneglmnffdmbiaa
/-- The row, under a short name, for the claim. -/
theorem optIs_holds : Rows.OptIsSaid := optIs.proved
end Go.Proofs.Ytneglmnffdmbiaa
