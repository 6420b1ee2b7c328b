import Derived.Test.YtligdimpdcloeaaShare1
namespace Go.Proofs.Ytligdimpdcloeaa.P
open Go.RowKit Go.Proofs.YtligdimpdcloeaaW.PrintWords Go.Proofs.YtligdimpdcloeaaW.PrintLast Go.Proofs.YtligdimpdcloeaaW.PrintMore
set_option linter.unusedVariables false
set_option linter.unusedSimpArgs false

/-- A range: a device, where it begins, how many sectors. -/
abbrev R3 := Int × Int × Int
/-- The cells of a row of ranges, three a range. -/
def Reads3 (w : World) (A : Addr) (l : List R3) : Prop := ∀ i, i < l.length → w.cell? (A.add (i * 3)) = some (.int .i64 (l.getD i (0, 0, 0)).1) ∧ w.cell? ⟨(A.add (i * 3)).block, (A.add (i * 3)).off + 1, none⟩ = some (.int .i64 (l.getD i (0, 0, 0)).2.1) ∧ w.cell? ⟨(A.add (i * 3)).block, (A.add (i * 3)).off + 2, none⟩ = some (.int .i64 (l.getD i (0, 0, 0)).2.2)
theorem Reads3.below {w w' : World} {A : Addr} {l : List R3} (h : Reads3 w A l) (hb : Below w.heap.size w w') : Reads3 w' A l := by
  intro i hi
  obtain ⟨h0, h1, h2⟩ := h i hi
  exact ⟨(hb.cell (World.block_lt_of_cell? _ _ h0)).trans h0, (hb.cell (World.block_lt_of_cell? _ _ h1)).trans h1, (hb.cell (World.block_lt_of_cell? _ _ h2)).trans h2⟩
def share3 (a b : R3) : Bool := shareB a.1 a.2.1 a.2.2 b.1 b.2.1 b.2.2
/-- The first i below j from k on that shares with j. -/
def ovI (l : List R3) (j : Nat) : Nat → Nat → Option Nat
  | 0, _ => none
  | f + 1, i => if i < j then (if share3 (l.getD i (0, 0, 0)) (l.getD j (0, 0, 0)) = true then some i else ovI l j f (i + 1)) else none
def ovJ (l : List R3) : Nat → Nat → Option (Nat × Nat)
  | 0, _ => none
  | f + 1, j => if j < l.length then (match ovI l j (j + 1) 0 with | some i => some (i, j) | none => ovJ l f (j + 1)) else none
theorem ovI_yes {l : List R3} {i j : Nat} (h : i < j) (hs : share3 (l.getD i (0, 0, 0)) (l.getD j (0, 0, 0)) = true) : ovI l j (j + 1 - i) i = some i := by
  obtain ⟨f, hf⟩ : ∃ f, j + 1 - i = f + 1 := ⟨j - i, by omega⟩
  rw [hf, ovI, if_pos h, if_pos hs]
theorem ovI_no {l : List R3} {i j : Nat} (h : i < j) (hs : share3 (l.getD i (0, 0, 0)) (l.getD j (0, 0, 0)) = false) : ovI l j (j + 1 - i) i = ovI l j (j + 1 - (i + 1)) (i + 1) := by
  obtain ⟨f, hf⟩ : ∃ f, j + 1 - i = f + 1 := ⟨j - i, by omega⟩
  rw [hf, ovI, if_pos h, if_neg (by rw [hs]; decide), show j + 1 - (i + 1) = f by omega]
theorem ovI_end (l : List R3) (j : Nat) : ovI l j (j + 1 - j) j = none := by
  rw [show j + 1 - j = 0 + 1 by omega, ovI, if_neg (Nat.lt_irrefl _)]
theorem ovJ_yes {l : List R3} {i j : Nat} (h : j < l.length) (hi : ovI l j (j + 1) 0 = some i) : ovJ l (l.length + 1 - j) j = some (i, j) := by
  obtain ⟨f, hf⟩ : ∃ f, l.length + 1 - j = f + 1 := ⟨l.length - j, by omega⟩
  rw [hf, ovJ, if_pos h, hi]
theorem ovJ_no {l : List R3} {j : Nat} (h : j < l.length) (hi : ovI l j (j + 1) 0 = none) : ovJ l (l.length + 1 - j) j = ovJ l (l.length + 1 - (j + 1)) (j + 1) := by
  obtain ⟨f, hf⟩ : ∃ f, l.length + 1 - j = f + 1 := ⟨l.length - j, by omega⟩
  rw [hf, ovJ, if_pos h, hi, show l.length + 1 - (j + 1) = f by omega]
theorem ovJ_end (l : List R3) {j : Nat} (h : ¬ j < l.length) : ∀ f, ovJ l f j = none
  | 0 => rfl
  | f + 1 => by rw [ovJ, if_neg h]
def ovR (o : Option (Nat × Nat)) : Value := match o with | some (i, j) => .tuple #[.int .i64 (i : Nat), .int .i64 (j : Nat)] | none => .tuple #[.int .i64 (-1), .int .i64 (-1)]

set_option maxHeartbeats 8000000 in
set_option maxRecDepth 100000 in
theorem overlap_calls (A : Addr) (c : Nat) (l : List R3) (hl : l.length ≤ 100000) (hc : l.length ≤ c) (w : World) (h : Reads3 w A l) :
    Calls Try.prog 15 #[.slice (some A) l.length c] w fun e w' => e = .returned (ovR (ovJ l (l.length + 1) 0)) ∧ Below w.heap.size w w' := by
  go_enter Try.func15, Try.ntmps15
  go_wp2
  have HR := Aside0.mk h
  clear h
  go_loopg [10] (l.length + 1) (fun kx v10 wr => ∃ j : Nat, j ≤ l.length ∧ l.length - j + 1 ≤ kx ∧ v10 = .int .i64 j ∧ Aside0 (Below w.heap.size w wr) ∧ Aside0 (ovJ l (l.length + 1 - j) j = ovJ l (l.length + 1) 0))
  case atStart => exact ⟨0, Nat.zero_le _, by omega, rfl, ⟨Below.refl _ _⟩, ⟨rfl⟩⟩
  case round =>
    obtain ⟨j, hj, hg, rfl, HB, HO⟩ := hrel
    by_cases hlt : j < l.length
    · have hd : decide ((j : Int) < (l.length : Int)) = true := decide_eq_true (by omega)
      obtain ⟨k0, k1, k2⟩ := (HR.out.below HB.out) j hlt
      have q1 : j ≤ c := by omega
      have q2 : (j : Int) ≤ (c : Int) := by omega
      have q3 : (0 : Int) ≤ (j : Int) := by omega
      generalize hb : l.getD j (0, 0, 0) = b at k0 k1 k2
      go_wp2
      have z0 := blk_new wr (.cells #[.int .i64 b.1, .int .i64 b.2.1, .int .i64 b.2.2] 33 (0, 0))
      have z1 : Below w.heap.size w (wr.alloc (.cells #[.int .i64 b.1, .int .i64 b.2.1, .int .i64 b.2.2] 33 (0, 0))) := below_alloc HB.out _
      have z2 : (wr.alloc (.cells #[.int .i64 b.1, .int .i64 b.2.1, .int .i64 b.2.2] 33 (0, 0))).heap.size = wr.heap.size + 1 := World.size_alloc _ _
      generalize wr.alloc (.cells #[.int .i64 b.1, .int .i64 b.2.1, .int .i64 b.2.2] 33 (0, 0)) = W1 at *
      generalize wr.heap.size = BJ at *
      have Z0 := Aside0.mk z0
      have Z1 := Aside0.mk z1
      have Z2 := Aside0.mk z2
      clear z0 z1 z2 k0 k1 k2 HB
      go_loopg [19] (j + 1) (fun kx v19 w2 => ∃ i : Nat, i ≤ j ∧ j - i + 1 ≤ kx ∧ v19 = .int .i64 i ∧ Aside0 (Below W1.heap.size W1 w2) ∧ Aside0 (ovI l j (j + 1 - i) i = ovI l j (j + 1) 0))
      case atStart => exact ⟨0, Nat.zero_le _, by omega, rfl, ⟨Below.refl _ _⟩, ⟨rfl⟩⟩
      case round =>
        obtain ⟨i, hi, hg2, rfl, HB2, HI⟩ := hrel
        have hAB : Below w.heap.size w wr := Z1.out.trans (HB2.out.mono Z1.out.size)
        have kb : wr.heap[BJ]? = some (.cells #[.int .i64 b.1, .int .i64 b.2.1, .int .i64 b.2.2] 33 (0, 0)) := by rw [HB2.out.block _ (by have := Z2.out; omega)]; exact Z0.out
        have kb0 : wr.cell? ⟨BJ, 0, none⟩ = some (.int .i64 b.1) := (blk_cell kb 0).trans rfl
        have kb1 : wr.cell? ⟨BJ, 1, none⟩ = some (.int .i64 b.2.1) := (blk_cell kb 1).trans rfl
        have kb2 : wr.cell? ⟨BJ, 2, none⟩ = some (.int .i64 b.2.2) := (blk_cell kb 2).trans rfl
        clear kb
        by_cases hlt2 : i < j
        · have hd2 : decide ((i : Int) < (j : Int)) = true := decide_eq_true (by omega)
          obtain ⟨k0, k1, k2⟩ := (HR.out.below hAB) i (by omega)
          have hyes := ovI_yes (l := l) hlt2
          have hno := ovI_no (l := l) hlt2
          rw [hb] at hyes hno
          generalize l.getD i (0, 0, 0) = a at k0 k1 k2 hyes hno
          have ac : ∀ (o : Nat) (v : Value), wr.cell? ⟨BJ, o, none⟩ = some v → (wr.alloc (.cells #[.int .i64 a.1, .int .i64 a.2.1, .int .i64 a.2.2] 33 (0, 0))).cell? ⟨BJ, o, none⟩ = some v := fun o v hv => (((Below.refl wr.heap.size wr).alloc (Nat.le_refl _) _).cell (p := ⟨BJ, o, none⟩) (World.block_lt_of_cell? _ _ hv)).trans hv
          have kb0' := ac 0 _ kb0
          have kb1' := ac 1 _ kb1
          have kb2' := ac 2 _ kb2
          clear ac
          have HAB := Aside0.mk hAB
          have HSC := Aside0.mk (fun w => share_calls a.1 a.2.1 a.2.2 b.1 b.2.1 b.2.2 w)
          clear hAB
          cases hS : share3 a b
          · have hS' : shareB a.1 a.2.1 a.2.2 b.1 b.2.1 b.2.2 = false := hS
            rw [hS'] at HSC
            have HN := Aside0.mk (hno hS)
            clear hyes hno hS hS'
            go_wp2_with (go_at_call 22; refine (HSC.out _).mono ?_; rintro e w5 ⟨rfl, hb5⟩; have HB5 := Aside0.mk hb5; clear hb5)
            go_roundg (j - (i + 1) + 1)
            case rel => exact ⟨i + 1, by omega, Nat.le_refl _, by go_num, ⟨HB2.out.trans ((below_alloc (Below.refl _ _) _).mono HB2.out.size |>.trans (HB5.out.mono (by have := HB2.out.size; rw [World.size_alloc]; omega)))⟩, ⟨by rw [← HI.out, HN.out]⟩⟩
            case measure => omega
          · have hS' : shareB a.1 a.2.1 a.2.2 b.1 b.2.1 b.2.2 = true := hS
            rw [hS'] at HSC
            have HN := Aside0.mk (hyes hS)
            clear hyes hno hS hS'
            go_wp2_with (go_at_call 22; refine (HSC.out _).mono ?_; rintro e w5 ⟨rfl, hb5⟩; have HB5 := Aside0.mk hb5; clear hb5)
            go_ret2
            refine ⟨?_, (below_alloc HAB.out _).trans (HB5.out.mono (by have := HAB.out.size; rw [World.size_alloc]; omega))⟩
            rw [← HO.out, ovJ_yes hlt (by rw [← HI.out, HN.out])]
            rfl
        · have hd2 : decide ((i : Int) < (j : Int)) = false := decide_eq_false (by omega)
          have hij : i = j := by omega
          subst hij
          have HN := Aside0.mk (show ovI l i (i + 1) 0 = none by rw [← HI.out]; exact ovI_end l i)
          have HAB := Aside0.mk hAB
          clear kb0 kb1 kb2 hAB
          go_wp2
          go_roundg (l.length - (i + 1) + 1)
          case rel => exact ⟨i + 1, by omega, Nat.le_refl _, by go_num, ⟨HAB.out⟩, ⟨by rw [← HO.out, ovJ_no hlt HN.out]⟩⟩
          case measure => omega
    · have hd : decide ((j : Int) < (l.length : Int)) = false := decide_eq_false (by omega)
      go_wp2
      go_ret2
      refine ⟨?_, HB.out⟩
      rw [← HO.out, ovJ_end l hlt]
      rfl
end Go.Proofs.Ytligdimpdcloeaa.P
