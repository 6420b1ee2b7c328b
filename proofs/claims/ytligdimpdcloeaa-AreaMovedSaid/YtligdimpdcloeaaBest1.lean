import Derived.Test.YtligdimpdcloeaaP0
import Derived.Shelf.Abstract
import Derived.Deep.LoopGhost
import Derived.Deep.Draws
import Derived.Deep.QuietTactic
namespace Go.Proofs.Ytligdimpdcloeaa.P
open Go.RowKit Go.Proofs.YtligdimpdcloeaaW.PrintWords Go.Proofs.YtligdimpdcloeaaW.PrintLast Go.Proofs.YtligdimpdcloeaaW.PrintMore
set_option linter.unusedVariables false
set_option linter.unusedSimpArgs false

def bsF (P : Nat → Bool) : Nat → Nat → Nat → Nat
  | 0, i, _ => i
  | f + 1, i, j => if i < j then (if P ((i + j) / 2) = true then bsF P f i ((i + j) / 2) else bsF P f ((i + j) / 2 + 1) j) else i
theorem bsF_more (P : Nat → Bool) : ∀ (f g i j : Nat), j - i ≤ f → j - i ≤ g → bsF P f i j = bsF P g i j
  | 0, 0, i, j, _, _ => rfl
  | 0, g + 1, i, j, h, _ => by
    rw [bsF, bsF, if_neg (by omega)]
  | f + 1, 0, i, j, _, h => by
    rw [bsF, bsF, if_neg (by omega)]
  | f + 1, g + 1, i, j, h1, h2 => by
    rw [bsF, bsF, bsF_more P f g i ((i + j) / 2) (by omega) (by omega), bsF_more P f g ((i + j) / 2 + 1) j (by omega) (by omega)]
theorem wrap_at {x : Int} (h : -9223372036854775808 ≤ x) (h2 : x ≤ 9223372036854775807) : IntKind.i64.wrap x = x := by
  rw [IntKind.wrap_i64]; omega
theorem half_u (x : Nat) (h : x ≤ 4611686018427387904) : (Int.toNat (((x : Int) % 18446744073709551616) / 2 ^ 1) : Nat) = x / 2 := by omega

set_option maxHeartbeats 2000000 in
set_option maxRecDepth 100000 in
theorem search_calls (g : Nat) (a b : Addr) (eg : Enters Try.prog g) (P : Nat → Bool) (n : Nat) (hn : n ≤ 1000000) (Inv : World → Prop) (hdr : ∀ w k, Inv w → Inv (w.drewN k))
    (hp : ∀ (h : Nat) w, h < n → Inv w → Calls Try.prog g #[.int .i64 h, .pointer (some a), .pointer (some b)] w fun e w' => e = .returned (.bool (P h)) ∧ Inv w') (w : World) (hI : Inv w) :
    Calls Try.prog 25 #[.int .i64 n, .func (.func g) #[] #[.pointer (some a), .pointer (some b)]] w fun e w' => e = .returned (.int .i64 (bsF P n 0 n : Nat)) ∧ Inv w' := by
  have HP := Aside0.mk hp
  have HD := Aside0.mk hdr
  unfold Enters at eg
  clear hp hdr
  have HI := Aside0.mk hI
  clear hI
  go_enter Try.func25, Try.ntmps25
  go_wp2
  go_loopg [5, 6] n (fun kx v5 v6 wr => ∃ i j : Nat, i ≤ j ∧ j ≤ n ∧ j - i ≤ kx ∧ v5 = .int .i64 i ∧ v6 = .int .i64 j ∧ Aside0 (Inv wr) ∧ Aside0 (bsF P (j - i) i j = bsF P n 0 n))
  case atStart => exact ⟨0, n, Nat.zero_le _, Nat.le_refl _, Nat.le_refl _, rfl, rfl, HI, ⟨rfl⟩⟩
  case round =>
    obtain ⟨i, j, hij, hj, hg, rfl, rfl, HI2, HE⟩ := hrel
    by_cases hlt : i < j
    · have hd : decide ((i : Int) < (j : Int)) = true := by simpa using hlt
      have hmid : (((i + j) / 2 : Nat) : Int) = ((i : Int) + (j : Int)) / 2 := by omega
      have HC : ∀ w, Inv w → Calls Try.prog g #[.int .i64 (((i : Int) + (j : Int)) / 2), .pointer (some a), .pointer (some b)] w fun e w' => e = .returned (.bool (P ((i + j) / 2))) ∧ Inv w' := fun w hw => by
        have := HP.out ((i + j) / 2) w (by omega) hw
        rwa [hmid] at this
      have HS : bsF P (j - i) i j = if P ((i + j) / 2) = true then bsF P (j - i - 1) i ((i + j) / 2) else bsF P (j - i - 1) ((i + j) / 2 + 1) j := by
        obtain ⟨m, hm⟩ : ∃ m, j - i = m + 1 := ⟨j - i - 1, by omega⟩
        rw [hm]
        conv => lhs; unfold bsF
        rw [if_pos hlt]
        rfl
      cases hP : P ((i + j) / 2)
      · rw [hP] at HC HS
        have HC' := Aside0.mk HC
        have HS' := Aside0.mk HS
        clear HC HS hP hmid
        go_wp2_with (go_at_fn g; refine (HC'.out _ HI2.out).mono ?_; rintro e w' ⟨rfl, hI3⟩; have HI3 := Aside0.mk hI3; clear hI3)
        go_roundg (j - ((i + j) / 2 + 1))
        case rel => exact ⟨(i + j) / 2 + 1, j, by omega, hj, Nat.le_refl _, by go_num, rfl, HI3, ⟨by
          rw [← HE.out, HS'.out, if_neg (by decide)]
          exact bsF_more P _ _ _ _ (by omega) (by omega)⟩⟩
        case measure => omega
      · rw [hP] at HC HS
        have HC' := Aside0.mk HC
        have HS' := Aside0.mk HS
        clear HC HS hP hmid
        go_wp2_with (go_at_fn g; refine (HC'.out _ HI2.out).mono ?_; rintro e w' ⟨rfl, hI3⟩; have HI3 := Aside0.mk hI3; clear hI3)
        go_roundg ((i + j) / 2 - i)
        case rel => exact ⟨i, (i + j) / 2, by omega, by omega, Nat.le_refl _, rfl, by go_num, HI3, ⟨by
          rw [← HE.out, HS'.out, if_pos trivial]
          exact bsF_more P _ _ _ _ (by omega) (by omega)⟩⟩
        case measure => omega
    · have hd : decide ((i : Int) < (j : Int)) = false := by simpa using hlt
      go_wp2
      go_ret
      refine ⟨?_, HI2.out⟩
      rw [← HE.out, show j - i = 0 by omega]
      rfl

/-- A function of numbers: what it answers; what lay in memory stays. -/
def numP (g : Nat) (N : Nat → Nat) (lim : Nat) : Prop := ∀ (d : Nat) (w : World), 1 ≤ d → d ≤ lim → Calls Try.prog g #[.int .i64 d] w fun e w' => e = .returned (.int .i64 (N d)) ∧ Below w.heap.size w w'
set_option maxHeartbeats 2000000 in
set_option maxRecDepth 100000 in
theorem best1_calls (g : Nat) (eg : Enters Try.prog g) (N : Nat → Nat) (lim : Nat) (hN : numP g N lim) (n d : Nat) (hlim : lim ≤ 1000000) (hn : n ≤ 1000000) (hd : d < lim) (hNb : N (d + 1) ≤ 1000000) (an bn : Nat) (w : World)
    (han : w.heap[an]? = some (.cells #[.func (.func g) #[] #[]] 36 (0, 0))) (hbn : w.heap[bn]? = some (.cells #[.int .i64 n] 3 (0, 0))) :
    Calls Try.prog 26 #[.int .i64 d, .pointer (some ⟨an, 0, none⟩), .pointer (some ⟨bn, 0, none⟩)] w fun e w' => e = .returned (.bool (decide (n < d + 1 + N (d + 1)))) ∧ Below w.heap.size w w' := by
  have hc1 : w.cell? ⟨an, 0, none⟩ = some (.func (.func g) #[] #[]) := (blk_cell han 0).trans rfl
  have hc2 : w.cell? ⟨bn, 0, none⟩ = some (.int .i64 n) := (blk_cell hbn 0).trans rfl
  have hlt : bn < w.heap.size := World.block_lt_of_cell? _ _ hc2
  have HN := Aside0.mk (fun w => hN (d + 1) w (by omega) (by omega))
  clear hN han hbn
  unfold Enters at eg
  have hN1 : ((d + 1 : Nat) : Int) = (d : Int) + 1 := by omega
  have HW : IntKind.i64.wrap ((d : Int) + 1) = ((d + 1 : Nat) : Int) := by rw [wrap_at (by omega) (by omega)]; omega
  have HN2 : Aside0 (∀ w, Calls Try.prog g #[.int .i64 (IntKind.i64.wrap ((d : Int) + 1))] w fun e w' => e = .returned (.int .i64 (N (d + 1))) ∧ Below w.heap.size w w') := ⟨fun w => by rw [HW]; exact HN.out w⟩
  clear HN hN1 HW
  have HB := Aside0.mk (Below.refl w.heap.size w)
  have hdec : decide (n < d + 1 + N (d + 1)) = decide ((d : Int) + 1 + (N (d + 1) : Int) > (n : Int)) := by
    rw [decide_eq_decide]; omega
  rw [hdec]
  clear hdec
  generalize N (d + 1) = M at *
  go_enter Try.func26, Try.ntmps26
  have hltA : an < w.heap.size := World.block_lt_of_cell? _ _ hc1
  go_wp2
  go_region_held3 (fun w' => w'.cell? ⟨an, 0, none⟩ = some (.func (.func g) #[] #[]) ∧ w'.cell? ⟨bn, 0, none⟩ = some (.int .i64 n) ∧ Below w.heap.size w w') (first | (refine ⟨?_, ?_, ?_⟩ <;> first | assumption | exact Below.drew (Below.refl _ _) | (simp [*]; done)) | go_keep)
    (first | (go_at_fn g; refine (HN2.out _).mono ?_; rintro e w1 ⟨rfl, hb⟩; have hS1 : w1.cell? ⟨an, 0, none⟩ = some (.func (.func g) #[] #[]) := (hb.cell (p := ⟨an, 0, none⟩) hltA).trans hc1; have hS2 : w1.cell? ⟨bn, 0, none⟩ = some (.int .i64 n) := (hb.cell (p := ⟨bn, 0, none⟩) hlt).trans hc2; have hS3 : Below w.heap.size w w1 := Below.trans (Below.drew (Below.refl _ _)) hb))
  all_goals (have HS3 := Aside0.mk hS3; clear hS1 hS2 hS3 hb; go_wp2; go_ret)
  all_goals (refine ⟨?_, HS3.out⟩)
  all_goals (rw [wrap_at (x := (d : Int) + 1) (by omega) (by omega), wrap_at (x := (d : Int) + 1 + (M : Int)) (by omega) (by omega)]; rfl)

def bestF (N : Nat → Nat) (lim n : Nat) : Nat := bsF (fun h => decide (n < h + 1 + N (h + 1))) lim 0 lim
theorem bsF_le (P : Nat → Bool) : ∀ (f i j : Nat), i ≤ j → i ≤ bsF P f i j ∧ bsF P f i j ≤ j
  | 0, i, j, h => ⟨Nat.le_refl _, h⟩
  | f + 1, i, j, h => by
    unfold bsF
    by_cases h1 : i < j
    · rw [if_pos h1]
      by_cases h2 : P ((i + j) / 2) = true
      · rw [if_pos h2]
        have := bsF_le P f i ((i + j) / 2) (by omega)
        omega
      · rw [if_neg h2]
        have := bsF_le P f ((i + j) / 2 + 1) j (by omega)
        omega
    · rw [if_neg h1]
      exact ⟨Nat.le_refl _, h⟩
theorem alloc2_a (w : World) (a b : Obj) : ((w.alloc a).alloc b).heap[w.heap.size]? = some a := blk_alloc (blk_new w a) b
theorem alloc2_b (w : World) (a b : Obj) : ((w.alloc a).alloc b).heap[w.heap.size + 1]? = some b := by
  have h := blk_new (w.alloc a) b
  rwa [World.size_alloc] at h
theorem alloc2_size (w : World) (a b : Obj) : ((w.alloc a).alloc b).heap.size = w.heap.size + 2 := by rw [World.size_alloc, World.size_alloc]
theorem alloc2_below (w : World) (a b : Obj) : Below w.heap.size w ((w.alloc a).alloc b) := below_alloc (below_alloc (Below.refl _ _) _) _
/-- The search that 'best' begins, in a world in which its two cells lie ahead of B. -/
theorem search_named (g : Nat) (eg : Enters Try.prog g) (N : Nat → Nat) (lim : Nat) (hN : numP g N lim) (hlim : lim ≤ 100000) (hNb : ∀ d, d ≤ lim → N d ≤ 1000000) (n D : Nat) (hn : n ≤ 8192) (hD : bestF N lim n = D) (w : World) :
    Calls Try.prog 25 #[.int .i64 lim, .func (.func 26) #[] #[.pointer (some ⟨w.heap.size + 1, 0, none⟩), .pointer (some ⟨w.heap.size, 0, none⟩)]]
      ((w.alloc (.cells #[.int .i64 n] 3 (0, 0))).alloc (.cells #[.func (.func g) #[] #[]] 36 (0, 0))) fun e w' =>
      e = .returned (.int .i64 D) ∧ Aside0 (Below w.heap.size w w') ∧ w'.cell? ⟨w.heap.size + 1, 0, none⟩ = some (.func (.func g) #[] #[]) := by
  subst hD
  have h0 := alloc2_a w (.cells #[.int .i64 n] 3 (0, 0)) (.cells #[.func (.func g) #[] #[]] 36 (0, 0))
  have h1 := alloc2_b w (.cells #[.int .i64 n] 3 (0, 0)) (.cells #[.func (.func g) #[] #[]] 36 (0, 0))
  have hs := alloc2_size w (.cells #[.int .i64 n] 3 (0, 0)) (.cells #[.func (.func g) #[] #[]] 36 (0, 0))
  have hb := alloc2_below w (.cells #[.int .i64 n] 3 (0, 0)) (.cells #[.func (.func g) #[] #[]] 36 (0, 0))
  generalize (w.alloc (.cells #[.int .i64 n] 3 (0, 0))).alloc (.cells #[.func (.func g) #[] #[]] 36 (0, 0)) = W at *
  refine (search_calls 26 _ _ (enters_of Try.func26 (by kernel_rfl) rfl) (fun h => decide (n < h + 1 + N (h + 1))) lim (by omega) (fun wr => Below W.heap.size W wr) (fun wr k h => ⟨h.os, h.tape, h.output, h.size, h.block⟩) ?_ W (Below.refl _ _)).mono ?_
  · intro h wr hh hI
    refine (best1_calls g eg N lim hN n h (by omega) (by omega) hh (hNb _ (by omega)) (w.heap.size + 1) w.heap.size wr ?_ ?_).mono ?_
    · rw [hI.block _ (by omega)]; exact h1
    · rw [hI.block _ (by omega)]; exact h0
    · rintro e w' ⟨rfl, hb2⟩
      exact ⟨rfl, hI.trans (hb2.mono hI.size)⟩
  · rintro e w' ⟨rfl, hI⟩
    refine ⟨rfl, ⟨hb.trans (hI.mono (by omega))⟩, ?_⟩
    exact (blk_cell (by rw [hI.block _ (by omega)]; exact h1) 0).trans rfl
set_option maxHeartbeats 2000000 in
set_option maxRecDepth 100000 in
theorem best_calls (g : Nat) (eg : Enters Try.prog g) (N : Nat → Nat) (lim : Nat) (hN : numP g N lim) (hlim : lim ≤ 100000) (hNb : ∀ d, d ≤ lim → N d ≤ 1000000) (n D : Nat) (hn : n ≤ 8192) (hD : bestF N lim n = D) (w : World) :
    Calls Try.prog 18 #[.int .i64 n, .int .i64 lim, .func (.func g) #[] #[]] w fun e w' => e = .returned (.tuple #[.int .i64 D, .int .i64 ((if D = 0 then 0 else N D : Nat) : Int)]) ∧ Below w.heap.size w w' := by
  have c1 : decide ((n : Int) < 0) = false := decide_eq_false (by omega)
  have c2 : decide ((n : Int) > 8192) = false := decide_eq_false (by omega)
  have HS := Aside0.mk (search_named g eg N lim hN hlim hNb n D hn hD w)
  have hle : D ≤ lim := by rw [← hD]; exact (bsF_le _ _ _ _ (Nat.zero_le _)).2
  by_cases h0 : D = 0
  · have c3 : ((D : Int) == 0) = true := by rw [beq_iff_eq]; omega
    clear hN hNb hD hle eg
    subst h0
    go_enter Try.func18, Try.ntmps18
    go_wp2_with (go_at_call 25; refine HS.out.mono ?_; rintro e w1 ⟨rfl, HB, hc⟩)
    go_ret2
    exact ⟨rfl, HB.out⟩
  · have c3 : ((D : Int) == 0) = false := by rw [beq_eq_false_iff_ne]; omega
    have HN := Aside0.mk (fun w => hN D w (by omega) hle)
    clear hN hNb hD hle
    rw [if_neg h0]
    unfold Enters at eg
    generalize N D = M at *
    go_enter Try.func18, Try.ntmps18
    go_wp2_with (first | (go_at_call 25; refine HS.out.mono ?_; rintro e w1 ⟨rfl, HB, hc⟩) | (go_at_fn g; refine (HN.out _).mono ?_; rintro e w2 ⟨rfl, hb⟩; have HB2 := Aside0.mk (HB.out.trans (hb.mono HB.out.size)); clear hb))
    go_ret2
    exact ⟨rfl, HB2.out⟩
end Go.Proofs.Ytligdimpdcloeaa.P
