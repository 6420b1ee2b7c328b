/- Proved here, for this seat's claims: what the functions that the laws reach compute: the texts of this work, one behind the other, laid by a program of this session. Conditions: none beside the statement's own. -/
import Derived.Test.YtknbfhhmjbnemaaDoorMB1
import Derived.Test.YtknbfhhmjbnemaaDoorMB2
import Derived.Shelf.Abstract
import Derived.Lib.OthersKept
import Derived.Laws.Externs
import Derived.Lib.UnsafeStr
import Derived.Lib.AppendIntMem
section
namespace Go.Proofs.YtknbfhhmjbnemaaDoor.P
open Go.RowKit Go.Proofs.YtknbfhhmjbnemaaDoorW.PrintWords Go.Proofs.YtknbfhhmjbnemaaDoorW.PrintLast Go.Proofs.YtknbfhhmjbnemaaDoorW.PrintMore
attribute [local go_sem] max2_int min2_int max_two min_two max_three min_three max_four min_four   -- for this text's walks alone
set_option linter.unusedVariables false
set_option linter.unusedSimpArgs false

/-! ### lex_one: function 29 -/
-- IMPORTS Derived.Shelf.Abstract Derived.Test.YtknbfhhmjbnemaaDoorLexDefs
/-- Only block g may have changed. -/
structure Alone (w w' : World) (g : Nat) : Prop where
  keep : KeepBut w w' g none
  os : ∀ B, B ≤ g → Below B w w'
theorem Alone.refl (w : World) (g : Nat) : Alone w w g := ⟨KeepBut.refl _ _ _, fun _ _ => Below.refl _ _⟩
theorem Alone.set {w w1 : World} {g : Nat} (h : Alone w w1 g) (j : Nat) (u : Value) : Alone w (w1.setCell ⟨g, j, none⟩ u) g :=
  ⟨h.keep.set_ j u, fun B hB => (h.os B hB).setCell hB u⟩
theorem Alone.drewN {w w1 : World} {g : Nat} (h : Alone w w1 g) (n : Nat) : Alone w (w1.drewN n) g :=
  ⟨keep_drewN h.keep n, fun B hB => pw_below_drewN (h.os B hB) n⟩
theorem Alone.drew {w w1 : World} {g : Nat} (h : Alone w w1 g) : Alone w w1.drew g :=
  ⟨keep_drew h.keep, fun B hB => below_drew (h.os B hB)⟩
theorem Alone.blk {w w1 : World} {g g' : Nat} {o : Obj} (h : Alone w w1 g) (hb : w.heap[g']? = some o) (hg : g' ≠ g) : w1.heap[g']? = some o := h.keep.blk hb hg (by simp)


def callP (g : Nat) (p : Int → Bool) : Prop := ∀ (c : Int) (w : World), Calls Tryd.prog g #[.int .u8 c] w fun e w' => e = .returned (.bool (p c)) ∧ Drawn0 w w'

set_option maxHeartbeats 1000000 in
set_option maxRecDepth 100000 in
theorem take_calls (g : Nat) (p : Int → Bool) (eg : Enters Tryd.prog g) (hp : callP g p) (s : ByteArray) (k bk bs : Nat) (w : World) (hk : k ≤ s.size) (hs : s.size ≤ 9223372036854775807)
    (hbk : w.heap[bk]? = some (.cells #[.int .i64 k] 3 (0, 0))) (hbs : w.heap[bs]? = some (.cells #[.string s] 9 (0, 0))) :
    Calls Tryd.prog 60 #[.func (.func g) #[] #[], .pointer (some ⟨bk, 0, none⟩), .pointer (some ⟨bs, 0, none⟩)] w fun e w' =>
      e = .returned (.string (s.extract k (lexEnd p s (s.size - k) k))) ∧ w'.heap[bk]? = some (.cells #[.int .i64 (lexEnd p s (s.size - k) k : Nat)] 3 (0, 0)) ∧ Alone w w' bk := by
  have hne : bs ≠ bk := blk_ne hbs hbk (by decide)
  have HP := Aside0.mk hp
  unfold Enters at eg
  clear hp
  have hc1 : w.cell? ⟨bk, 0, none⟩ = some (.int .i64 k) := (blk_cell hbk 0).trans rfl
  go_enter Tryd.func60, Tryd.ntmps60
  go_wp2
  clear hc1
  go_loopg [] (s.size - k) (fun kx wr => ∃ j : Nat, k ≤ j ∧ j ≤ s.size ∧ s.size - j ≤ kx ∧ Aside0 (wr.heap[bk]? = some (.cells #[.int .i64 j] 3 (0, 0))) ∧ Aside0 (Alone w wr bk) ∧ Aside0 (lexEnd p s (s.size - j) j = lexEnd p s (s.size - k) k))
  case atStart => exact ⟨k, Nat.le_refl _, hk, Nat.le_refl _, ⟨hbk⟩, ⟨Alone.refl _ _⟩, ⟨rfl⟩⟩
  case round =>
    obtain ⟨j, hj, hjs, hg, HB, HA, HE⟩ := hrel
    have hc1 : wr.cell? ⟨bk, 0, none⟩ = some (.int .i64 j) := (blk_cell HB.out 0).trans rfl
    have hc2 : wr.cell? ⟨bs, 0, none⟩ = some (.string s) := (blk_cell (HA.out.blk hbs hne) 0).trans rfl
    have hf1 : wr.frozen? ⟨bk, 0, none⟩ = false := blk_frozen HB.out 0
    by_cases hlt : j < s.size
    · have hd : decide ((j : Int) < (s.size : Int)) = true := by simpa using hlt
      have hd2 : decide (j < s.size) = true := by simpa using hlt
      have hb := bt_at s j (by simpa using hlt)
      simp only [Int.toNat_natCast] at hb
      have HC := HP.out (bt s j)
      cases hpj : p (bt s j)
      · rw [hpj] at HC
        have HC' := Aside0.mk HC
        clear HC
        have HPJ := Aside0.mk hpj
        clear hpj
        go_wp2_with (go_at_fn g; refine (HC'.out _).mono ?_; rintro e w' ⟨rfl, ⟨nd, rfl⟩⟩)
        go_ret
        have hE : j = lexEnd p s (s.size - k) k := by
          rw [← HE.out]
          cases hq : s.size - j with
          | zero => rfl
          | succ m => unfold lexEnd; rw [if_neg (by rw [HPJ.out]; simp)]
        rw [← hE]
        exact ⟨rfl, HB.out, HA.out.drewN nd⟩
      · rw [hpj] at HC
        have HC' := Aside0.mk HC
        clear HC
        have HPJ := Aside0.mk hpj
        clear hpj
        go_wp2_with (go_at_fn g; refine (HC'.out _).mono ?_; rintro e w' ⟨rfl, ⟨nd, rfl⟩⟩)
        go_roundg (s.size - (j + 1))
        case rel => exact ⟨j + 1, by omega, by omega, Nat.le_refl _, ⟨(blk_set (w := wr.drewN nd) HB.out 0 _).trans (by go_num)⟩, ⟨(HA.out.drewN nd).set 0 _⟩, ⟨by
          rw [← HE.out]
          obtain ⟨m, hm⟩ : ∃ m, s.size - j = m + 1 := ⟨s.size - j - 1, by omega⟩
          rw [hm, show s.size - (j + 1) = m by omega]
          conv => rhs; unfold lexEnd
          rw [if_pos ⟨hlt, HPJ.out⟩]⟩⟩
        case measure => omega
    · have hd : decide ((j : Int) < (s.size : Int)) = false := by simpa using hlt
      have hd2 : decide (j < s.size) = false := by simpa using hlt
      go_wp2
      go_ret
      have hE : j = lexEnd p s (s.size - k) k := by
        rw [← HE.out, show s.size - j = 0 by omega]
        rfl
      rw [← hE]
      exact ⟨rfl, HB.out, HA.out⟩

theorem letter_some (c : Int) : lex_letter.f c = some (pLetter c) := by
  unfold lex_letter.f pLetter
  split
  · rename_i h; simp [show 97 ≤ c from h]
  · rename_i h; simp [show ¬ 97 ≤ c from h]
theorem figure_some (c : Int) : lex_figure.f c = some (pFigure c) := by
  unfold lex_figure.f pFigure
  split
  · rename_i h; simp [show 48 ≤ c from h]
  · rename_i h; simp [show ¬ 48 ≤ c from h]
theorem hex_some (c : Int) : lex_hex.f c = some (pHex c) := by
  unfold lex_hex.f pHex
  rw [figure_some]
  simp only [Option.bind_some]
  split
  · rename_i h; simp [h]
  · rename_i h
    simp only [h, Bool.false_or]
    split
    · rename_i h2; simp [show 97 ≤ c from h2]
    · rename_i h2; simp [show ¬ 97 ≤ c from h2]
theorem letter_calls (c : Int) (w : World) : Calls Tryd.prog 62 #[.int .u8 c] w fun e w' => e = .returned (.bool (pLetter c)) ∧ Drawn0 w w' := lex_letter.calls c _ w (letter_some c)
theorem figure_calls : callP 64 pFigure := fun c w => lex_figure.calls c _ w (figure_some c)
theorem hex_calls : callP 65 pHex := fun c w => lex_hex.calls c _ w (hex_some c)

set_option maxHeartbeats 1000000 in
theorem word_calls : callP 63 pWord := by
  intro c w
  have HL := letter_calls c
  have HF := figure_calls c
  unfold pWord
  cases hl : pLetter c
  · rw [hl] at HL
    cases hf : pFigure c
    · rw [hf] at HF
      have HL' := Aside0.mk HL
      have HF' := Aside0.mk HF
      clear HL HF hl hf
      go_enter Tryd.func63, Tryd.ntmps63
      go_wp2_with (first | (go_at_call 62; refine (HL'.out _).mono ?_; rintro e w' ⟨rfl, ⟨nd, rfl⟩⟩) | (go_at_call 64; refine (HF'.out _).mono ?_; rintro e w' ⟨rfl, ⟨nd2, rfl⟩⟩))
      go_ret
      exact ⟨by simp, by repeat (first | exact Drawn0.refl _ | apply Drawn0.step)⟩
    · rw [hf] at HF
      have HL' := Aside0.mk HL
      have HF' := Aside0.mk HF
      clear HL HF hl hf
      go_enter Tryd.func63, Tryd.ntmps63
      go_wp2_with (first | (go_at_call 62; refine (HL'.out _).mono ?_; rintro e w' ⟨rfl, ⟨nd, rfl⟩⟩) | (go_at_call 64; refine (HF'.out _).mono ?_; rintro e w' ⟨rfl, ⟨nd2, rfl⟩⟩))
      go_ret
      exact ⟨by simp, by repeat (first | exact Drawn0.refl _ | apply Drawn0.step)⟩
  · rw [hl] at HL
    have HL' := Aside0.mk HL
    clear HL HF hl
    go_enter Tryd.func63, Tryd.ntmps63
    go_wp2_with (first | (go_at_call 62; refine (HL'.out _).mono ?_; rintro e w' ⟨rfl, ⟨nd, rfl⟩⟩))
    go_ret
    exact ⟨by simp, by repeat (first | exact Drawn0.refl _ | apply Drawn0.step)⟩


set_option maxHeartbeats 1000000 in
theorem goes_calls (s : ByteArray) (k bk bs : Nat) (w : World) (hs : s.size ≤ 9223372036854775807)
    (hbk : w.heap[bk]? = some (.cells #[.int .i64 k] 3 (0, 0))) (hbs : w.heap[bs]? = some (.cells #[.string s] 9 (0, 0))) :
    Calls Tryd.prog 61 #[.pointer (some ⟨bk, 0, none⟩), .pointer (some ⟨bs, 0, none⟩)] w fun e w' => e = .returned (.bool (pGoes s k)) ∧ Drawn0 w w' := by
  have hc1 : w.cell? ⟨bk, 0, none⟩ = some (.int .i64 k) := (blk_cell hbk 0).trans rfl
  have hc2 : w.cell? ⟨bs, 0, none⟩ = some (.string s) := (blk_cell hbs 0).trans rfl
  clear hbk hbs
  by_cases hlt : k < s.size
  · have hd : decide ((k : Int) < (s.size : Int)) = true := by simpa using hlt
    have hd2 : decide (k < s.size) = true := by simpa using hlt
    have hb := bt_at s k (by simpa using hlt)
    simp only [Int.toNat_natCast] at hb
    have HL := letter_calls (bt s k)
    unfold pGoes
    rw [hd2]
    cases hl : pLetter (bt s k)
    · rw [hl] at HL
      have HL' := Aside0.mk HL
      clear HL hl
      go_enter Tryd.func61, Tryd.ntmps61
      go_wp2_with (first | (go_at_call 62; refine (HL'.out _).mono ?_; rintro e w' ⟨rfl, ⟨nd, rfl⟩⟩))
      go_ret
      exact ⟨by simp, by repeat (first | exact Drawn0.refl _ | apply Drawn0.step)⟩
    · rw [hl] at HL
      have HL' := Aside0.mk HL
      clear HL hl
      go_enter Tryd.func61, Tryd.ntmps61
      go_wp2_with (first | (go_at_call 62; refine (HL'.out _).mono ?_; rintro e w' ⟨rfl, ⟨nd, rfl⟩⟩))
      go_ret
      exact ⟨by simp, by repeat (first | exact Drawn0.refl _ | apply Drawn0.step)⟩
  · have hd : decide ((k : Int) < (s.size : Int)) = false := by simpa using hlt
    have hd2 : decide (k < s.size) = false := by simpa using hlt
    unfold pGoes
    rw [hd2]
    go_enter Tryd.func61, Tryd.ntmps61
    go_wp2
    go_ret
    exact ⟨by simp, by repeat (first | exact Drawn0.refl _ | apply Drawn0.step)⟩

def lexNum (l : List Int) : Int := l.foldl (fun n b => 10 * mn n 1099511627776 + (b - 48)) 0

def lex_one.f (a0 : ByteArray) (a1 : Int) : Option (Int × ByteArray × Int × Int × Int × Int × Int) :=
  if 0 ≤ a1 ∧ a1 < (a0.size : Int) ∧ a0.size ≤ 140737488351232 then
    if pLetter (bt a0 a1) = true then
      if a1.toNat + 16 < lexEnd pWord a0 (a0.size - a1.toNat) a1.toNat then some (0, a0.extract a1.toNat (lexEnd pWord a0 (a0.size - a1.toNat) a1.toNat), 0, a1, (lexEnd pWord a0 (a0.size - a1.toNat) a1.toNat : Nat), 102, a1)
      else some (0, a0.extract a1.toNat (lexEnd pWord a0 (a0.size - a1.toNat) a1.toNat), 0, a1, (lexEnd pWord a0 (a0.size - a1.toNat) a1.toNat : Nat), 0, -1)
    else if pFigure (bt a0 a1) = true then
      if a1.toNat + 9 < lexEnd pFigure a0 (a0.size - a1.toNat) a1.toNat then some (1, ⟨#[]⟩, lexNum (bytesOf (a0.extract a1.toNat (lexEnd pFigure a0 (a0.size - a1.toNat) a1.toNat))), a1, (lexEnd pFigure a0 (a0.size - a1.toNat) a1.toNat : Nat), 102, a1)
      else if pGoes a0 (lexEnd pFigure a0 (a0.size - a1.toNat) a1.toNat) = true then some (1, ⟨#[]⟩, lexNum (bytesOf (a0.extract a1.toNat (lexEnd pFigure a0 (a0.size - a1.toNat) a1.toNat))), a1, (lexEnd pFigure a0 (a0.size - a1.toNat) a1.toNat : Nat), 101, (lexEnd pFigure a0 (a0.size - a1.toNat) a1.toNat : Nat))
      else some (1, ⟨#[]⟩, lexNum (bytesOf (a0.extract a1.toNat (lexEnd pFigure a0 (a0.size - a1.toNat) a1.toNat))), a1, (lexEnd pFigure a0 (a0.size - a1.toNat) a1.toNat : Nat), 0, -1)
    else if bt a0 a1 = 36 then
      if lexEnd pHex a0 (a0.size - (a1.toNat + 1)) (a1.toNat + 1) = a1.toNat + 1 then some (2, ⟨#[]⟩, 0, a1, a1 + 1, 101, a1 + 1)
      else if a1.toNat + 129 < lexEnd pHex a0 (a0.size - (a1.toNat + 1)) (a1.toNat + 1) then some (2, a0.extract (a1.toNat + 1) (lexEnd pHex a0 (a0.size - (a1.toNat + 1)) (a1.toNat + 1)), 0, a1, (lexEnd pHex a0 (a0.size - (a1.toNat + 1)) (a1.toNat + 1) : Nat), 102, a1)
      else if pGoes a0 (lexEnd pHex a0 (a0.size - (a1.toNat + 1)) (a1.toNat + 1)) = true then some (2, a0.extract (a1.toNat + 1) (lexEnd pHex a0 (a0.size - (a1.toNat + 1)) (a1.toNat + 1)), 0, a1, (lexEnd pHex a0 (a0.size - (a1.toNat + 1)) (a1.toNat + 1) : Nat), 101, (lexEnd pHex a0 (a0.size - (a1.toNat + 1)) (a1.toNat + 1) : Nat))
      else some (2, a0.extract (a1.toNat + 1) (lexEnd pHex a0 (a0.size - (a1.toNat + 1)) (a1.toNat + 1)), 0, a1, (lexEnd pHex a0 (a0.size - (a1.toNat + 1)) (a1.toNat + 1) : Nat), 0, -1)
    else if bt a0 a1 = 40 ∨ bt a0 a1 = 41 ∨ bt a0 a1 = 44 ∨ bt a0 a1 = 61 ∨ bt a0 a1 = 59 then some (3, a0.extract a1.toNat (a1.toNat + 1), 0, a1, a1 + 1, 0, -1)
    else some (3, ⟨#[]⟩, 0, a1, a1, 101, a1)
  else none


theorem alloc3_a (w : World) (a b c : Obj) : (((w.alloc a).alloc b).alloc c).heap[w.heap.size]? = some a :=
  (blk_alloc (blk_alloc (blk_new w a) b) c)
theorem alloc3_b (w : World) (a b c : Obj) : (((w.alloc a).alloc b).alloc c).heap[w.heap.size + 1]? = some b := by
  have h := blk_alloc (blk_new (w.alloc a) b) c
  rwa [World.size_alloc] at h
theorem alloc3_c (w : World) (a b c : Obj) : (((w.alloc a).alloc b).alloc c).heap[w.heap.size + 1 + 1]? = some c := by
  have h := blk_new ((w.alloc a).alloc b) c
  rwa [World.size_alloc, World.size_alloc] at h
theorem alloc3_below (w : World) (a b c : Obj) : Below w.heap.size w (((w.alloc a).alloc b).alloc c) := below_alloc (below_alloc (below_alloc (Below.refl _ _) _) _) _

/-- take, its result and the place behind it under names. -/
theorem take_named (g : Nat) (p : Int → Bool) (eg : Enters Tryd.prog g) (hp : callP g p) (s : ByteArray) (k : Nat) (S : ByteArray) (K : Nat) (hK : lexEnd p s (s.size - k) k = K) (hS : s.extract k K = S) (bk bs : Nat) (w : World) (hk : k ≤ s.size) (hs : s.size ≤ 9223372036854775807)
    (hbk : w.heap[bk]? = some (.cells #[.int .i64 k] 3 (0, 0))) (hbs : w.heap[bs]? = some (.cells #[.string s] 9 (0, 0))) :
    Calls Tryd.prog 60 #[.func (.func g) #[] #[], .pointer (some ⟨bk, 0, none⟩), .pointer (some ⟨bs, 0, none⟩)] w fun e w' =>
      e = .returned (.string S) ∧ Aside0 (w'.heap[bk]? = some (.cells #[.int .i64 K] 3 (0, 0))) ∧ Aside0 (Alone w w' bk) := by
  refine (take_calls g p eg hp s k bk bs w hk hs hbk hbs).mono ?_
  rintro e w' ⟨rfl, h1, h2⟩
  subst hK hS
  exact ⟨rfl, ⟨h1⟩, ⟨h2⟩⟩

theorem results70 (tmps : Array Value) (w : World) (t k : Nat) (a b c d : Value) (K : Int) (h4 : (tmps[4]?).getD undef = .pointer (some ⟨t, 0, none⟩)) (h5 : (tmps[5]?).getD undef = .pointer (some ⟨k, 0, none⟩))
    (ht : w.heap[t]? = some (.cells #[a, b, c, d] 60 (0, 0))) (hk : w.heap[k]? = some (.cells #[.int .i64 K] 3 (0, 0))) :
    (results Tryd.f29 tmps).run Tryd.prog w = .ok (.tuple #[.agg #[a, b, c, d], .int .i64 K, (tmps[6]?).getD undef, (tmps[7]?).getD undef]) w := by
  have hc : w.cell? ⟨k, 0, none⟩ = some (.int .i64 K) := (blk_cell hk 0).trans rfl
  have h0 : w.cell? ⟨t, 0, none⟩ = some a := (blk_cell ht 0).trans rfl
  have h1 : w.cell? ⟨t, 1, none⟩ = some b := (blk_cell ht 1).trans rfl
  have h2 : w.cell? ⟨t, 2, none⟩ = some c := (blk_cell ht 2).trans rfl
  have h3 : w.cell? ⟨t, 3, none⟩ = some d := (blk_cell ht 3).trans rfl
  simp [results, Tryd.results29, go_sem, h4, h5, hc, h0, h1, h2, h3]

def OneEnd (w : World) (r1 : Int) (r2 : ByteArray) (r3 r4 r5 r6 r7 : Int) (e : Ending) (w' : World) : Prop :=
  e = .returned (.tuple #[.agg #[.int .i64 r1, .string r2, .int .i64 r3, .int .i64 r4], .int .i64 r5, .int .i64 r6, .int .i64 r7]) ∧ Below w.heap.size w w'


/-- What holds behind the switch. -/
def OneMid (w : World) (r1 : Int) (r2 : ByteArray) (r3 r4 r5 : Int) (wc : World) : Prop :=
  wc.heap[w.heap.size + 1]? = some (.cells #[.int .i64 r1, .string r2, .int .i64 r3, .int .i64 r4] 60 (0, 0)) ∧ wc.heap[w.heap.size + 1 + 1]? = some (.cells #[.int .i64 r5] 3 (0, 0)) ∧ Below w.heap.size w wc

theorem bt_extract (s : ByteArray) (i K j : Nat) (hK : K ≤ s.size) (hj : i + j < K) : bt (s.extract i K) j = bt s ((i + j : Nat) : Int) := by
  unfold bt
  simp only [Int.toNat_natCast]
  have h1 : j < (s.extract i K).size := by rw [ByteArray.size_extract]; omega
  have h2 : i + j < s.size := by omega
  rw [dif_pos h1, dif_pos h2]
  congr 2
  exact ByteArray.getElem_extract ..
theorem ReadsInt.far_ {w : World} {k : IntKind} {n g : Nat} {xs : List Int} (h : ReadsInt w k (some ⟨g, 0, none⟩) n xs) {p : Addr} (hne : g ≠ p.block) (v : Value) : ReadsInt (w.setCell p v) k (some ⟨g, 0, none⟩) n xs :=
  ⟨h.1, h.2.1, fun hn => by
    obtain ⟨ad, e, hc⟩ := h.2.2 hn
    injection e with e
    subst e
    refine ⟨_, rfl, fun j hj => ?_⟩
    have := hc j hj
    rw [add_plain] at this ⊢
    exact (World.cell?_setCell_other _ _ _ _ (fun e => hne (by rw [e]))).trans this⟩
theorem lexNum_range (l : List Int) (h : ∀ x ∈ l, 48 ≤ x ∧ x ≤ 57) : 0 ≤ lexNum l ∧ lexNum l ≤ 10995116277769 := by
  unfold lexNum
  suffices H : ∀ (l : List Int) (n : Int), (∀ x ∈ l, 48 ≤ x ∧ x ≤ 57) → 0 ≤ n → n ≤ 10995116277769 → 0 ≤ l.foldl (fun n b => 10 * mn n 1099511627776 + (b - 48)) n ∧ l.foldl (fun n b => 10 * mn n 1099511627776 + (b - 48)) n ≤ 10995116277769 from H l 0 h (by omega) (by omega)
  intro l
  induction l with
  | nil => intro n _ h0 h1; exact ⟨h0, h1⟩
  | cons x l ih =>
    intro n hx h0 h1
    have hx0 := hx x List.mem_cons_self
    rw [List.foldl_cons]
    refine ih _ (fun y hy => hx y (List.mem_cons_of_mem _ hy)) ?_ ?_
    · unfold mn; split <;> omega
    · unfold mn; split <;> omega
theorem lexNum_snoc (l : List Int) (b : Int) : lexNum (l ++ [b]) = 10 * mn (lexNum l) 1099511627776 + (b - 48) := by
  unfold lexNum
  rw [List.foldl_append]
  rfl

set_option maxHeartbeats 4000000 in
set_option maxRecDepth 100000 in
theorem lex_one.calls (a0 : ByteArray) (a1 : Int) (r1 : Int) (r2 : ByteArray) (r3 : Int) (r4 : Int) (r5 : Int) (r6 : Int) (r7 : Int) (w : World) (h : lex_one.f a0 a1 = some (r1, r2, r3, r4, r5, r6, r7)) :
    Calls Tryd.prog 29 #[.string a0, .int .i64 a1] w fun e w' => e = .returned (.tuple #[.agg #[.int .i64 r1, .string r2, .int .i64 r3, .int .i64 r4], .int .i64 r5, .int .i64 r6, .int .i64 r7]) ∧ Below w.heap.size w w' := by
  have H0 := h
  clear h
  unfold lex_one.f at H0
  split at H0
  case isFalse => exact absurd H0 (by simp)
  case isTrue hg =>
  obtain ⟨hi0, hi1, hs⟩ := hg
  obtain ⟨i, rfl⟩ := Int.eq_ofNat_of_zero_le hi0
  simp only [Int.toNat_natCast] at H0
  have hi : i < a0.size := by omega
  have H := Aside0.mk H0
  clear H0 hi0 hi1
  have hb := bt_at a0 i (by simpa using hi)
  simp only [Int.toNat_natCast] at hb
  have hd : decide ((i : Int) < (a0.size : Int)) = true := by simpa using hi
  have hu60 := Tryd.underlying60
  have HL := letter_calls (bt a0 i)
  have HF := figure_calls (bt a0 i)
  have HL' := Aside0.mk HL
  have HF' := Aside0.mk HF
  clear HL HF
  go_enter Tryd.func29, Tryd.ntmps29
  go_upto_block 0 with (fail)
  go_cut [6, 7] (fun v6 v7 wc => v6 = .int .i64 r6 ∧ v7 = .int .i64 r7 ∧ Aside0 (OneMid w r1 r2 r3 r4 r5 wc))
  case first =>
    cases hl : pLetter (bt a0 i)
    · rw [hl] at HL' H
      simp only [Bool.false_eq_true, if_false] at H
      clear hl
      cases hf : pFigure (bt a0 i)
      · rw [hf] at HF' H
        simp only [Bool.false_eq_true, if_false] at H
        clear hf
        by_cases h36 : bt a0 i = 36
        · have hq36 : (bt a0 i == 36) = true := by simpa using h36
          rw [if_pos h36] at H
          clear h36
          generalize hK : lexEnd pHex a0 (a0.size - (i + 1)) (i + 1) = K at H
          generalize hS : a0.extract (i + 1) K = S at H
          have hKs : i + 1 ≤ K ∧ K ≤ a0.size := by have := lexEnd_le pHex a0 (a0.size - (i + 1)) (i + 1) (by omega); omega
          obtain ⟨hK1, hK2⟩ := hKs
          have hSz : S.size = K - (i + 1) := by rw [← hS, ByteArray.size_extract]; omega
          have HT := take_named 65 pHex (enters_of Tryd.func65 (by kernel_rfl) rfl) hex_calls a0 (i + 1) S K hK hS
          have HT' := Aside0.mk HT
          have HSz := Aside0.mk hSz
          clear HT hS hK hSz
          have hfk : ∀ (W : World) (x y z : Value), True := fun _ _ _ _ => trivial
          clear hfk
          by_cases hem : K = i + 1
          · have hS0 : S = ⟨#[]⟩ := by
              have h0 : S.size = 0 := by rw [HSz.out, hem]; omega
              cases S with | mk d => simp only [ByteArray.size] at h0; rw [Array.eq_empty_of_size_eq_zero h0]
            have hr6 := H.out
            rw [if_pos hem] at hr6
            simp only [Option.some.injEq, Prod.mk.injEq] at hr6
            obtain ⟨rfl, rfl, rfl, rfl, rfl, rfl, rfl⟩ := hr6
            clear H HSz
            subst hS0
            have HKe := Aside0.mk hem
            clear hem
            go_wp2_with (first | (go_at_call 62; refine (HL'.out _).mono ?_; rintro e w' ⟨rfl, ⟨nd, rfl⟩⟩) | (go_at_call 64; refine (HF'.out _).mono ?_; rintro e w' ⟨rfl, ⟨nd2, rfl⟩⟩) | (go_at_call 60; refine (HT'.out _ _ _ (by omega) (by omega) ((blk_set (blk_far (blk_drewN (alloc3_c _ _ _ _) _) (by dsimp only; omega) _) 0 _).trans (by go_num)) (blk_far (blk_far (blk_drewN (alloc3_a _ _ _ _) _) (by dsimp only; omega) _) (by dsimp only; omega) _)).mono ?_; rintro e w1 ⟨rfl, HK1, HA1⟩; have HT1 := Aside0.mk (HA1.out.blk (blk_far (blk_set (blk_drewN (alloc3_b _ _ _ _) _) 0 _) (by dsimp only; omega) _) (by omega)); have HS1 := Aside0.mk (HA1.out.blk (blk_far (blk_far (blk_drewN (alloc3_a _ _ _ _) _) (by dsimp only; omega) _) (by dsimp only; omega) _) (by omega)); have HB1 := Aside0.mk ((((pw_below_drewN (alloc3_below _ _ _ _) _).setCell (p := ⟨w.heap.size + 1, 0, none⟩) (by dsimp only; omega) _).setCell (p := ⟨w.heap.size + 1 + 1, 0, none⟩) (by dsimp only; omega) _).trans (HA1.out.os _ (by omega))); have hc1 := (blk_cell HT1.out 1).trans rfl; have hf1 := blk_frozen HT1.out 1; have hck := (blk_cell HK1.out 0).trans rfl) | (go_at_call 61; refine (HG'.out _ (blk_far HK1.out (by dsimp only; omega) _) (blk_far HS1.out (by dsimp only; omega) _)).mono ?_; rintro e w' ⟨rfl, ⟨nd3, rfl⟩⟩))
            go_quiet (fail)
            go_wp2
            go_meet
            case rel => exact ⟨rfl, by rw [HKe.out]; go_num, ⟨blk_drewN (blk_set HT1.out 1 _) _, (blk_drewN (blk_far HK1.out (by dsimp only; omega) _) _).trans (by rw [HKe.out]; go_num), pw_below_drewN (HB1.out.setCell (by dsimp only; omega) _) _⟩⟩
          · have hne : ¬ S.toList = [] := by
              intro h0
              rw [ByteArray.toList_eq] at h0
              have h1 := congrArg List.length h0
              rw [Array.length_toList] at h1
              have h2 : S.size = 0 := h1
              rw [HSz.out] at h2
              omega
            have hne2 : S.toList.isEmpty = false := by simpa using hne
            have hr6 := H.out
            rw [if_neg hem] at hr6
            by_cases hlong : i + 129 < K
            · have hl1 : decide ((128 : Int) < (S.size : Int)) = true := by rw [HSz.out]; simp; omega
              have hl2 : decide (128 < S.size) = true := by rw [HSz.out]; simp; omega
              rw [if_pos hlong] at hr6
              simp only [Option.some.injEq, Prod.mk.injEq] at hr6
              obtain ⟨rfl, rfl, rfl, rfl, rfl, rfl, rfl⟩ := hr6
              clear H
              go_wp2_with (first | (go_at_call 62; refine (HL'.out _).mono ?_; rintro e w' ⟨rfl, ⟨nd, rfl⟩⟩) | (go_at_call 64; refine (HF'.out _).mono ?_; rintro e w' ⟨rfl, ⟨nd2, rfl⟩⟩) | (go_at_call 60; refine (HT'.out _ _ _ (by omega) (by omega) ((blk_set (blk_far (blk_drewN (alloc3_c _ _ _ _) _) (by dsimp only; omega) _) 0 _).trans (by go_num)) (blk_far (blk_far (blk_drewN (alloc3_a _ _ _ _) _) (by dsimp only; omega) _) (by dsimp only; omega) _)).mono ?_; rintro e w1 ⟨rfl, HK1, HA1⟩; have HT1 := Aside0.mk (HA1.out.blk (blk_far (blk_set (blk_drewN (alloc3_b _ _ _ _) _) 0 _) (by dsimp only; omega) _) (by omega)); have HS1 := Aside0.mk (HA1.out.blk (blk_far (blk_far (blk_drewN (alloc3_a _ _ _ _) _) (by dsimp only; omega) _) (by dsimp only; omega) _) (by omega)); have HB1 := Aside0.mk ((((pw_below_drewN (alloc3_below _ _ _ _) _).setCell (p := ⟨w.heap.size + 1, 0, none⟩) (by dsimp only; omega) _).setCell (p := ⟨w.heap.size + 1 + 1, 0, none⟩) (by dsimp only; omega) _).trans (HA1.out.os _ (by omega))); have hc1 := (blk_cell HT1.out 1).trans rfl; have hf1 := blk_frozen HT1.out 1; have hck := (blk_cell HK1.out 0).trans rfl) | (go_at_call 61; refine (HG'.out _ (blk_far HK1.out (by dsimp only; omega) _) (blk_far HS1.out (by dsimp only; omega) _)).mono ?_; rintro e w' ⟨rfl, ⟨nd3, rfl⟩⟩))
              go_meet
              case rel => exact ⟨rfl, rfl, ⟨blk_set HT1.out 1 _, blk_far HK1.out (by dsimp only; omega) _, HB1.out.setCell (by dsimp only; omega) _⟩⟩
            · have hl1 : decide ((128 : Int) < (S.size : Int)) = false := by rw [HSz.out]; simp; omega
              have hl2 : decide (128 < S.size) = false := by rw [HSz.out]; simp; omega
              rw [if_neg hlong] at hr6
              have HG := fun W h1 h2 => goes_calls a0 K (w.heap.size + 1 + 1) w.heap.size W (by omega) h1 h2
              cases hgo : pGoes a0 K
              · rw [hgo] at HG hr6
                simp only [Bool.false_eq_true, if_false, Option.some.injEq, Prod.mk.injEq] at hr6
                obtain ⟨rfl, rfl, rfl, rfl, rfl, rfl, rfl⟩ := hr6
                have HG' := Aside0.mk HG
                clear H hgo HG
                go_wp2_with (first | (go_at_call 62; refine (HL'.out _).mono ?_; rintro e w' ⟨rfl, ⟨nd, rfl⟩⟩) | (go_at_call 64; refine (HF'.out _).mono ?_; rintro e w' ⟨rfl, ⟨nd2, rfl⟩⟩) | (go_at_call 60; refine (HT'.out _ _ _ (by omega) (by omega) ((blk_set (blk_far (blk_drewN (alloc3_c _ _ _ _) _) (by dsimp only; omega) _) 0 _).trans (by go_num)) (blk_far (blk_far (blk_drewN (alloc3_a _ _ _ _) _) (by dsimp only; omega) _) (by dsimp only; omega) _)).mono ?_; rintro e w1 ⟨rfl, HK1, HA1⟩; have HT1 := Aside0.mk (HA1.out.blk (blk_far (blk_set (blk_drewN (alloc3_b _ _ _ _) _) 0 _) (by dsimp only; omega) _) (by omega)); have HS1 := Aside0.mk (HA1.out.blk (blk_far (blk_far (blk_drewN (alloc3_a _ _ _ _) _) (by dsimp only; omega) _) (by dsimp only; omega) _) (by omega)); have HB1 := Aside0.mk ((((pw_below_drewN (alloc3_below _ _ _ _) _).setCell (p := ⟨w.heap.size + 1, 0, none⟩) (by dsimp only; omega) _).setCell (p := ⟨w.heap.size + 1 + 1, 0, none⟩) (by dsimp only; omega) _).trans (HA1.out.os _ (by omega))); have hc1 := (blk_cell HT1.out 1).trans rfl; have hf1 := blk_frozen HT1.out 1; have hck := (blk_cell HK1.out 0).trans rfl) | (go_at_call 61; refine (HG'.out _ (blk_far HK1.out (by dsimp only; omega) _) (blk_far HS1.out (by dsimp only; omega) _)).mono ?_; rintro e w' ⟨rfl, ⟨nd3, rfl⟩⟩))
                go_meet
                case rel => exact ⟨rfl, rfl, ⟨blk_drewN (blk_set HT1.out 1 _) _, blk_drewN (blk_far HK1.out (by dsimp only; omega) _) _, pw_below_drewN (HB1.out.setCell (by dsimp only; omega) _) _⟩⟩
              · rw [hgo] at HG hr6
                simp only [if_true, Option.some.injEq, Prod.mk.injEq] at hr6
                obtain ⟨rfl, rfl, rfl, rfl, rfl, rfl, rfl⟩ := hr6
                have HG' := Aside0.mk HG
                clear H hgo HG
                go_wp2_with (first | (go_at_call 62; refine (HL'.out _).mono ?_; rintro e w' ⟨rfl, ⟨nd, rfl⟩⟩) | (go_at_call 64; refine (HF'.out _).mono ?_; rintro e w' ⟨rfl, ⟨nd2, rfl⟩⟩) | (go_at_call 60; refine (HT'.out _ _ _ (by omega) (by omega) ((blk_set (blk_far (blk_drewN (alloc3_c _ _ _ _) _) (by dsimp only; omega) _) 0 _).trans (by go_num)) (blk_far (blk_far (blk_drewN (alloc3_a _ _ _ _) _) (by dsimp only; omega) _) (by dsimp only; omega) _)).mono ?_; rintro e w1 ⟨rfl, HK1, HA1⟩; have HT1 := Aside0.mk (HA1.out.blk (blk_far (blk_set (blk_drewN (alloc3_b _ _ _ _) _) 0 _) (by dsimp only; omega) _) (by omega)); have HS1 := Aside0.mk (HA1.out.blk (blk_far (blk_far (blk_drewN (alloc3_a _ _ _ _) _) (by dsimp only; omega) _) (by dsimp only; omega) _) (by omega)); have HB1 := Aside0.mk ((((pw_below_drewN (alloc3_below _ _ _ _) _).setCell (p := ⟨w.heap.size + 1, 0, none⟩) (by dsimp only; omega) _).setCell (p := ⟨w.heap.size + 1 + 1, 0, none⟩) (by dsimp only; omega) _).trans (HA1.out.os _ (by omega))); have hc1 := (blk_cell HT1.out 1).trans rfl; have hf1 := blk_frozen HT1.out 1; have hck := (blk_cell HK1.out 0).trans rfl) | (go_at_call 61; refine (HG'.out _ (blk_far HK1.out (by dsimp only; omega) _) (blk_far HS1.out (by dsimp only; omega) _)).mono ?_; rintro e w' ⟨rfl, ⟨nd3, rfl⟩⟩))
                go_quiet (fail)
                go_wp2
                go_meet
                case rel => exact ⟨rfl, rfl, ⟨blk_drewN (blk_drewN (blk_set HT1.out 1 _) _) _, blk_drewN (blk_drewN (blk_far HK1.out (by dsimp only; omega) _) _) _, pw_below_drewN (pw_below_drewN (HB1.out.setCell (by dsimp only; omega) _) _) _⟩⟩
        · have hq36 : (bt a0 i == 36) = false := by simpa using h36
          rw [if_neg h36] at H
          clear h36
          by_cases hsg : bt a0 i = 40 ∨ bt a0 i = 41 ∨ bt a0 i = 44 ∨ bt a0 i = 61 ∨ bt a0 i = 59
          · have hr6 := H.out
            rw [if_pos hsg] at hr6
            simp only [Option.some.injEq, Prod.mk.injEq] at hr6
            obtain ⟨rfl, rfl, rfl, rfl, rfl, rfl, rfl⟩ := hr6
            clear H
            have hsl : ∀ W : World, (Instr.slice 9 (.string a0) (some (.int .i64 i)) (some (.int .i64 ((i : Int) + 1))) none).run Tryd.prog W = .ok (.string (a0.extract i (i + 1))) W := by
              intro W
              have h := run_slice_string (P := Tryd.prog) (w := W) 9 a0 .i64 .i64 (i : Int) ((i : Int) + 1) Tryd.underlying9 (by omega) (by omega) (by omega)
              rw [h, show ((i : Int) + 1).toNat = i + 1 by omega, Int.toNat_natCast]
            rcases hsg with g | g | g | g | g
            · have q40 : (bt a0 i == 40) = true := by rw [g]; rfl
              clear g
              go_wp2_with (first | (go_at_call 62; refine (HL'.out _).mono ?_; rintro e w' ⟨rfl, ⟨nd, rfl⟩⟩) | (go_at_call 64; refine (HF'.out _).mono ?_; rintro e w' ⟨rfl, ⟨nd2, rfl⟩⟩))
              go_meet
              case rel => exact ⟨rfl, rfl, ⟨blk_far (blk_set (blk_set (blk_drewN (alloc3_b _ _ _ _) _) 0 _) 1 _) (by dsimp only; omega) _, blk_set (blk_far (blk_far (blk_drewN (alloc3_c _ _ _ _) _) (by dsimp only; omega) _) (by dsimp only; omega) _) 0 _, (((pw_below_drewN (alloc3_below _ _ _ _) _).setCell (by dsimp only; omega) _).setCell (by dsimp only; omega) _).setCell (by dsimp only; omega) _⟩⟩
            · have q40 : (bt a0 i == 40) = false := by rw [g]; rfl
              have q41 : (bt a0 i == 41) = true := by rw [g]; rfl
              clear g
              go_wp2_with (first | (go_at_call 62; refine (HL'.out _).mono ?_; rintro e w' ⟨rfl, ⟨nd, rfl⟩⟩) | (go_at_call 64; refine (HF'.out _).mono ?_; rintro e w' ⟨rfl, ⟨nd2, rfl⟩⟩))
              go_meet
              case rel => exact ⟨rfl, rfl, ⟨blk_far (blk_set (blk_set (blk_drewN (alloc3_b _ _ _ _) _) 0 _) 1 _) (by dsimp only; omega) _, blk_set (blk_far (blk_far (blk_drewN (alloc3_c _ _ _ _) _) (by dsimp only; omega) _) (by dsimp only; omega) _) 0 _, (((pw_below_drewN (alloc3_below _ _ _ _) _).setCell (by dsimp only; omega) _).setCell (by dsimp only; omega) _).setCell (by dsimp only; omega) _⟩⟩
            · have q40 : (bt a0 i == 40) = false := by rw [g]; rfl
              have q41 : (bt a0 i == 41) = false := by rw [g]; rfl
              have q44 : (bt a0 i == 44) = true := by rw [g]; rfl
              clear g
              go_wp2_with (first | (go_at_call 62; refine (HL'.out _).mono ?_; rintro e w' ⟨rfl, ⟨nd, rfl⟩⟩) | (go_at_call 64; refine (HF'.out _).mono ?_; rintro e w' ⟨rfl, ⟨nd2, rfl⟩⟩))
              go_meet
              case rel => exact ⟨rfl, rfl, ⟨blk_far (blk_set (blk_set (blk_drewN (alloc3_b _ _ _ _) _) 0 _) 1 _) (by dsimp only; omega) _, blk_set (blk_far (blk_far (blk_drewN (alloc3_c _ _ _ _) _) (by dsimp only; omega) _) (by dsimp only; omega) _) 0 _, (((pw_below_drewN (alloc3_below _ _ _ _) _).setCell (by dsimp only; omega) _).setCell (by dsimp only; omega) _).setCell (by dsimp only; omega) _⟩⟩
            · have q40 : (bt a0 i == 40) = false := by rw [g]; rfl
              have q41 : (bt a0 i == 41) = false := by rw [g]; rfl
              have q44 : (bt a0 i == 44) = false := by rw [g]; rfl
              have q61 : (bt a0 i == 61) = true := by rw [g]; rfl
              clear g
              go_wp2_with (first | (go_at_call 62; refine (HL'.out _).mono ?_; rintro e w' ⟨rfl, ⟨nd, rfl⟩⟩) | (go_at_call 64; refine (HF'.out _).mono ?_; rintro e w' ⟨rfl, ⟨nd2, rfl⟩⟩))
              go_meet
              case rel => exact ⟨rfl, rfl, ⟨blk_far (blk_set (blk_set (blk_drewN (alloc3_b _ _ _ _) _) 0 _) 1 _) (by dsimp only; omega) _, blk_set (blk_far (blk_far (blk_drewN (alloc3_c _ _ _ _) _) (by dsimp only; omega) _) (by dsimp only; omega) _) 0 _, (((pw_below_drewN (alloc3_below _ _ _ _) _).setCell (by dsimp only; omega) _).setCell (by dsimp only; omega) _).setCell (by dsimp only; omega) _⟩⟩
            · have q40 : (bt a0 i == 40) = false := by rw [g]; rfl
              have q41 : (bt a0 i == 41) = false := by rw [g]; rfl
              have q44 : (bt a0 i == 44) = false := by rw [g]; rfl
              have q61 : (bt a0 i == 61) = false := by rw [g]; rfl
              have q59 : (bt a0 i == 59) = true := by rw [g]; rfl
              clear g
              go_wp2_with (first | (go_at_call 62; refine (HL'.out _).mono ?_; rintro e w' ⟨rfl, ⟨nd, rfl⟩⟩) | (go_at_call 64; refine (HF'.out _).mono ?_; rintro e w' ⟨rfl, ⟨nd2, rfl⟩⟩))
              go_meet
              case rel => exact ⟨rfl, rfl, ⟨blk_far (blk_set (blk_set (blk_drewN (alloc3_b _ _ _ _) _) 0 _) 1 _) (by dsimp only; omega) _, blk_set (blk_far (blk_far (blk_drewN (alloc3_c _ _ _ _) _) (by dsimp only; omega) _) (by dsimp only; omega) _) 0 _, (((pw_below_drewN (alloc3_below _ _ _ _) _).setCell (by dsimp only; omega) _).setCell (by dsimp only; omega) _).setCell (by dsimp only; omega) _⟩⟩
          · have hr6 := H.out
            rw [if_neg hsg] at hr6
            simp only [Option.some.injEq, Prod.mk.injEq] at hr6
            obtain ⟨rfl, rfl, rfl, rfl, rfl, rfl, rfl⟩ := hr6
            clear H
            simp only [not_or] at hsg
            obtain ⟨g1, g2, g3, g4, g5⟩ := hsg
            have q1 : (bt a0 i == 40) = false := by simpa using g1
            have q2 : (bt a0 i == 41) = false := by simpa using g2
            have q3 : (bt a0 i == 44) = false := by simpa using g3
            have q4 : (bt a0 i == 61) = false := by simpa using g4
            have q5 : (bt a0 i == 59) = false := by simpa using g5
            clear g1 g2 g3 g4 g5
            go_wp2_with (first | (go_at_call 62; refine (HL'.out _).mono ?_; rintro e w' ⟨rfl, ⟨nd, rfl⟩⟩) | (go_at_call 64; refine (HF'.out _).mono ?_; rintro e w' ⟨rfl, ⟨nd2, rfl⟩⟩))
            go_meet
            case rel => exact ⟨rfl, rfl, ⟨blk_set (blk_drewN (alloc3_b _ _ _ _) _) 0 _, blk_far (blk_drewN (alloc3_c _ _ _ _) _) (by dsimp only; omega) _, (pw_below_drewN (alloc3_below _ _ _ _) _).setCell (by dsimp only; omega) _⟩⟩
      · rw [hf] at HF' H
        simp only [if_true] at H
        clear hf
        have hall := lexEnd_all pFigure a0 (a0.size - i) i
        generalize hK : lexEnd pFigure a0 (a0.size - i) i = K at H hall
        have hKs : i ≤ K ∧ K ≤ a0.size := by have := lexEnd_le pFigure a0 (a0.size - i) i (by omega); omega
        have hdig : ∀ j, j < (a0.extract i K).size → 48 ≤ bt (a0.extract i K) j ∧ bt (a0.extract i K) j ≤ 57 := by
          intro j hj
          rw [ByteArray.size_extract] at hj
          rw [bt_extract a0 i K j hKs.2 (by omega)]
          have := hall (i + j) (by omega) (by omega)
          simpa [pFigure] using this
        clear hall
        generalize hS : a0.extract i K = S at H hdig
        obtain ⟨hK1, hK2⟩ := hKs
        have hSz : S.size = K - i := by rw [← hS, ByteArray.size_extract]; omega
        have HT := take_named 64 pFigure (enters_of Tryd.func64 (by kernel_rfl) rfl) figure_calls a0 i S K hK hS
        have HT' := Aside0.mk HT
        have HSz := Aside0.mk hSz
        have HD := Aside0.mk hdig
        have hS9 : S.size ≤ 140737488351232 := by omega
        clear HT hS hK hSz hdig
        have kc := print_bytes (P := Tryd.prog) 9 50 5 Tryd.underlying9 Tryd.underlying50 Tryd.underlying5 S
        go_wp2_with (first | (go_at_call 62; refine (HL'.out _).mono ?_; rintro e w' ⟨rfl, ⟨nd, rfl⟩⟩) | (go_at_call 64; refine (HF'.out _).mono ?_; rintro e w' ⟨rfl, ⟨nd2, rfl⟩⟩) | (go_at_call 60; refine (HT'.out _ _ _ (by omega) (by omega) (blk_far (blk_drewN (alloc3_c _ _ _ _) _) (by simp) _) (blk_far (blk_drewN (alloc3_a _ _ _ _) _) (by simp) _)).mono ?_; rintro e w1 ⟨rfl, HK1, HA1⟩; have HT1 := Aside0.mk (HA1.out.blk (blk_set (blk_drewN (alloc3_b _ _ _ _) _) 0 _) (by omega)); have HB1 := Aside0.mk (((pw_below_drewN (alloc3_below _ _ _ _) _).setCell (p := ⟨w.heap.size + 1, 0, none⟩) (by simp) _).trans (HA1.out.os _ (by omega)))))
        have HS1 := Aside0.mk (HA1.out.blk (blk_far (blk_drewN (alloc3_a _ _ _ _) _) (by simp) _) (by omega))
        have hsz1 : w.heap.size + 1 + 1 < w1.heap.size := blk_lt HK1.out
        have HR1 := Aside0.mk (bytes_reads w1 5 S (by omega))
        clear kc HT' HA1
        go_loopg [58] S.size (fun kx v58 wr => ∃ j : Nat, j ≤ S.size ∧ S.size - j ≤ kx ∧ v58 = .int .i64 j ∧ Aside0 (OneMid w 1 ⟨#[]⟩ (lexNum ((bytesOf S).take j)) i K wr) ∧ Aside0 (ReadsInt wr .u8 (some ⟨w1.heap.size, 0, none⟩) S.size (bytesOf S)) ∧ Aside0 (wr.heap[w.heap.size]? = some (.cells #[.string a0] 9 (0, 0))))
        case atStart => exact ⟨0, Nat.zero_le _, Nat.le_refl _, rfl, ⟨⟨(Lib.bytesWorld_at_old _ _ _ _ (by omega)).trans HT1.out, (Lib.bytesWorld_at_old _ _ _ _ (by omega)).trans HK1.out, bytes_below HB1.out (by omega) _ _⟩⟩, HR1, ⟨(Lib.bytesWorld_at_old _ _ _ _ (by omega)).trans HS1.out⟩⟩
        case round =>
          obtain ⟨j, hj, hgj, rfl, HM, HR, HS0⟩ := hrel
          clear HL' HF'
          by_cases hlt : j < S.size
          · have hlt1 : decide ((j : Int) < (S.size : Int)) = true := by simpa using hlt
            have hlt2 : decide (j < S.size) = true := by simpa using hlt
            have hcb : wr.cell? ⟨w1.heap.size, j, none⟩ = some (.int .u8 (bt S j)) := by
              obtain ⟨ad, e1, hc⟩ := HR.out.at_ j (by omega) (by omega)
              injection e1 with e1
              subst e1
              rw [Int.toNat_natCast, add_plain, rd_bytesOf] at hc
              exact hc
            obtain ⟨hb1, hb2⟩ := HD.out j hlt
            have hsn := lexNum_snoc ((bytesOf S).take j) (bt S j)
            rw [← bytesOf_take S j hlt] at hsn
            have hN := lexNum_range ((bytesOf S).take j) (by
              intro x hx
              obtain ⟨q, hq, rfl⟩ := List.mem_iff_getElem.1 (List.mem_of_mem_take hx)
              have hq' : q < S.size := by rw [bytesOf_length] at hq; exact hq
              have := bytesOf_get S q hq'
              rw [List.getElem?_eq_getElem hq] at this
              injection this with this
              rw [this]
              exact HD.out q hq')
            have HSN := Aside0.mk hsn
            clear hsn
            generalize lexNum ((bytesOf S).take j) = N at HM HSN hN
            generalize bt S j = b at hcb hb1 hb2 HSN
            obtain ⟨hN1, hN2⟩ := hN
            have hcN : wr.cell? ⟨w.heap.size + 1, 2, none⟩ = some (.int .i64 N) := (blk_cell HM.out.1 2).trans rfl
            have hfN : wr.frozen? ⟨w.heap.size + 1, 2, none⟩ = false := blk_frozen HM.out.1 2
            go_wp2
            all_goals
              go_roundg (S.size - (j + 1))
              case rel => exact ⟨j + 1, by omega, Nat.le_refl _, by go_num, ⟨(blk_set HM.out.1 2 _).trans (by rw [HSN.out]; unfold mn; first | (rw [if_neg (by omega)]; rfl) | (rw [if_pos (by omega)]; rfl)), blk_far HM.out.2.1 (by simp) _, HM.out.2.2.setCell (by simp) _⟩, ⟨ReadsInt.far_ HR.out (by simp; omega) _⟩, ⟨blk_far HS0.out (by simp) _⟩⟩
              case measure => omega
          · have hlt1 : decide ((j : Int) < (S.size : Int)) = false := by simpa using hlt
            have hlt2 : decide (j < S.size) = false := by simpa using hlt
            obtain rfl : j = S.size := by omega
            have hfull : (bytesOf S).take S.size = bytesOf S := List.take_of_length_le (by rw [bytesOf_length]; exact Nat.le_refl _)
            rw [hfull] at HM
            clear hfull
            generalize lexNum (bytesOf S) = N at HM H
            have hck : wr.cell? ⟨w.heap.size + 1 + 1, 0, none⟩ = some (.int .i64 K) := (blk_cell HM.out.2.1 0).trans rfl
            by_cases hlong : i + 9 < K
            · have hq : decide ((9 : Int) < (K : Int) - (i : Int)) = true := by simp; omega
              have hr6 := H.out
              rw [if_pos hlong] at hr6
              simp only [Option.some.injEq, Prod.mk.injEq] at hr6
              obtain ⟨rfl, rfl, rfl, rfl, rfl, rfl, rfl⟩ := hr6
              clear H
              go_wp2_with (fail)
              go_meet
              case rel => exact ⟨rfl, rfl, HM⟩
            · have hq : decide ((9 : Int) < (K : Int) - (i : Int)) = false := by simp; omega
              have hr6 := H.out
              rw [if_neg hlong] at hr6
              have HG := goes_calls a0 K (w.heap.size + 1 + 1) w.heap.size wr (by omega) HM.out.2.1 HS0.out
              cases hgo : pGoes a0 K
              · rw [hgo] at HG hr6
                simp only [Bool.false_eq_true, if_false, Option.some.injEq, Prod.mk.injEq] at hr6
                obtain ⟨rfl, rfl, rfl, rfl, rfl, rfl, rfl⟩ := hr6
                have HG' := Aside0.mk HG
                clear H hgo HG
                go_wp2_with (go_at_call 61; refine HG'.out.mono ?_; rintro e w' ⟨rfl, ⟨nd, rfl⟩⟩)
                go_meet
                case rel => exact ⟨rfl, rfl, ⟨blk_drewN HM.out.1 _, blk_drewN HM.out.2.1 _, pw_below_drewN HM.out.2.2 _⟩⟩
              · rw [hgo] at HG hr6
                simp only [if_true, Option.some.injEq, Prod.mk.injEq] at hr6
                obtain ⟨rfl, rfl, rfl, rfl, rfl, rfl, rfl⟩ := hr6
                have HG' := Aside0.mk HG
                clear H hgo HG
                go_wp2_with (go_at_call 61; refine HG'.out.mono ?_; rintro e w' ⟨rfl, ⟨nd, rfl⟩⟩)
                go_quiet (fail)
                go_wp2
                go_meet
                case rel => exact ⟨rfl, rfl, ⟨blk_drewN (blk_drewN HM.out.1 _) _, blk_drewN (blk_drewN HM.out.2.1 _) _, pw_below_drewN (pw_below_drewN HM.out.2.2 _) _⟩⟩
    · rw [hl] at HL' H
      simp only [if_true] at H
      clear hl HF'
      generalize hK : lexEnd pWord a0 (a0.size - i) i = K at H
      generalize hS : a0.extract i K = S at H
      have hKs : i ≤ K ∧ K ≤ a0.size := by have := lexEnd_le pWord a0 (a0.size - i) i (by omega); omega
      obtain ⟨hK1, hK2⟩ := hKs
      have hSz : S.size = K - i := by rw [← hS, ByteArray.size_extract]; omega
      have HT := take_named 63 pWord (enters_of Tryd.func63 (by kernel_rfl) rfl) word_calls a0 i S K hK hS
      have HT' := Aside0.mk HT
      have HSz := Aside0.mk hSz
      clear HT hS hK hSz
      by_cases hlong : i + 16 < K
      · have hl1 : decide ((16 : Int) < (S.size : Int)) = true := by rw [HSz.out]; simp; omega
        have hl2 : decide (16 < S.size) = true := by rw [HSz.out]; simp; omega
        have hr6 := H.out
        rw [if_pos hlong] at hr6
        simp only [Option.some.injEq, Prod.mk.injEq] at hr6
        obtain ⟨rfl, rfl, rfl, rfl, rfl, rfl, rfl⟩ := hr6
        clear H
        go_wp2_with (first | (go_at_call 62; refine (HL'.out _).mono ?_; rintro e w' ⟨rfl, ⟨nd, rfl⟩⟩) | (go_at_call 60; refine (HT'.out _ _ _ (by omega) (by omega) (blk_drewN (alloc3_c _ _ _ _) _) (blk_drewN (alloc3_a _ _ _ _) _)).mono ?_; rintro e w1 ⟨rfl, HK1, HA1⟩; have HT1 := Aside0.mk (HA1.out.blk (blk_drewN (alloc3_b _ _ _ _) _) (by omega)); have hc1 := (blk_cell HT1.out 1).trans rfl; have hf1 := blk_frozen HT1.out 1))
        go_meet
        case rel => exact ⟨rfl, rfl, ⟨blk_set HT1.out 1 _, blk_far HK1.out (by simp) _, ((pw_below_drewN (alloc3_below _ _ _ _) _).trans (HA1.out.os _ (by omega))).setCell (by simp) _⟩⟩
      · have hl1 : decide ((16 : Int) < (S.size : Int)) = false := by rw [HSz.out]; simp; omega
        have hl2 : decide (16 < S.size) = false := by rw [HSz.out]; simp; omega
        have hr6 := H.out
        rw [if_neg hlong] at hr6
        simp only [Option.some.injEq, Prod.mk.injEq] at hr6
        obtain ⟨rfl, rfl, rfl, rfl, rfl, rfl, rfl⟩ := hr6
        clear H
        go_wp2_with (first | (go_at_call 62; refine (HL'.out _).mono ?_; rintro e w' ⟨rfl, ⟨nd, rfl⟩⟩) | (go_at_call 60; refine (HT'.out _ _ _ (by omega) (by omega) (blk_drewN (alloc3_c _ _ _ _) _) (blk_drewN (alloc3_a _ _ _ _) _)).mono ?_; rintro e w1 ⟨rfl, HK1, HA1⟩; have HT1 := Aside0.mk (HA1.out.blk (blk_drewN (alloc3_b _ _ _ _) _) (by omega)); have hc1 := (blk_cell HT1.out 1).trans rfl; have hf1 := blk_frozen HT1.out 1))
        go_meet
        case rel => exact ⟨rfl, rfl, ⟨blk_set HT1.out 1 _, blk_far HK1.out (by simp) _, ((pw_below_drewN (alloc3_below _ _ _ _) _).trans (HA1.out.os _ (by omega))).setCell (by simp) _⟩⟩
  case rest =>
    clear H
    obtain ⟨rfl, rfl, HM⟩ := hcut
    have hk : wc.cell? ⟨w.heap.size + 1 + 1, 0, none⟩ = some _ := (blk_cell HM.out.2.1 0).trans rfl
    have h0 : wc.cell? ⟨w.heap.size + 1, 0, none⟩ = some _ := (blk_cell HM.out.1 0).trans rfl
    have h1 : wc.cell? ⟨w.heap.size + 1, 1, none⟩ = some _ := (blk_cell HM.out.1 1).trans rfl
    have h2 : wc.cell? ⟨w.heap.size + 1, 2, none⟩ = some _ := (blk_cell HM.out.1 2).trans rfl
    have h3 : wc.cell? ⟨w.heap.size + 1, 3, none⟩ = some _ := (blk_cell HM.out.1 3).trans rfl
    have fk : wc.frozen? ⟨w.heap.size + 1 + 1, 0, none⟩ = false := blk_frozen HM.out.2.1 0
    have f0 : wc.frozen? ⟨w.heap.size + 1, 0, none⟩ = false := blk_frozen HM.out.1 0
    have f1 : wc.frozen? ⟨w.heap.size + 1, 1, none⟩ = false := blk_frozen HM.out.1 1
    have f2 : wc.frozen? ⟨w.heap.size + 1, 2, none⟩ = false := blk_frozen HM.out.1 2
    have f3 : wc.frozen? ⟨w.heap.size + 1, 3, none⟩ = false := blk_frozen HM.out.1 3
    clear HL' HF' hb hd
    go_wp2
    go_region
    go_wp2
    refine bodyPost_ret (v := .tuple #[.agg #[.int .i64 r1, .string r2, .int .i64 r3, .int .i64 r4], .int .i64 r5, .int .i64 r6, .int .i64 r7]) ?hres rfl ?_
    case hres => exact results70 _ _ _ _ _ _ _ _ _ rfl rfl (blk_drew (blk_far (blk_set (blk_set (blk_set (blk_set HM.out.1 0 _) 1 _) 2 _) 3 _) (by simp) _)) (blk_drew (blk_set (blk_far (blk_far (blk_far (blk_far HM.out.2.1 (by simp) _) (by simp) _) (by simp) _) (by simp) _) 0 _))
    exact ⟨rfl, below_drew (((((HM.out.2.2.setCell (by simp) _).setCell (by simp) _).setCell (by simp) _).setCell (by simp) _).setCell (by simp; omega) _)⟩

end Go.Proofs.YtknbfhhmjbnemaaDoor.P
end
section
namespace Go.Proofs.YtknbfhhmjbnemaaDoor.P
open Go.RowKit Go.Proofs.YtknbfhhmjbnemaaDoorW.PrintWords Go.Proofs.YtknbfhhmjbnemaaDoorW.PrintLast Go.Proofs.YtknbfhhmjbnemaaDoorW.PrintMore
attribute [local go_sem] max2_int min2_int max_two min_two max_three min_three max_four min_four   -- for this text's walks alone
set_option linter.unusedVariables false
set_option linter.unusedSimpArgs false

/-! ### stringslite_HasPrefix: function 84 -/
def stringslite_HasPrefix.f (a0 : ByteArray) (a1 : ByteArray) : Option (Bool) := if (a0.size : Int) ≥ (a1.size : Int) then (if 0 ≤ (a1.size : Int) then (if (a1.size : Int) ≤ (a0.size : Int) then (some ((a0.extract 0 ((a1.size : Int) : Int).toNat).toList == a1.toList)) else (none)) else (none)) else (some false)
set_option maxHeartbeats 8000000 in
set_option maxRecDepth 100000 in
theorem stringslite_HasPrefix.calls (a0 : ByteArray) (a1 : ByteArray) (r : Bool) (w : World) (h : stringslite_HasPrefix.f a0 a1 = some r) :
    Calls Tryd.prog 84 #[.string a0, .string a1] w fun e w' => e = .returned (.bool r) ∧ Drawn0 w w' := by
  have H : (if (a0.size : Int) ≥ (a1.size : Int) then (if 0 ≤ (a1.size : Int) then (if (a1.size : Int) ≤ (a0.size : Int) then (some ((a0.extract 0 ((a1.size : Int) : Int).toNat).toList == a1.toList)) else (none)) else (none)) else (some false)) = some r := h
  clear h
  by_cases c3 : (a0.size : Int) ≥ (a1.size : Int)
  · rw [if_pos c3] at H
    have c3b0 : decide ((a1.size : Int) ≤ (a0.size : Int)) = true := decide_eq_true c3
    have c3b1 : decide (a1.size ≤ a0.size) = true := decide_eq_true (Int.ofNat_le.mp c3)
    clear c3
    by_cases c4 : 0 ≤ (a1.size : Int)
    · rw [if_pos c4] at H
      have c4b0 := eq_true c4
      have c4b1 : decide (0 ≤ (a1.size : Int)) = true := decide_eq_true c4
      clear c4
      by_cases c5 : (a1.size : Int) ≤ (a0.size : Int)
      · rw [if_pos c5] at H
        have c5b0 := eq_true c5
        have c5b1 : decide ((a1.size : Int) ≤ (a0.size : Int)) = true := decide_eq_true c5
        clear c5
        obtain rfl := Option.some.inj H
        go_enter Tryd.func84, Tryd.ntmps84
        go_wp2
        go_ret
        exact ⟨by first | rfl | (simp; done) | (simp [*]; done), by repeat (first | exact Drawn0.refl _ | apply Drawn0.step)⟩
      · rw [if_neg c5] at H
        exact absurd H (by simp)
    · rw [if_neg c4] at H
      exact absurd H (by simp)
  · rw [if_neg c3] at H
    have c3b0 : decide ((a1.size : Int) ≤ (a0.size : Int)) = false := decide_eq_false c3
    have c3b1 : decide (a1.size ≤ a0.size) = false := decide_eq_false (fun h => c3 (Int.ofNat_le.mpr h))
    clear c3
    obtain rfl := Option.some.inj H
    go_enter Tryd.func84, Tryd.ntmps84
    go_wp2
    go_ret
    exact ⟨by first | rfl | (simp; done) | (simp [*]; done), by repeat (first | exact Drawn0.refl _ | apply Drawn0.step)⟩

end Go.Proofs.YtknbfhhmjbnemaaDoor.P
end
section
namespace Go.Proofs.YtknbfhhmjbnemaaDoor.P
open Go.RowKit Go.Proofs.YtknbfhhmjbnemaaDoorW.PrintWords Go.Proofs.YtknbfhhmjbnemaaDoorW.PrintLast Go.Proofs.YtknbfhhmjbnemaaDoorW.PrintMore
attribute [local go_sem] max2_int min2_int max_two min_two max_three min_three max_four min_four   -- for this text's walks alone
set_option linter.unusedVariables false
set_option linter.unusedSimpArgs false

/-! ### strings_HasPrefix: function 59 -/
def strings_HasPrefix.f (a0 : ByteArray) (a1 : ByteArray) : Option (Bool) := (stringslite_HasPrefix.f a0 a1).bind fun t101 => (some t101)
set_option maxHeartbeats 8000000 in
set_option maxRecDepth 100000 in
theorem strings_HasPrefix.calls (a0 : ByteArray) (a1 : ByteArray) (r : Bool) (w : World) (h : strings_HasPrefix.f a0 a1 = some r) :
    Calls Tryd.prog 59 #[.string a0, .string a1] w fun e w' => e = .returned (.bool r) ∧ Drawn0 w w' := by
  have H : ((stringslite_HasPrefix.f a0 a1).bind fun t101 => (some t101)) = some r := h
  clear h
  replace H := Option.bind_eq_some_iff.mp H
  obtain ⟨t101, A30, H⟩ := H
  replace H : (some t101) = some r := H
  have A3 := Aside0.mk A30
  clear A30
  obtain rfl := Option.some.inj H
  go_enter Tryd.func59, Tryd.ntmps59
  go_wp2_with (first | ((with_reducible refine gate_callee (f := 84) rfl ?_); refine goesL_ (some 7) rfl rfl Tryd.func84 (by kernel_rfl) rfl #[.string a0, .string a1] rfl (by (try simp only [List.map_toArray, List.map_cons, List.map_nil]); first | done | rfl | (simp only [List.length_drop, List.length_take]; rfl)) ?_; (with_reducible refine (stringslite_HasPrefix.calls a0 a1 t101 _ A3.out).mono ?_); rintro e w' ⟨rfl, ⟨nd, rfl⟩⟩; refine ⟨_, rfl, ?_⟩))
  go_ret
  exact ⟨by first | rfl | (simp; done) | (simp [*]; done), by repeat (first | exact Drawn0.refl _ | apply Drawn0.step)⟩

end Go.Proofs.YtknbfhhmjbnemaaDoor.P
end
section
namespace Go.Proofs.YtknbfhhmjbnemaaDoor.P
open Go.RowKit Go.Proofs.YtknbfhhmjbnemaaDoorW.PrintWords Go.Proofs.YtknbfhhmjbnemaaDoorW.PrintLast Go.Proofs.YtknbfhhmjbnemaaDoorW.PrintMore
attribute [local go_sem] max2_int min2_int max_two min_two max_three min_three max_four min_four   -- for this text's walks alone
set_option linter.unusedVariables false
set_option linter.unusedSimpArgs false

/-! ### strings_IndexByte: function 58 -/
-- IMPORTS Derived.Test.YtknbfhhmjbnemaaDoorShelf
def strings_IndexByte.f (a0 : ByteArray) (a1 : Int) : Option (Int) := some (Lib.indexByte a0.data.toList a1.toNat.toUInt8)
theorem strings_IndexByte.calls (a0 : ByteArray) (a1 : Int) (r : Int) (w : World) (h : strings_IndexByte.f a0 a1 = some r) :
    Calls Tryd.prog 58 #[.string a0, .int .u8 a1] w fun e w' => e = .returned (.int .i64 r) ∧ Drawn0 w w' := by
  obtain rfl := Option.some.inj h
  refine (Tryd.strings_IndexByte a0 a1 w).mono ?_
  rintro e w' ⟨rfl, rfl⟩
  exact ⟨rfl, Drawn0.refl _⟩

end Go.Proofs.YtknbfhhmjbnemaaDoor.P
end
section
namespace Go.Proofs.YtknbfhhmjbnemaaDoor.P
open Go.RowKit Go.Proofs.YtknbfhhmjbnemaaDoorW.PrintWords Go.Proofs.YtknbfhhmjbnemaaDoorW.PrintLast Go.Proofs.YtknbfhhmjbnemaaDoorW.PrintMore
attribute [local go_sem] max2_int min2_int max_two min_two max_three min_three max_four min_four   -- for this text's walks alone
set_option linter.unusedVariables false
set_option linter.unusedSimpArgs false

/-! ### lex_skip: function 28 -/
def lex_skip.l0 : Nat → ByteArray → Int → Option (Int)
  | 0, _, _ => none
  | k + 1, x0, x1 => if x1 < (x0.size : Int) then (if 0 ≤ x1 then ((strings_IndexByte.f (⟨#[9, 10, 13, 32]⟩ : ByteArray) (bt x0 x1)).bind fun t102 => (if t102 ≥ 0 then (lex_skip.l0 k x0 (wrap64 (x1 + 1))) else (if x1 ≤ (x0.size : Int) then ((strings_HasPrefix.f (x0.extract (x1 : Int).toNat x0.size) (⟨#[47, 47]⟩ : ByteArray)).bind fun t103 => (if t103 = true then ((strings_IndexByte.f (x0.extract (x1 : Int).toNat x0.size) 10).bind fun t104 => (if t104 < 0 then (some (x0.size : Int)) else (lex_skip.l0 k x0 (wrap64 (x1 + t104))))) else (some x1))) else (none)))) else (none)) else (some x1)
def lex_skip.f (k : Nat) (a0 : ByteArray) (a1 : Int) : Option (Int) := lex_skip.l0 k a0 a1
theorem lex_skip.mono_l : ∀ k, (∀ y0 y1, LeO (lex_skip.l0 k y0 y1) (lex_skip.l0 (k + 1) y0 y1))
  | 0 => fun _ _ r h => by simp [lex_skip.l0] at h
  | k + 1 => by
    have ih0 := lex_skip.mono_l k
    · intro y0 y1
      unfold lex_skip.l0
      repeat' first
      | (with_reducible exact ih0 _ _)
      | (with_reducible exact LeO.refl _)
      | (with_reducible exact LeO.none _)
      | (with_reducible refine LeO.ite ?_ ?_)
      | (with_reducible refine LeO.bind ?_ (fun _ => ?_))
      | exact ih0 _ _
      | exact LeO.none _
      | refine LeO.ite ?_ ?_
      | refine LeO.bind ?_ (fun _ => ?_)
theorem lex_skip.mono : ∀ a0 a1 k, LeO (lex_skip.f k a0 a1) (lex_skip.f (k + 1) a0 a1) := by
  intro a0 a1 k
  have ih0 := lex_skip.mono_l k
  unfold lex_skip.f
  repeat' first
      | (with_reducible exact ih0 _ _)
      | (with_reducible exact LeO.refl _)
      | (with_reducible exact LeO.none _)
      | (with_reducible refine LeO.ite ?_ ?_)
      | (with_reducible refine LeO.bind ?_ (fun _ => ?_))
      | exact ih0 _ _
      | exact LeO.none _
      | refine LeO.ite ?_ ?_
      | refine LeO.bind ?_ (fun _ => ?_)
set_option maxHeartbeats 8000000 in
set_option maxRecDepth 100000 in
theorem lex_skip.calls (k : Nat) (a0 : ByteArray) (a1 : Int) (r : Int) (w : World) (h : lex_skip.f k a0 a1 = some r) :
    Calls Tryd.prog 28 #[.string a0, .int .i64 a1] w fun e w' => e = .returned (.int .i64 r) ∧ Drawn0 w w' := by
  have H : (lex_skip.l0 k a0 a1) = some r := h
  clear h
  have H' := Aside0.mk H
  clear H
  go_enter Tryd.func28, Tryd.ntmps28
  go_wp2
  go_loopg [1] k (fun kq v1 w' => ∃ (x1_1 : Int), v1 = .int .i64 x1_1 ∧ Aside0 (lex_skip.l0 kq a0 x1_1 = some r) ∧ Aside0 (kq ≤ k) ∧ Drawn0 w w')
  case atStart => exact ⟨(a1), (by first | rfl | (simp; done) | (simp [*]; done)), H', ⟨Nat.le_refl _⟩, by repeat (first | exact Drawn0.refl _ | apply Drawn0.step)⟩
  case round =>
    clear H'
    try clear c2
    try clear p2
    obtain ⟨x1_1, rfl, HA, HK1, ⟨m1, rfl⟩⟩ := hrel
    cases gk with
    | zero => exact absurd HA.out (by simp [lex_skip.l0])
    | succ k1 =>
      have H := HA.out
      clear HA
      simp only [lex_skip.l0] at H
      by_cases c3 : x1_1 < (a0.size : Int)
      · rw [if_pos c3] at H
        have c3b0 : decide (x1_1 < (a0.size : Int)) = true := decide_eq_true c3
        clear c3
        by_cases c4 : 0 ≤ x1_1
        · rw [if_pos c4] at H
          have c4b0 : decide (0 ≤ x1_1) = true := decide_eq_true c4
          clear c4
          replace H := Option.bind_eq_some_iff.mp H
          obtain ⟨t102, A60, H⟩ := H
          replace H : (if t102 ≥ 0 then (lex_skip.l0 k1 a0 (wrap64 (x1_1 + 1))) else (if x1_1 ≤ (a0.size : Int) then ((strings_HasPrefix.f (a0.extract (x1_1 : Int).toNat a0.size) (⟨#[47, 47]⟩ : ByteArray)).bind fun t103 => (if t103 = true then ((strings_IndexByte.f (a0.extract (x1_1 : Int).toNat a0.size) 10).bind fun t104 => (if t104 < 0 then (some (a0.size : Int)) else (lex_skip.l0 k1 a0 (wrap64 (x1_1 + t104))))) else (some x1_1))) else (none))) = some r := H
          have A6 := Aside0.mk A60
          clear A60
          by_cases c7 : t102 ≥ 0
          · rw [if_pos c7] at H
            have c7b0 : decide (0 ≤ t102) = true := decide_eq_true c7
            clear c7
            have H' := Aside0.mk H
            clear H
            have p5 : 0 ≤ (x1_1 : Int) := of_decide_eq_true (by first | (with_reducible assumption) | assumption)
            have q5 : x1_1 < (a0.size : Int) := of_decide_eq_true (by first | (with_reducible assumption) | assumption)
            have hx5 := bt_at a0 x1_1
            replace p5 := eq_true p5
            replace q5 := eq_true q5
            go_wp2_with (first | ((with_reducible refine gate_callee (f := 58) rfl ?_); refine goesL_ (some 15) rfl rfl Tryd.func58 (by kernel_rfl) rfl #[.string (⟨#[9, 10, 13, 32]⟩ : ByteArray), .int .u8 (bt a0 x1_1)] rfl (by (try simp only [List.map_toArray, List.map_cons, List.map_nil]); first | done | rfl | (simp only [List.length_drop, List.length_take]; rfl)) ?_; (with_reducible refine (strings_IndexByte.calls (⟨#[9, 10, 13, 32]⟩ : ByteArray) (bt a0 x1_1) t102 _ A6.out).mono ?_); rintro e w' ⟨rfl, ⟨nd, rfl⟩⟩; refine ⟨_, rfl, ?_⟩))
            go_roundg k1
            case measure => have := HK1.out; omega
            case rel => exact ⟨(wrap64 (x1_1 + 1)), (by first | rfl | (simp; done) | (simp [*]; done)), H', ⟨by have := HK1.out; omega⟩, by repeat (first | exact Drawn0.refl _ | apply Drawn0.step)⟩
          · rw [if_neg c7] at H
            have c7b0 : decide (0 ≤ t102) = false := decide_eq_false c7
            clear c7
            have c8b0 := eq_true (of_decide_eq_true (by first | (with_reducible assumption) | assumption) : 0 ≤ x1_1)
            by_cases c9 : x1_1 ≤ (a0.size : Int)
            · rw [if_pos c9] at H
              have c9b0 := eq_true c9
              have c9b1 : decide (x1_1 ≤ (a0.size : Int)) = true := decide_eq_true c9
              clear c9
              replace H := Option.bind_eq_some_iff.mp H
              obtain ⟨t103, A100, H⟩ := H
              replace H : (if t103 = true then ((strings_IndexByte.f (a0.extract (x1_1 : Int).toNat a0.size) 10).bind fun t104 => (if t104 < 0 then (some (a0.size : Int)) else (lex_skip.l0 k1 a0 (wrap64 (x1_1 + t104))))) else (some x1_1)) = some r := H
              have A10 := Aside0.mk A100
              clear A100
              by_cases c11 : t103 = true
              · subst c11
                have H1 : ((strings_IndexByte.f (a0.extract (x1_1 : Int).toNat a0.size) 10).bind fun t104 => (if t104 < 0 then (some (a0.size : Int)) else (lex_skip.l0 k1 a0 (wrap64 (x1_1 + t104))))) = some r := by rw [if_pos rfl] at H; exact H
                clear H
                have H := H1
                clear H1
                have c12b0 := eq_true (of_decide_eq_true (by first | (with_reducible assumption) | assumption) : 0 ≤ x1_1)
                have c13b0 := eq_true (of_decide_eq_true (by first | (with_reducible assumption) | assumption) : x1_1 ≤ (a0.size : Int))
                replace H := Option.bind_eq_some_iff.mp H
                obtain ⟨t104, A140, H⟩ := H
                replace H : (if t104 < 0 then (some (a0.size : Int)) else (lex_skip.l0 k1 a0 (wrap64 (x1_1 + t104)))) = some r := H
                have A14 := Aside0.mk A140
                clear A140
                by_cases c15 : t104 < 0
                · rw [if_pos c15] at H
                  have c15b0 : decide (t104 < 0) = true := decide_eq_true c15
                  clear c15
                  obtain rfl := Option.some.inj H
                  have p5 : 0 ≤ (x1_1 : Int) := of_decide_eq_true (by first | (with_reducible assumption) | assumption)
                  have q5 : x1_1 < (a0.size : Int) := of_decide_eq_true (by first | (with_reducible assumption) | assumption)
                  have hx5 := bt_at a0 x1_1
                  replace p5 := eq_true p5
                  replace q5 := eq_true q5
                  go_wp2_with (first | ((with_reducible refine gate_callee (f := 58) rfl ?_); refine goesL_ (some 15) rfl rfl Tryd.func58 (by kernel_rfl) rfl #[.string (⟨#[9, 10, 13, 32]⟩ : ByteArray), .int .u8 (bt a0 x1_1)] rfl (by (try simp only [List.map_toArray, List.map_cons, List.map_nil]); first | done | rfl | (simp only [List.length_drop, List.length_take]; rfl)) ?_; (with_reducible refine (strings_IndexByte.calls (⟨#[9, 10, 13, 32]⟩ : ByteArray) (bt a0 x1_1) t102 _ A6.out).mono ?_); rintro e w' ⟨rfl, ⟨nd, rfl⟩⟩; refine ⟨_, rfl, ?_⟩) | ((with_reducible refine gate_callee (f := 59) rfl ?_); refine goesL_ (some 23) rfl rfl Tryd.func59 (by kernel_rfl) rfl #[.string (a0.extract (x1_1 : Int).toNat a0.size), .string (⟨#[47, 47]⟩ : ByteArray)] rfl (by (try simp only [List.map_toArray, List.map_cons, List.map_nil]); first | done | rfl | (simp only [List.length_drop, List.length_take]; rfl)) ?_; (with_reducible refine (strings_HasPrefix.calls (a0.extract (x1_1 : Int).toNat a0.size) (⟨#[47, 47]⟩ : ByteArray) true _ A10.out).mono ?_); rintro e w' ⟨rfl, ⟨nd, rfl⟩⟩; refine ⟨_, rfl, ?_⟩) | ((with_reducible refine gate_callee (f := 58) rfl ?_); refine goesL_ (some 27) rfl rfl Tryd.func58 (by kernel_rfl) rfl #[.string (a0.extract (x1_1 : Int).toNat a0.size), .int .u8 10] rfl (by (try simp only [List.map_toArray, List.map_cons, List.map_nil]); first | done | rfl | (simp only [List.length_drop, List.length_take]; rfl)) ?_; (with_reducible refine (strings_IndexByte.calls (a0.extract (x1_1 : Int).toNat a0.size) 10 t104 _ A14.out).mono ?_); rintro e w' ⟨rfl, ⟨nd, rfl⟩⟩; refine ⟨_, rfl, ?_⟩))
                  go_ret
                  exact ⟨by first | rfl | (simp; done) | (simp [*]; done), by repeat (first | exact Drawn0.refl _ | apply Drawn0.step)⟩
                · rw [if_neg c15] at H
                  have c15b0 : decide (t104 < 0) = false := decide_eq_false c15
                  clear c15
                  have H' := Aside0.mk H
                  clear H
                  have p5 : 0 ≤ (x1_1 : Int) := of_decide_eq_true (by first | (with_reducible assumption) | assumption)
                  have q5 : x1_1 < (a0.size : Int) := of_decide_eq_true (by first | (with_reducible assumption) | assumption)
                  have hx5 := bt_at a0 x1_1
                  replace p5 := eq_true p5
                  replace q5 := eq_true q5
                  go_wp2_with (first | ((with_reducible refine gate_callee (f := 58) rfl ?_); refine goesL_ (some 15) rfl rfl Tryd.func58 (by kernel_rfl) rfl #[.string (⟨#[9, 10, 13, 32]⟩ : ByteArray), .int .u8 (bt a0 x1_1)] rfl (by (try simp only [List.map_toArray, List.map_cons, List.map_nil]); first | done | rfl | (simp only [List.length_drop, List.length_take]; rfl)) ?_; (with_reducible refine (strings_IndexByte.calls (⟨#[9, 10, 13, 32]⟩ : ByteArray) (bt a0 x1_1) t102 _ A6.out).mono ?_); rintro e w' ⟨rfl, ⟨nd, rfl⟩⟩; refine ⟨_, rfl, ?_⟩) | ((with_reducible refine gate_callee (f := 59) rfl ?_); refine goesL_ (some 23) rfl rfl Tryd.func59 (by kernel_rfl) rfl #[.string (a0.extract (x1_1 : Int).toNat a0.size), .string (⟨#[47, 47]⟩ : ByteArray)] rfl (by (try simp only [List.map_toArray, List.map_cons, List.map_nil]); first | done | rfl | (simp only [List.length_drop, List.length_take]; rfl)) ?_; (with_reducible refine (strings_HasPrefix.calls (a0.extract (x1_1 : Int).toNat a0.size) (⟨#[47, 47]⟩ : ByteArray) true _ A10.out).mono ?_); rintro e w' ⟨rfl, ⟨nd, rfl⟩⟩; refine ⟨_, rfl, ?_⟩) | ((with_reducible refine gate_callee (f := 58) rfl ?_); refine goesL_ (some 27) rfl rfl Tryd.func58 (by kernel_rfl) rfl #[.string (a0.extract (x1_1 : Int).toNat a0.size), .int .u8 10] rfl (by (try simp only [List.map_toArray, List.map_cons, List.map_nil]); first | done | rfl | (simp only [List.length_drop, List.length_take]; rfl)) ?_; (with_reducible refine (strings_IndexByte.calls (a0.extract (x1_1 : Int).toNat a0.size) 10 t104 _ A14.out).mono ?_); rintro e w' ⟨rfl, ⟨nd, rfl⟩⟩; refine ⟨_, rfl, ?_⟩))
                  go_roundg k1
                  case measure => have := HK1.out; omega
                  case rel => exact ⟨(wrap64 (x1_1 + t104)), (by first | rfl | (simp; done) | (simp [*]; done)), H', ⟨by have := HK1.out; omega⟩, by repeat (first | exact Drawn0.refl _ | apply Drawn0.step)⟩
              · replace c11 := Bool.eq_false_iff.mpr c11
                subst c11
                have H1 : (some x1_1) = some r := by rw [if_neg (show ¬ (false = true) by decide)] at H; exact H
                clear H
                have H := H1
                clear H1
                obtain rfl := Option.some.inj H
                have p5 : 0 ≤ (x1_1 : Int) := of_decide_eq_true (by first | (with_reducible assumption) | assumption)
                have q5 : x1_1 < (a0.size : Int) := of_decide_eq_true (by first | (with_reducible assumption) | assumption)
                have hx5 := bt_at a0 x1_1
                replace p5 := eq_true p5
                replace q5 := eq_true q5
                go_wp2_with (first | ((with_reducible refine gate_callee (f := 58) rfl ?_); refine goesL_ (some 15) rfl rfl Tryd.func58 (by kernel_rfl) rfl #[.string (⟨#[9, 10, 13, 32]⟩ : ByteArray), .int .u8 (bt a0 x1_1)] rfl (by (try simp only [List.map_toArray, List.map_cons, List.map_nil]); first | done | rfl | (simp only [List.length_drop, List.length_take]; rfl)) ?_; (with_reducible refine (strings_IndexByte.calls (⟨#[9, 10, 13, 32]⟩ : ByteArray) (bt a0 x1_1) t102 _ A6.out).mono ?_); rintro e w' ⟨rfl, ⟨nd, rfl⟩⟩; refine ⟨_, rfl, ?_⟩) | ((with_reducible refine gate_callee (f := 59) rfl ?_); refine goesL_ (some 23) rfl rfl Tryd.func59 (by kernel_rfl) rfl #[.string (a0.extract (x1_1 : Int).toNat a0.size), .string (⟨#[47, 47]⟩ : ByteArray)] rfl (by (try simp only [List.map_toArray, List.map_cons, List.map_nil]); first | done | rfl | (simp only [List.length_drop, List.length_take]; rfl)) ?_; (with_reducible refine (strings_HasPrefix.calls (a0.extract (x1_1 : Int).toNat a0.size) (⟨#[47, 47]⟩ : ByteArray) false _ A10.out).mono ?_); rintro e w' ⟨rfl, ⟨nd, rfl⟩⟩; refine ⟨_, rfl, ?_⟩))
                go_ret
                exact ⟨by first | rfl | (simp; done) | (simp [*]; done), by repeat (first | exact Drawn0.refl _ | apply Drawn0.step)⟩
            · rw [if_neg c9] at H
              exact absurd H (by simp)
        · rw [if_neg c4] at H
          exact absurd H (by simp)
      · rw [if_neg c3] at H
        have c3b0 : decide (x1_1 < (a0.size : Int)) = false := decide_eq_false c3
        clear c3
        obtain rfl := Option.some.inj H
        go_wp2
        go_ret
        exact ⟨by first | rfl | (simp; done) | (simp [*]; done), by repeat (first | exact Drawn0.refl _ | apply Drawn0.step)⟩

end Go.Proofs.YtknbfhhmjbnemaaDoor.P
end
section
namespace Go.Proofs.YtknbfhhmjbnemaaDoor.P
open Go.RowKit Go.Proofs.YtknbfhhmjbnemaaDoorW.PrintWords Go.Proofs.YtknbfhhmjbnemaaDoorW.PrintLast Go.Proofs.YtknbfhhmjbnemaaDoorW.PrintMore
attribute [local go_sem] max2_int min2_int max_two min_two max_three min_three max_four min_four   -- for this text's walks alone
set_option linter.unusedVariables false
set_option linter.unusedSimpArgs false

/-! ### lex_Scan: function 17 -/
def lex_Scan.l0 : Nat → ByteArray → List (S60) → Int → Option ((List (S60)) × Int × Int)
  | 0, _, _, _ => none
  | k + 1, x0, x5, x6 => if x6 < (x0.size : Int) then (if (x5.length : Int) = 500 then (some (([] : List (S60)), 103, x6)) else ((lex_one.f x0 x6).bind fun bt107 => (if bt107.2.2.2.2.2.1 = 0 then (if x5.length < 3518437208883 then ((lex_skip.f k x0 bt107.2.2.2.2.1).bind fun t118 => (lex_Scan.l0 k x0 (x5 ++ [(⟨bt107.1, bt107.2.1, bt107.2.2.1, bt107.2.2.2.1⟩ : S60)]) t118)) else (none)) else (some (([] : List (S60)), bt107.2.2.2.2.2.1, bt107.2.2.2.2.2.2))))) else (some (x5, 0, (-1)))
def lex_Scan.f (k : Nat) (a0 : ByteArray) : Option ((List (S60)) × Int × Int) := if (a0.size : Int) > 2000 then (some (([] : List (S60)), 103, 0)) else ((lex_skip.f k a0 0).bind fun t106 => (lex_Scan.l0 k a0 ([] : List (S60)) t106))
theorem lex_Scan.mono_l : ∀ k, (∀ y0 y1 y2, LeO (lex_Scan.l0 k y0 y1 y2) (lex_Scan.l0 (k + 1) y0 y1 y2))
  | 0 => fun _ _ _ r h => by simp [lex_Scan.l0] at h
  | k + 1 => by
    have ih0 := lex_Scan.mono_l k
    · intro y0 y1 y2
      unfold lex_Scan.l0
      repeat' first
      | (with_reducible exact ih0 _ _ _)
      | (with_reducible exact lex_skip.mono _ _ _)
      | (with_reducible exact LeO.refl _)
      | (with_reducible exact LeO.none _)
      | (with_reducible refine LeO.ite ?_ ?_)
      | (with_reducible refine LeO.bind ?_ (fun _ => ?_))
      | exact ih0 _ _ _
      | exact lex_skip.mono _ _ _
      | exact LeO.none _
      | refine LeO.ite ?_ ?_
      | refine LeO.bind ?_ (fun _ => ?_)
theorem lex_Scan.mono : ∀ a0 k, LeO (lex_Scan.f k a0) (lex_Scan.f (k + 1) a0) := by
  intro a0 k
  have ih0 := lex_Scan.mono_l k
  unfold lex_Scan.f
  repeat' first
      | (with_reducible exact ih0 _ _ _)
      | (with_reducible exact lex_skip.mono _ _ _)
      | (with_reducible exact LeO.refl _)
      | (with_reducible exact LeO.none _)
      | (with_reducible refine LeO.ite ?_ ?_)
      | (with_reducible refine LeO.bind ?_ (fun _ => ?_))
      | exact ih0 _ _ _
      | exact lex_skip.mono _ _ _
      | exact LeO.none _
      | refine LeO.ite ?_ ?_
      | refine LeO.bind ?_ (fun _ => ?_)
set_option maxHeartbeats 8000000 in
set_option maxRecDepth 100000 in
theorem lex_Scan.calls (k : Nat) (a0 : ByteArray) (r1 : List (S60)) (r2 : Int) (r3 : Int) (w : World) (h : lex_Scan.f k a0 = some (r1, r2, r3)) :
    Calls Tryd.prog 17 #[.string a0] w fun e w' => ∃ v0_ : Value, e = .returned (.tuple #[v0_, .int .i64 r2, .int .i64 r3]) ∧ Kd.R k60 60 w' w.heap.size (fun _ => True) v0_ r1 ∧ Below w.heap.size w w' := by
  have hu60 := Tryd.underlying60
  have HB := Aside0.mk (Below.refl w.heap.size w)
  have H : (if (a0.size : Int) > 2000 then (some (([] : List (S60)), 103, 0)) else ((lex_skip.f k a0 0).bind fun t106 => (lex_Scan.l0 k a0 ([] : List (S60)) t106))) = some (r1, r2, r3) := h
  clear h
  by_cases c2 : (a0.size : Int) > 2000
  · rw [if_pos c2] at H
    have c2b0 : decide (2000 < (a0.size : Int)) = true := decide_eq_true c2
    have c2b1 : decide (2000 < a0.size) = true := decide_eq_true (by omega)
    clear c2
    simp only [Option.some.injEq, Prod.mk.injEq] at H
    obtain ⟨rfl, rfl, rfl⟩ := H
    go_enter Tryd.func17, Tryd.ntmps17
    go_wp2
    go_ret3
    exact ⟨_, by first | rfl | (simp [errW_none, errW_some] <;> rfl) | (simp [*, errW_none, errW_some] <;> rfl), by first | exact Kd.R_nil _ _ _ _ _ | exact Kd.N_nil _ _ _ _ _ | exact Kd.V_nil _ _ _ _ _ | exact Kd.Q_nil _ _ _ _ _ | exact Kd.S_nil _ _ _ _ _, by repeat (first | (with_reducible first | exact HB.out | apply below_alloc | apply pw_below_drewN | apply below_drew1) | exact HB.out)⟩
  · rw [if_neg c2] at H
    have c2b0 : decide (2000 < (a0.size : Int)) = false := decide_eq_false c2
    have c2b1 : decide (2000 < a0.size) = false := decide_eq_false (by omega)
    clear c2
    replace H := Option.bind_eq_some_iff.mp H
    obtain ⟨t106, A30, H⟩ := H
    replace H : (lex_Scan.l0 k a0 ([] : List (S60)) t106) = some (r1, r2, r3) := H
    have A3 := Aside0.mk A30
    clear A30
    have H' := Aside0.mk H
    clear H
    go_enter Tryd.func17, Tryd.ntmps17
    go_wp2_with (first | ((with_reducible refine gate_callee (f := 28) rfl ?_); refine goesL_ (some 15) rfl rfl Tryd.func28 (by kernel_rfl) rfl #[.string a0, .int .i64 0] rfl (by (try simp only [List.map_toArray, List.map_cons, List.map_nil]); first | done | rfl | (simp only [List.length_drop, List.length_take]; rfl)) ?_; (with_reducible refine (lex_skip.calls k a0 0 t106 _ A3.out).mono ?_); rintro e w' ⟨rfl, ⟨nd, rfl⟩⟩; refine ⟨_, rfl, ?_⟩))
    go_loopg [5, 6] k (fun kq v5 v6 w' => ∃ (x5_1 : List (S60)) (x6_1 : Int), v6 = .int .i64 x6_1 ∧ Aside0 (lex_Scan.l0 kq a0 x5_1 x6_1 = some (r1, r2, r3)) ∧ Aside0 (kq ≤ k) ∧ Aside0 (Kd.R k60 60 w' w.heap.size (fun _ => True) v5 x5_1) ∧ Aside0 (Below w.heap.size w w'))
    case atStart => exact ⟨(([] : List (S60))), (t106), (by first | rfl | (simp; done) | (simp [*]; done)), H', ⟨Nat.le_refl _⟩, ⟨by first | exact Kd.R_nil _ _ _ _ _ | exact Kd.N_nil _ _ _ _ _ | exact Kd.V_nil _ _ _ _ _ | exact Kd.Q_nil _ _ _ _ _ | exact Kd.S_nil _ _ _ _ _⟩, ⟨by repeat (first | (with_reducible first | exact HB.out | apply below_alloc | apply pw_below_drewN | apply below_drew1) | exact HB.out)⟩⟩
    case round =>
      clear H'
      try clear c1
      try clear c2
      try clear c2b0
      try clear c2b1
      try clear p2
      obtain ⟨x5_1, x6_1, rfl, HA, HK1, HO_5, HB⟩ := hrel
      cases gk with
      | zero => exact absurd HA.out (by simp [lex_Scan.l0])
      | succ k1 =>
        have H := HA.out
        clear HA
        simp only [lex_Scan.l0] at H
        by_cases c4 : x6_1 < (a0.size : Int)
        · rw [if_pos c4] at H
          have c4b0 : decide (x6_1 < (a0.size : Int)) = true := decide_eq_true c4
          clear c4
          by_cases c5 : (x5_1.length : Int) = 500
          · rw [if_pos c5] at H
            have c5b0 : ((x5_1.length : Int) == 500) = true := beq_iff_eq.mpr c5
            have c5b1 : ((x5_1.length : Int) != 500) = false := bne_eq_false_iff_eq.mpr c5
            clear c5
            simp only [Option.some.injEq, Prod.mk.injEq] at H
            obtain ⟨rfl, rfl, rfl⟩ := H
            obtain ⟨Ao6, co6, eo6⟩ := Kd.R_slice HO_5.out
            subst eo6
            go_wp2
            go_ret3
            exact ⟨_, by first | rfl | (simp [errW_none, errW_some] <;> rfl) | (simp [*, errW_none, errW_some] <;> rfl), by first | exact Kd.R_nil _ _ _ _ _ | exact Kd.N_nil _ _ _ _ _ | exact Kd.V_nil _ _ _ _ _ | exact Kd.Q_nil _ _ _ _ _ | exact Kd.S_nil _ _ _ _ _, by repeat (first | (with_reducible first | exact HB.out | apply below_alloc | apply pw_below_drewN | apply below_drew1) | exact HB.out)⟩
          · rw [if_neg c5] at H
            have c5b0 : ((x5_1.length : Int) == 500) = false := beq_eq_false_iff_ne.mpr c5
            have c5b1 : ((x5_1.length : Int) != 500) = true := bne_iff_ne.mpr c5
            replace H := Option.bind_eq_some_iff.mp H
            obtain ⟨⟨t107, t108, t109, t110, t111, t112, t113⟩, A70, H⟩ := H
            replace H : (if t112 = 0 then (if x5_1.length < 3518437208883 then ((lex_skip.f k1 a0 t111).bind fun t118 => (lex_Scan.l0 k1 a0 (x5_1 ++ [(⟨t107, t108, t109, t110⟩ : S60)]) t118)) else (none)) else (some (([] : List (S60)), t112, t113))) = some (r1, r2, r3) := H
            have A7 := Aside0.mk A70
            clear A70
            by_cases c8 : t112 = 0
            · rw [if_pos c8] at H
              have c8b0 : (t112 == 0) = true := beq_iff_eq.mpr c8
              have c8b1 : (t112 != 0) = false := bne_eq_false_iff_eq.mpr c8
              clear c8
              by_cases c9 : x5_1.length < 3518437208883
              · rw [if_pos c9] at H
                have LMc9 := Aside0.mk c9
                clear c9
                obtain ⟨y115, hy115⟩ : ∃ y_ : List (S60), y_ = (x5_1 ++ [(⟨t107, t108, t109, t110⟩ : S60)]) := ⟨_, rfl⟩
                replace H : ((lex_skip.f k1 a0 t111).bind fun t118 => (lex_Scan.l0 k1 a0 y115 t118)) = some (r1, r2, r3) := by first | (rw [hy115]; with_reducible exact H) | (have H2_ := (Option.bind_some _ _).symm.trans H; rw [hy115]; with_reducible exact H2_) | (have H2_ := (Option.bind_some _ _).symm.trans H; with_reducible exact H2_) | with_reducible exact H | (rw [hy115]; exact H) | exact H
                have Ny115 := Aside0.mk hy115
                clear hy115
                replace H := Option.bind_eq_some_iff.mp H
                obtain ⟨t118, A100, H⟩ := H
                replace H : (lex_Scan.l0 k1 a0 y115 t118) = some (r1, r2, r3) := H
                have A10 := Aside0.mk A100
                clear A100
                have H' := Aside0.mk H
                clear H
                obtain ⟨Ao11, co11, eo11⟩ := Kd.R_slice HO_5.out
                subst eo11
                go_wp2_with (first | ((with_reducible refine gate_callee (f := 29) rfl ?_); refine goesL_ (some 27) rfl rfl Tryd.func29 (by kernel_rfl) rfl #[.string a0, .int .i64 x6_1] rfl (by (try simp only [List.map_toArray, List.map_cons, List.map_nil]); first | done | rfl | (simp only [List.length_drop, List.length_take]; rfl)) ?_; (with_reducible refine (lex_one.calls a0 x6_1 t107 t108 t109 t110 t111 t112 t113 _ A7.out).mono ?_); rintro e w12 ⟨rfl, hb⟩; refine ⟨_, rfl, ?_⟩; have n0_ := Aside0.mk (Kd.R_below (by (with_reducible repeat (first | apply Kd.R_alloc | apply Kd.R_drewN | apply Kd.R_drew)); exact HO_5.out) hb); have n1_ := Aside0.mk (below_step (by repeat (first | (with_reducible first | exact HB.out | apply below_alloc | apply pw_below_drewN | apply below_drew1) | exact HB.out)) hb); clear HO_5; clear HB; have HO_5 := n0_; have HB := n1_; clear n0_ n1_; (try clear hb); (try clear hb2); (try clear hk); (try clear hi)) | ((with_reducible refine gate_dst (N := 7) rfl ?_); refine box_event ?hg (N := 7) ?hd (cs := #[.int .i64 0, .string (⟨#[]⟩ : ByteArray), .int .i64 0, .int .i64 0]) (t := 60) ?hr ?_; (case hd => rfl); (case hg => rfl); (case hr => first | (go_simp; done) | (go_simp; rfl)); intro gb114 hg w13 hbox hb; have n0_ := Aside0.mk (Kd.R_below (Kd.R_elderB (by (with_reducible repeat (first | apply Kd.R_alloc | apply Kd.R_drewN | apply Kd.R_drew)); exact HO_5.out) gb114 (Nat.le_of_eq hg.symm)) hb); have n1_ := Aside0.mk (below_step (by repeat (first | (with_reducible first | exact HB.out | apply below_alloc | apply pw_below_drewN | apply below_drew1) | exact HB.out)) hb); have n2_ := Aside0.mk (hbox); have n3_ := Aside0.mk ((by rw [hg]; exact (below_size (by repeat (first | (with_reducible first | exact HB.out | apply below_alloc | apply pw_below_drewN | apply below_drew1) | exact HB.out))) : w.heap.size ≤ gb114)); have n4_ := Aside0.mk ((by rw [hg]; exact (below_size (by repeat (first | (with_reducible first | exact HB.out | apply below_alloc | apply pw_below_drewN | apply below_drew1) | exact HB.out))) : w.heap.size ≤ gb114)); clear HO_5; clear HB; have HO_5 := n0_; have HB := n1_; have BK114 := n2_; have GW114 := n3_; have GE114 := n4_; clear n0_ n1_ n2_ n3_ n4_; clear hb hbox hg; have hcz14_0 : w13.cell? ⟨gb114, 0, none⟩ = some (.int .i64 0) := (blk_cell BK114.out 0).trans rfl; have hcz14_1 : w13.cell? ⟨gb114, 1, none⟩ = some (.string (⟨#[]⟩ : ByteArray)) := (blk_cell BK114.out 1).trans rfl; have hcz14_2 : w13.cell? ⟨gb114, 2, none⟩ = some (.int .i64 0) := (blk_cell BK114.out 2).trans rfl; have hcz14_3 : w13.cell? ⟨gb114, 3, none⟩ = some (.int .i64 0) := (blk_cell BK114.out 3).trans rfl; have hfz14_0 := blk_frozen BK114.out 0; have hfz14_1 := blk_frozen BK114.out 1; have hfz14_2 := blk_frozen BK114.out 2; have hfz14_3 := blk_frozen BK114.out 3) | ((with_reducible refine gate_builtin (b := .append) (xs := #[.tmp 36, .tmp 38]) rfl ?_); at_builtin; refine Kd.R_append k60 (w0 := w) w.heap.size rfl (.tmp 36) (.tmp 38) 36 60 (.agg #[(.int .i64 0), (.string ⟨#[]⟩), (.int .i64 0), (.int .i64 0)]) 40 rfl Tryd.underlying36 info60 rfl (by decide) (by omega) (.slice Ao11 x5_1.length co11) x5_1 (⟨t107, t108, t109, t110⟩ : S60) [.int .i64 t107, .string t108, .int .i64 t109, .int .i64 t110] (fun k_ => k_ ≠ gb114) (fun _ => False) rfl (by first | (go_simp; done) | (go_simp; rfl)) ?aP (fun _ hk => hk.elim) ?aF ?aO ?aB ?aS ?aL ?_; (case aP => exact k60_mkM _ _ _ (⟨t107, t108, t109, t110⟩ : S60)); (case aB => exact (by repeat (first | (with_reducible first | exact HB.out | apply below_alloc | apply pw_below_drewN | apply below_drew1 | refine below_set ?_ GE114.out) | exact HB.out))); (case aF => exact (fun k_ hk => Kd.freshB (g := gb114) (o := .cells #[.int .i64 t107, .string t108, .int .i64 t109, .int .i64 t110] 60 (0, 0)) (by (with_reducible repeat (first | refine blk_drewN ?_ _ | refine blk_drew ?_ | refine blk_alloc ?_ _)); refine blk_put (cs := #[.int .i64 t107, .string t108, .int .i64 t109, .int .i64 0]) ?_ 3 _ rfl; (with_reducible repeat (first | refine blk_drewN ?_ _ | refine blk_drew ?_ | refine blk_alloc ?_ _)); refine blk_put (cs := #[.int .i64 t107, .string t108, .int .i64 0, .int .i64 0]) ?_ 2 _ rfl; (with_reducible repeat (first | refine blk_drewN ?_ _ | refine blk_drew ?_ | refine blk_alloc ?_ _)); refine blk_put (cs := #[.int .i64 t107, .string (⟨#[]⟩ : ByteArray), .int .i64 0, .int .i64 0]) ?_ 1 _ rfl; (with_reducible repeat (first | refine blk_drewN ?_ _ | refine blk_drew ?_ | refine blk_alloc ?_ _)); refine blk_put (cs := #[.int .i64 0, .string (⟨#[]⟩ : ByteArray), .int .i64 0, .int .i64 0]) ?_ 0 _ rfl; (with_reducible repeat (first | refine blk_drewN ?_ _ | refine blk_drew ?_ | refine blk_alloc ?_ _)); exact BK114.out) k_ hk)); (case aO => exact (by (with_reducible repeat (first | apply Kd.R_alloc | apply Kd.R_drewN | apply Kd.R_drew)); exact Kd.R_mono (Kd.R_far (p := ⟨gb114, 3, none⟩) (Kd.R_far (p := ⟨gb114, 2, none⟩) (Kd.R_far (p := ⟨gb114, 1, none⟩) (Kd.R_far (p := ⟨gb114, 0, none⟩) (Kd.R_mono HO_5.out (fun k_ hk => (⟨hk, hk.2⟩ : _ ∧ k_ ≠ gb114))) (fun _ hk => hk.2) (.int .i64 t107)) (fun _ hk => hk.2) (.string t108)) (fun _ hk => hk.2) (.int .i64 t109)) (fun _ hk => hk.2) (.int .i64 t110)) (fun _ hk => hk.1.2))); (case aS => exact (below_size (by repeat (first | (with_reducible first | exact HB.out | apply below_alloc | apply pw_below_drewN | apply below_drew1 | refine below_set ?_ GE114.out) | exact HB.out)))); (case aL => have := LMc9.out; omega); intro v116 w15 ho hb hg hat; rw [← Ny115.out] at ho; have n0_ := Aside0.mk (blk_grown (g := gb114) (o := .cells #[.int .i64 t107, .string t108, .int .i64 t109, .int .i64 t110] 60 (0, 0)) (by (with_reducible repeat (first | refine blk_drewN ?_ _ | refine blk_drew ?_ | refine blk_alloc ?_ _)); refine blk_put (cs := #[.int .i64 t107, .string t108, .int .i64 t109, .int .i64 0]) ?_ 3 _ rfl; (with_reducible repeat (first | refine blk_drewN ?_ _ | refine blk_drew ?_ | refine blk_alloc ?_ _)); refine blk_put (cs := #[.int .i64 t107, .string t108, .int .i64 0, .int .i64 0]) ?_ 2 _ rfl; (with_reducible repeat (first | refine blk_drewN ?_ _ | refine blk_drew ?_ | refine blk_alloc ?_ _)); refine blk_put (cs := #[.int .i64 t107, .string (⟨#[]⟩ : ByteArray), .int .i64 0, .int .i64 0]) ?_ 1 _ rfl; (with_reducible repeat (first | refine blk_drewN ?_ _ | refine blk_drew ?_ | refine blk_alloc ?_ _)); refine blk_put (cs := #[.int .i64 0, .string (⟨#[]⟩ : ByteArray), .int .i64 0, .int .i64 0]) ?_ 0 _ rfl; (with_reducible repeat (first | refine blk_drewN ?_ _ | refine blk_drew ?_ | refine blk_alloc ?_ _)); exact BK114.out) hg (Kd.R_away HO_5.out (fun _ hk => hk.2))); have n1_ := Aside0.mk (hb); have n2_ := Aside0.mk (ho); clear BK114; clear HB; clear HO_5; have BK114 := n0_; have HB := n1_; have HO117 := n2_; clear n0_ n1_ n2_; clear ho hb hg hat) | ((with_reducible refine gate_callee (f := 28) rfl ?_); refine goesL_ (some 42) rfl rfl Tryd.func28 (by kernel_rfl) rfl #[.string a0, .int .i64 t111] rfl (by (try simp only [List.map_toArray, List.map_cons, List.map_nil]); first | done | rfl | (simp only [List.length_drop, List.length_take]; rfl)) ?_; (with_reducible refine (lex_skip.calls k1 a0 t111 t118 _ A10.out).mono ?_); rintro e w' ⟨rfl, ⟨nd, rfl⟩⟩; refine ⟨_, rfl, ?_⟩))
                go_roundg k1
                case measure => have := HK1.out; omega
                case rel => exact ⟨(y115), (t118), (by first | rfl | (simp; done) | (simp [*]; done)), H', ⟨by have := HK1.out; omega⟩, ⟨by (with_reducible repeat (first | apply Kd.R_alloc | apply Kd.R_drewN | apply Kd.R_drew)); exact Kd.R_mono HO117.out (fun _ hk => trivial)⟩, ⟨by repeat (first | (with_reducible first | exact HB.out | apply below_alloc | apply pw_below_drewN | apply below_drew1 | refine below_set ?_ GE114.out) | exact HB.out)⟩⟩
              · rw [if_neg c9] at H
                exact absurd H (by simp)
            · rw [if_neg c8] at H
              have c8b0 : (t112 == 0) = false := beq_eq_false_iff_ne.mpr c8
              have c8b1 : (t112 != 0) = true := bne_iff_ne.mpr c8
              simp only [Option.some.injEq, Prod.mk.injEq] at H
              obtain ⟨rfl, rfl, rfl⟩ := H
              obtain ⟨Ao16, co16, eo16⟩ := Kd.R_slice HO_5.out
              subst eo16
              go_wp2_with (first | ((with_reducible refine gate_callee (f := 29) rfl ?_); refine goesL_ (some 27) rfl rfl Tryd.func29 (by kernel_rfl) rfl #[.string a0, .int .i64 x6_1] rfl (by (try simp only [List.map_toArray, List.map_cons, List.map_nil]); first | done | rfl | (simp only [List.length_drop, List.length_take]; rfl)) ?_; (with_reducible refine (lex_one.calls a0 x6_1 t107 t108 t109 t110 t111 t112 t113 _ A7.out).mono ?_); rintro e w17 ⟨rfl, hb⟩; refine ⟨_, rfl, ?_⟩; have n0_ := Aside0.mk (Kd.R_below (by (with_reducible repeat (first | apply Kd.R_alloc | apply Kd.R_drewN | apply Kd.R_drew)); exact HO_5.out) hb); have n1_ := Aside0.mk (below_step (by repeat (first | (with_reducible first | exact HB.out | apply below_alloc | apply pw_below_drewN | apply below_drew1) | exact HB.out)) hb); clear HO_5; clear HB; have HO_5 := n0_; have HB := n1_; clear n0_ n1_; (try clear hb); (try clear hb2); (try clear hk); (try clear hi)) | ((with_reducible refine gate_dst (N := 7) rfl ?_); refine box_event ?hg (N := 7) ?hd (cs := #[.int .i64 0, .string (⟨#[]⟩ : ByteArray), .int .i64 0, .int .i64 0]) (t := 60) ?hr ?_; (case hd => rfl); (case hg => rfl); (case hr => first | (go_simp; done) | (go_simp; rfl)); intro gb114 hg w18 hbox hb; have n0_ := Aside0.mk (Kd.R_below (Kd.R_elderB (by (with_reducible repeat (first | apply Kd.R_alloc | apply Kd.R_drewN | apply Kd.R_drew)); exact HO_5.out) gb114 (Nat.le_of_eq hg.symm)) hb); have n1_ := Aside0.mk (below_step (by repeat (first | (with_reducible first | exact HB.out | apply below_alloc | apply pw_below_drewN | apply below_drew1) | exact HB.out)) hb); have n2_ := Aside0.mk (hbox); have n3_ := Aside0.mk ((by rw [hg]; exact (below_size (by repeat (first | (with_reducible first | exact HB.out | apply below_alloc | apply pw_below_drewN | apply below_drew1) | exact HB.out))) : w.heap.size ≤ gb114)); have n4_ := Aside0.mk ((by rw [hg]; exact (below_size (by repeat (first | (with_reducible first | exact HB.out | apply below_alloc | apply pw_below_drewN | apply below_drew1) | exact HB.out))) : w.heap.size ≤ gb114)); clear HO_5; clear HB; have HO_5 := n0_; have HB := n1_; have BK114 := n2_; have GW114 := n3_; have GE114 := n4_; clear n0_ n1_ n2_ n3_ n4_; clear hb hbox hg; have hcz19_0 : w18.cell? ⟨gb114, 0, none⟩ = some (.int .i64 0) := (blk_cell BK114.out 0).trans rfl; have hcz19_1 : w18.cell? ⟨gb114, 1, none⟩ = some (.string (⟨#[]⟩ : ByteArray)) := (blk_cell BK114.out 1).trans rfl; have hcz19_2 : w18.cell? ⟨gb114, 2, none⟩ = some (.int .i64 0) := (blk_cell BK114.out 2).trans rfl; have hcz19_3 : w18.cell? ⟨gb114, 3, none⟩ = some (.int .i64 0) := (blk_cell BK114.out 3).trans rfl; have hfz19_0 := blk_frozen BK114.out 0; have hfz19_1 := blk_frozen BK114.out 1; have hfz19_2 := blk_frozen BK114.out 2; have hfz19_3 := blk_frozen BK114.out 3))
              go_ret3
              exact ⟨_, by first | rfl | (simp [errW_none, errW_some] <;> rfl) | (simp [*, errW_none, errW_some] <;> rfl), by first | exact Kd.R_nil _ _ _ _ _ | exact Kd.N_nil _ _ _ _ _ | exact Kd.V_nil _ _ _ _ _ | exact Kd.Q_nil _ _ _ _ _ | exact Kd.S_nil _ _ _ _ _, by repeat (first | (with_reducible first | exact HB.out | apply below_alloc | apply pw_below_drewN | apply below_drew1 | refine below_set ?_ GE114.out) | exact HB.out)⟩
        · rw [if_neg c4] at H
          have c4b0 : decide (x6_1 < (a0.size : Int)) = false := decide_eq_false c4
          clear c4
          simp only [Option.some.injEq, Prod.mk.injEq] at H
          obtain ⟨rfl, rfl, rfl⟩ := H
          go_wp2
          go_ret3
          exact ⟨_, by first | rfl | (simp [errW_none, errW_some] <;> rfl) | (simp [*, errW_none, errW_some] <;> rfl), by (with_reducible repeat (first | apply Kd.R_alloc | apply Kd.R_drewN | apply Kd.R_drew)); exact HO_5.out, by repeat (first | (with_reducible first | exact HB.out | apply below_alloc | apply pw_below_drewN | apply below_drew1) | exact HB.out)⟩

end Go.Proofs.YtknbfhhmjbnemaaDoor.P
end
section
namespace Go.Proofs.YtknbfhhmjbnemaaDoor.P
open Go.RowKit Go.Proofs.YtknbfhhmjbnemaaDoorW.PrintWords Go.Proofs.YtknbfhhmjbnemaaDoorW.PrintLast Go.Proofs.YtknbfhhmjbnemaaDoorW.PrintMore
set_option linter.unusedVariables false
set_option linter.unusedSimpArgs false

/-- A file's statements. -/
def pstmts : Nat → List S60 → Int → List S25 → PR (List S25)
  | 0, _, _, _ => none
  | k + 1, T, en, acc => if acc.length ≤ 1000000 then (if T = [] then some (.ok (acc, T)) else pbd (pstmt k T en) fun x T1 => pstmts k T1 en (acc ++ [x])) else none
theorem pstmts_mono : ∀ k T en acc, LeO (pstmts k T en acc) (pstmts (k + 1) T en acc)
  | 0, _, _, _ => fun r h => by simp [pstmts] at h
  | k + 1, T, en, acc => by
    rw [pstmts, pstmts]
    repeat' first
      | (with_reducible exact pstmts_mono k _ _ _)
      | (with_reducible exact pstmt_mono _ _ _)
      | (with_reducible exact LeO.refl _)
      | (with_reducible refine LeO.ite ?_ ?_)
      | (with_reducible refine LeO.pbd ?_ (fun _ _ => ?_))
/-- What Parse hands back. -/
def parseR (w : World) (n : S25) (er at_ : Int) (e : Ending) (w' : World) : Prop := ∃ v, e = .returned (.tuple #[.agg #[.string n.f0, .string n.f1, .int .i64 n.f2, .int .i64 n.f3, v], .int .i64 er, .int .i64 at_]) ∧ Kd.N k25 25 w' w.heap.size (fun k => w.heap.size ≤ k) v n.f4 ∧ Below w.heap.size w w'
theorem results9 (tmps : Array Value) (w : World) (bn be ba : Nat) (a b c d f : Value) (E K : Int) (h2 : (tmps[2]?).getD undef = .pointer (some ⟨bn, 0, none⟩)) (h3 : (tmps[3]?).getD undef = .pointer (some ⟨be, 0, none⟩)) (h4 : (tmps[4]?).getD undef = .pointer (some ⟨ba, 0, none⟩))
    (hn : w.heap[bn]? = some (.cells #[a, b, c, d, f] 25 (0, 0))) (he : w.heap[be]? = some (.cells #[.int .i64 E] 26 (0, 0))) (hk : w.heap[ba]? = some (.cells #[.int .i64 K] 3 (0, 0))) :
    (results Tryd.f9 tmps).run Tryd.prog w = .ok (.tuple #[.agg #[a, b, c, d, f], .int .i64 E, .int .i64 K]) w := by
  have he0 : w.cell? ⟨be, 0, none⟩ = some (.int .i64 E) := (blk_cell he 0).trans rfl
  have hk0 : w.cell? ⟨ba, 0, none⟩ = some (.int .i64 K) := (blk_cell hk 0).trans rfl
  have n0 : w.cell? ⟨bn, 0, none⟩ = some a := (blk_cell hn 0).trans rfl
  have n1 : w.cell? ⟨bn, 1, none⟩ = some b := (blk_cell hn 1).trans rfl
  have n2 : w.cell? ⟨bn, 2, none⟩ = some c := (blk_cell hn 2).trans rfl
  have n3 : w.cell? ⟨bn, 3, none⟩ = some d := (blk_cell hn 3).trans rfl
  have n4 : w.cell? ⟨bn, 4, none⟩ = some f := (blk_cell hn 4).trans rfl
  simp [results, Tryd.results9, go_sem, h2, h3, h4, he0, hk0, n0, n1, n2, n3, n4]
set_option maxHeartbeats 16000000 in
set_option maxRecDepth 100000 in
theorem parse_early (k : Nat) (s : ByteArray) (T : List S60) (er at_ : Int) (w : World) (h : lex_Scan.f k s = some (T, er, at_)) (he : ¬ er = 0) :
    Calls Tryd.prog 9 #[.string s] w (parseR w z25 er at_) := by
  have hmf : ∀ (fn : Fn) (first cap : Array Value) (w : World), (Instr.makeFunc fn first cap).run Tryd.prog w = .ok (.func fn first cap) w := fun _ _ _ _ => rfl
  have hu25 := Tryd.underlying25
  have HS := Aside0.mk h
  have d0 : (er != 0) = true := by simpa using he
  have d1 : (er == 0) = false := by simpa using he
  clear h he
  have HN := Aside0.mk (show (((w.alloc (.cells #[.string (⟨#[]⟩ : ByteArray), .string (⟨#[]⟩ : ByteArray), .int .i64 0, .int .i64 0, .slice none 0 0] 25 (0, 0))).alloc (.cells #[.int .i64 0] 26 (0, 0))).alloc (.cells #[.int .i64 0] 3 (0, 0))).heap[w.heap.size]? = some (.cells #[.string (⟨#[]⟩ : ByteArray), .string (⟨#[]⟩ : ByteArray), .int .i64 0, .int .i64 0, .slice none 0 0] 25 (0, 0)) from blk_alloc (blk_alloc (blk_new _ _) _) _)
  have HE := Aside0.mk (show (((w.alloc (.cells #[.string (⟨#[]⟩ : ByteArray), .string (⟨#[]⟩ : ByteArray), .int .i64 0, .int .i64 0, .slice none 0 0] 25 (0, 0))).alloc (.cells #[.int .i64 0] 26 (0, 0))).alloc (.cells #[.int .i64 0] 3 (0, 0))).heap[w.heap.size + 1]? = some (.cells #[.int .i64 0] 26 (0, 0)) from blk_alloc (by have := blk_new (w.alloc (.cells #[.string (⟨#[]⟩ : ByteArray), .string (⟨#[]⟩ : ByteArray), .int .i64 0, .int .i64 0, .slice none 0 0] 25 (0, 0))) (.cells #[.int .i64 0] 26 (0, 0)); rwa [World.size_alloc] at this) _)
  have HA := Aside0.mk (show (((w.alloc (.cells #[.string (⟨#[]⟩ : ByteArray), .string (⟨#[]⟩ : ByteArray), .int .i64 0, .int .i64 0, .slice none 0 0] 25 (0, 0))).alloc (.cells #[.int .i64 0] 26 (0, 0))).alloc (.cells #[.int .i64 0] 3 (0, 0))).heap[w.heap.size + 1 + 1]? = some (.cells #[.int .i64 0] 3 (0, 0)) from by have := blk_new ((w.alloc (.cells #[.string (⟨#[]⟩ : ByteArray), .string (⟨#[]⟩ : ByteArray), .int .i64 0, .int .i64 0, .slice none 0 0] 25 (0, 0))).alloc (.cells #[.int .i64 0] 26 (0, 0))) (.cells #[.int .i64 0] 3 (0, 0)); rwa [World.size_alloc, World.size_alloc] at this)
  have HB := Aside0.mk (show Below w.heap.size w (((w.alloc (.cells #[.string (⟨#[]⟩ : ByteArray), .string (⟨#[]⟩ : ByteArray), .int .i64 0, .int .i64 0, .slice none 0 0] 25 (0, 0))).alloc (.cells #[.int .i64 0] 26 (0, 0))).alloc (.cells #[.int .i64 0] 3 (0, 0))) from below_alloc (below_alloc (below_alloc (Below.refl _ _) _) _) _)
  go_enter_defers Tryd.func9, Tryd.ntmps9
  go_upto_region 1 with (fail)
  generalize (((w.alloc (.cells #[.string (⟨#[]⟩ : ByteArray), .string (⟨#[]⟩ : ByteArray), .int .i64 0, .int .i64 0, .slice none 0 0] 25 (0, 0))).alloc (.cells #[.int .i64 0] 26 (0, 0))).alloc (.cells #[.int .i64 0] 3 (0, 0))) = w1 at *
  have NE1 := Aside0.mk (show w.heap.size + 1 ≠ w.heap.size + 1 + 1 by omega)
  have NE2 := Aside0.mk (show w.heap.size ≠ w.heap.size + 1 by omega)
  have NE3 := Aside0.mk (show w.heap.size ≠ w.heap.size + 1 + 1 by omega)
  have GE1 := Aside0.mk (show w.heap.size ≤ w.heap.size + 1 by omega)
  have GE2 := Aside0.mk (show w.heap.size ≤ w.heap.size + 1 + 1 by omega)
  generalize hbe : w.heap.size + 1 = be at *
  generalize hba : be + 1 = ba at *
  clear hbe hba
  have nba := NE1.out
  have nba' := NE1.out.symm
  go_upto_region 2 with (go_at_call 17; (with_reducible refine (lex_Scan.calls k s T er at_ w1 HS.out).mono ?_); rintro e w2 ⟨v0, rfl, hR, hb⟩; have HR := Aside0.mk hR; have HB2 := Aside0.mk (below_then HB.out HB.out.size hb); have HN2 := Aside0.mk (blk_below HN.out hb); have HE2 := Aside0.mk (blk_below HE.out hb); have HA2 := Aside0.mk (blk_below HA.out hb); have c0 := (blk_cell HE2.out 0).trans rfl; have f0 := blk_frozen HE2.out 0; have c1 := (blk_cell HA2.out 0).trans rfl; have f1 := blk_frozen HA2.out 0; clear hR hb)
  generalize hW : World.setCell (World.setCell w2 _ _) _ _ = W3
  have HN3 := Aside0.mk (show W3.heap[w.heap.size]? = some (.cells #[.string (⟨#[]⟩ : ByteArray), .string (⟨#[]⟩ : ByteArray), .int .i64 0, .int .i64 0, .slice none 0 0] 25 (0, 0)) from by rw [← hW]; exact blk_far (p := ⟨ba, 0, none⟩) (blk_far (p := ⟨be, 0, none⟩) HN2.out NE2.out _) NE3.out _)
  have HE3 := Aside0.mk (show W3.heap[be]? = some (.cells #[.int .i64 er] 26 (0, 0)) from by rw [← hW]; exact blk_far (p := ⟨ba, 0, none⟩) (blk_put HE2.out 0 _ rfl) NE1.out _)
  have HA3 := Aside0.mk (show W3.heap[ba]? = some (.cells #[.int .i64 at_] 3 (0, 0)) from by rw [← hW]; exact blk_put (blk_far (p := ⟨be, 0, none⟩) HA2.out NE1.out.symm _) 0 _ rfl)
  have HB3 := Aside0.mk (show Below w.heap.size w W3 from by rw [← hW]; exact (HB2.out.setCell (p := ⟨be, 0, none⟩) GE1.out _).setCell (p := ⟨ba, 0, none⟩) GE2.out _)
  clear hW HN HE HA HB HN2 HE2 HA2 HB2 c0 f0 c1 f1
  have c0 := (blk_cell HE3.out 0).trans rfl
  go_upto_region 3 with (fail)
  clear c0
  have HN4 := Aside0.mk (blk_drew HN3.out)
  have HE4 := Aside0.mk (blk_drew HE3.out)
  have HA4 := Aside0.mk (blk_drew HA3.out)
  have HB4 := Aside0.mk (below_drew HB3.out)
  have x0 := (blk_cell HE4.out 0).trans rfl
  have x1 := (blk_cell HA4.out 0).trans rfl
  refine wp_region_noPanic ?_
  refine start_ (n := 6) (S := fun w' => w'.cell? ⟨be, 0, none⟩ = some (.int .i64 er) ∧ w'.cell? ⟨ba, 0, none⟩ = some (.int .i64 at_)) (ds := [5]) #[false, false, false, false, false, false] (by kernel_rfl) rfl rfl ?hS (fun hHeld => ?_)
  case hS => exact ⟨x0, x1⟩
  generalize World.drew W3 = W4 at *
  refine pure_ (i := 0) (N := some 15) (v := ?_) (a' := ?_) #[true, false, false, false, false, false] rfl rfl (by kernel_rfl) (fun _ _ _ h => h) (Or.inl ⟨by rfl, ?_⟩) ?_ ?_
  rotate_left
  · intro w'
    go_simp
    with_reducible rfl
  rotate_left
  · simp only [Act.put, List.setIfInBounds_toArray, List.set_cons_zero, List.set_cons_succ, i64_w, i32_w]
    rfl
  refine take_ (i := 1) (N := some 16) (v := ?_) (a' := ?_) #[true, true, false, false, false, false] rfl rfl (by kernel_rfl) (fun _ _ _ h => h) (Or.inl ⟨by rfl, ?_⟩) hHeld ?_ ?_
  rotate_left
  · rintro w' ⟨s0, s1⟩
    go_simp
    with_reducible rfl
  rotate_left
  · simp only [Act.put, List.setIfInBounds_toArray, List.set_cons_zero, List.set_cons_succ, i64_w, i32_w]
    rfl
  refine take_ (i := 2) (N := some 17) (v := ?_) (a' := ?_) #[true, true, true, false, false, false] rfl rfl (by kernel_rfl) (fun _ _ _ h => h) (Or.inl ⟨by rfl, ?_⟩) hHeld ?_ ?_
  rotate_left
  · rintro w' ⟨s0, s1⟩
    go_simp
    with_reducible rfl
  rotate_left
  · simp only [Act.put, List.setIfInBounds_toArray, List.set_cons_zero, List.set_cons_succ, i64_w, i32_w]
    rfl
  have c0 := (blk_cell HN4.out 0).trans rfl
  have f0 := blk_frozen HN4.out 0
  have c1 := (blk_cell HN4.out 1).trans rfl
  have f1 := blk_frozen HN4.out 1
  have c2 := (blk_cell HN4.out 2).trans rfl
  have f2 := blk_frozen HN4.out 2
  have c3 := (blk_cell HN4.out 3).trans rfl
  have f3 := blk_frozen HN4.out 3
  have c4 := (blk_cell HN4.out 4).trans rfl
  have f4 := blk_frozen HN4.out 4
  refine one_ (i := 3) (N := none) #[true, true, true, true, false, false] rfl rfl (by kernel_rfl) (by decide) (fun K hK => ?_)
  refine skip_ (w1 := ?_) (by rfl) rfl ?_ ?_
  rotate_left
  · go_simp
    rfl
  have HE5 := Aside0.mk (blk_far (p := ⟨w.heap.size, 4, none⟩) (blk_far (p := ⟨w.heap.size, 3, none⟩) (blk_far (p := ⟨w.heap.size, 2, none⟩) (blk_far (p := ⟨w.heap.size, 1, none⟩) (blk_far (p := ⟨w.heap.size, 0, none⟩) HE4.out NE2.out.symm (.string (⟨#[]⟩ : ByteArray))) NE2.out.symm (.string (⟨#[]⟩ : ByteArray))) NE2.out.symm (.int .i64 0)) NE2.out.symm (.int .i64 0)) NE2.out.symm (.slice none 0 0))
  have HA5 := Aside0.mk (blk_far (p := ⟨w.heap.size, 4, none⟩) (blk_far (p := ⟨w.heap.size, 3, none⟩) (blk_far (p := ⟨w.heap.size, 2, none⟩) (blk_far (p := ⟨w.heap.size, 1, none⟩) (blk_far (p := ⟨w.heap.size, 0, none⟩) HA4.out NE3.out.symm (.string (⟨#[]⟩ : ByteArray))) NE3.out.symm (.string (⟨#[]⟩ : ByteArray))) NE3.out.symm (.int .i64 0)) NE3.out.symm (.int .i64 0)) NE3.out.symm (.slice none 0 0))
  have HN5 := Aside0.mk (blk_put (blk_put (blk_put (blk_put (blk_put HN4.out 0 (.string (⟨#[]⟩ : ByteArray)) rfl) 1 (.string (⟨#[]⟩ : ByteArray)) rfl) 2 (.int .i64 0) rfl) 3 (.int .i64 0) rfl) 4 (.slice none 0 0) rfl)
  have HB5 := Aside0.mk (((((HB4.out.setCell (p := ⟨w.heap.size, 0, none⟩) (Nat.le_refl _) (.string (⟨#[]⟩ : ByteArray))).setCell (p := ⟨w.heap.size, 1, none⟩) (Nat.le_refl _) (.string (⟨#[]⟩ : ByteArray))).setCell (p := ⟨w.heap.size, 2, none⟩) (Nat.le_refl _) (.int .i64 0)).setCell (p := ⟨w.heap.size, 3, none⟩) (Nat.le_refl _) (.int .i64 0)).setCell (p := ⟨w.heap.size, 4, none⟩) (Nat.le_refl _) (.slice none 0 0))
  clear c0 f0 c1 f1 c2 f2 c3 f3 c4 f4
  have y0 := (blk_cell HE5.out 0).trans rfl
  have y1 := (blk_cell HA5.out 0).trans rfl
  have f0 := blk_frozen HE5.out 0
  have f1 := blk_frozen HA5.out 0
  try clear hHeld
  refine hK.out _ _ ⟨y0, y1⟩ (fun hHeld => ?_)
  clear hK K
  generalize World.setCell (World.setCell (World.setCell (World.setCell (World.setCell W4 _ _) _ _) _ _) _ _) _ _ = W5 at *
  refine one_ (i := 4) (N := none) #[true, true, true, true, true, false] rfl rfl (by kernel_rfl) (by decide) (fun K hK => ?_)
  refine skip_ (w1 := ?_) (by rfl) rfl ?_ ?_
  rotate_left
  · go_simp
    rfl
  have HE6 := Aside0.mk (blk_put HE5.out 0 (.int .i64 er) rfl)
  have HA6 := Aside0.mk (blk_far (p := ⟨be, 0, none⟩) HA5.out NE1.out.symm (.int .i64 er))
  have HN6 := Aside0.mk (blk_far (p := ⟨be, 0, none⟩) HN5.out NE2.out (.int .i64 er))
  have HB6 := Aside0.mk (HB5.out.setCell (p := ⟨be, 0, none⟩) GE1.out (.int .i64 er))
  clear y0 y1 f0 f1
  have y0 := (blk_cell HE6.out 0).trans rfl
  have y1 := (blk_cell HA6.out 0).trans rfl
  have f1 := blk_frozen HA6.out 0
  try clear hHeld
  refine hK.out _ _ ⟨y0, y1⟩ (fun hHeld => ?_)
  clear hK K
  refine last_ (i := 5) (N := none) #[true, true, true, true, true, true] rfl rfl (by kernel_rfl) (by decide) (fun K hK => ?_)
  refine skip_ (w1 := ?_) (by rfl) rfl ?_ ?_
  rotate_left
  · go_simp
    rfl
  refine hK.out _ _ ?_
  clear hK K
  refine done_ (by kernel_rfl) ?_
  refine NoPanic.normal ?_
  go_wp2
  have g1 := blk_far (p := ⟨ba, 0, none⟩) HN6.out NE3.out (.int .i64 at_)
  have g2 := blk_far (p := ⟨ba, 0, none⟩) HE6.out NE1.out (.int .i64 at_)
  have g3 := blk_put HA6.out 0 (.int .i64 at_) rfl
  exact ⟨_, results9 _ _ w.heap.size be ba _ _ _ _ _ _ _ rfl rfl rfl g1 g2 g3, ⟨_, rfl, Kd.N_nil _ _ _ _ _, HB6.out.setCell (p := ⟨ba, 0, none⟩) GE2.out _⟩⟩
end Go.Proofs.YtknbfhhmjbnemaaDoor.P
end
section
namespace Go.Proofs.YtknbfhhmjbnemaaDoor.P
open Go.RowKit Go.Proofs.YtknbfhhmjbnemaaDoorW.PrintWords Go.Proofs.YtknbfhhmjbnemaaDoorW.PrintLast Go.Proofs.YtknbfhhmjbnemaaDoorW.PrintMore
set_option linter.unusedVariables false
set_option linter.unusedSimpArgs false

section
variable {P : Program} {ops : Array Oper} {Q : Exit → Act → World → Prop}
/-- A post with another word for the normal end. -/
def Qn (Kc : Act → World → Prop) (Q : Exit → Act → World → Prop) : Exit → Act → World → Prop
  | .normal, a, w => Kc a w
  | e, a, w => Q e a w
/-- An event's law in its list form serves as one step of a region that draws. -/
theorem wpOp_of_list {i : Nat} {o : Oper} {a : Act} {w : World} {Kc : Act → World → Prop} (ho : ops[i]? = some o) (h : wpList P ops (Qn Kc Q) [o] a w) : wpOp P ops Q i Kc a w := by
  unfold wpOp
  simp only [ho]
  unfold wpList at h
  split
  · rename_i hw
    rw [if_pos hw] at h
    rcases h with h | ⟨h1, h2⟩
    · left
      unfold Oper.wp at *
      generalize (execOp a.eval o).run P w = r at *
      cases r with
      | ok n w' =>
        cases n <;> first
          | exact h
          | (refine Calls.mono h fun e w'' he => ?_
             cases e <;> exact he)
          | exact Rows.mono h fun u w'' he => he
      | halt x w' => cases x <;> exact h
    · exact .inr ⟨h1, h2⟩
  · rename_i hw
    rw [if_neg hw] at h
    exact h
end
section
variable {P : Program} {ops : Array Oper} {Q : Exit → Act → World → Prop} {md : Region.Mode} {S : World → Prop} {ds : List Nat}
end
section
variable {P : Program} {ops : Array Oper} {Q : Exit → Act → World → Prop} {md : Region.Mode} {S : World → Prop} {ds : List Nat}
end
end Go.Proofs.YtknbfhhmjbnemaaDoor.P
end
section
namespace Go.Proofs.YtknbfhhmjbnemaaDoor.P
open Go.RowKit Go.Proofs.YtknbfhhmjbnemaaDoorW.PrintWords Go.Proofs.YtknbfhhmjbnemaaDoorW.PrintLast Go.Proofs.YtknbfhhmjbnemaaDoorW.PrintMore
set_option linter.unusedVariables false
set_option linter.unusedSimpArgs false

theorem size_node : (Tryd.prog.info? 25).map (·.size) = some 5 := by kernel_rfl
/-- What Parse makes of a file's statements. -/
def parseO (w : World) (r : Except PErr (List S25 × List S60)) : Ending → World → Prop := match r with | .ok (L, _) => parseR w ⟨⟨#[102, 105, 108, 101]⟩, ⟨#[]⟩, 0, 0, L⟩ 0 (-1) | .error x => parseR w z25 x.1 x.2
/-- A row of tokens is read by its block alone. -/
theorem C60_block {w w1 : World} {A : Option Addr} {n : Nat} {T : List S60} (h : Kd.C k60 w A n T) (hb : ∀ a, A = some a → w1.heap[a.block]? = w.heap[a.block]?) : Kd.C k60 w1 A n T := by
  obtain ⟨h1, h2, h3⟩ := h
  refine ⟨h1, h2, fun hp => ?_⟩
  obtain ⟨ad, rfl, hc⟩ := h3 hp
  refine ⟨ad, rfl, fun j p hj => ?_⟩
  obtain ⟨c, hl, hK, hcc⟩ := hc j p hj
  refine ⟨c, hl, ?_, fun i u hu => ?_⟩
  · rw [k60_open hK]
    exact k60_mk w1 p
  · rw [← hcc i u hu]
    simp [World.cell?, add_block, hb ad rfl]
theorem below_both {B : Nat} {w W : World} (h : Below B w W) (p : Addr) (v : Value) : Below B (w.setCell p v) (W.setCell p v) := by
  refine ⟨h.os, h.tape, h.output, by simpa [World.setCell] using h.size, fun k hk => ?_⟩
  simp only [World.setCell, Array.getElem?_modify]
  rw [h.block k hk]
theorem PsS.both {w0 w W : World} {g : Nat} {T : List S60} {en : Int} (h : PsS w0 w W g T en) {b j t : Nat} {cs : Array Value} (hb : w0.heap[b]? = some (.cells cs t (0, 0))) (ht : t ≠ 60) (hb0 : b ≠ 0) (v : Value) :
    PsS (w0.setCell ⟨b, j, none⟩ v) (W.setCell ⟨b, j, none⟩ v) (W.setCell ⟨b, j, none⟩ v) g T en := by
  obtain ⟨⟨A, c, hbk, hc, hC, hT⟩, hg, hB, hK, m, hm⟩ := h
  have hne : ∀ a, A = some a → a.block ≠ b := by
    rintro a ha e
    obtain ⟨cs', h2⟩ := hT a ha
    rw [e, hb] at h2
    injection h2 with h2
    injection h2 with _ h3 _
    exact ht h3
  have hsz : (w0.setCell ⟨b, j, none⟩ v).heap.size = w0.heap.size := by simp [World.setCell]
  have hgb : g ≠ b := by have := blk_lt hb; omega
  refine ⟨⟨A, c, blk_far (p := ⟨b, j, none⟩) hbk hgb v, hc, C60_block hC (fun a ha => Below.heap_setCell w0 ⟨b, j, none⟩ v _ (hne a ha)), fun a ha => ?_⟩, by rw [hsz]; exact hg, by rw [hsz]; exact below_both hB _ _, KeepBut.refl _ _ _, m, ?_⟩
  · obtain ⟨cs', h2⟩ := hT a ha
    exact ⟨cs', (Below.heap_setCell w0 ⟨b, j, none⟩ v _ (hne a ha)).trans h2⟩
  · have h4 : (w0.setCell ⟨b, j, none⟩ v).heap[0]? = w0.heap[0]? := Below.heap_setCell w0 ⟨b, j, none⟩ v 0 (fun e => hb0 e.symm)
    rw [← hm]
    simp [World.cell?, h4]
theorem PsS.grow {w0 w W W1 : World} {g : Nat} {T : List S60} {en : Int} {row : Option Nat} (h : PsS w0 w W g T en) (hg : W.grownBy W1 row) (hne : some g ≠ row) (hr : ∀ k, row = some k → w0.heap.size ≤ k) : PsS w0 W1 W1 g T en := by
  obtain ⟨⟨A, c, hbk, hc, hC⟩, hgg, hB, hK, hm⟩ := h
  exact ⟨⟨A, c, blk_grown hbk hg hne, hc, hC⟩, hgg, pw_below_grown hB row hB.size hg (fun k hk => hr k hk), KeepBut.refl _ _ _, hm⟩
/-- The result boxes of Parse. -/
structure LpB (w W : World) (S0 bn be ba : Nat) (n4 : Value) (a0 : Int) : Prop where
  nb : W.heap[bn]? = some (.cells #[.string (⟨#[102, 105, 108, 101]⟩ : ByteArray), .string (⟨#[]⟩ : ByteArray), .int .i64 0, .int .i64 0, n4] 25 (0, 0))
  eb : W.heap[be]? = some (.cells #[.int .i64 0] 26 (0, 0))
  ab : W.heap[ba]? = some (.cells #[.int .i64 a0] 3 (0, 0))
  bel : Below w.heap.size w W
  n1 : bn < S0
  n2 : be < S0
  n3 : ba < S0
  n4 : w.heap.size ≤ bn
  n5 : w.heap.size ≤ be
  n6 : w.heap.size ≤ ba
  n0 : 0 < w.heap.size
section
variable {w W W1 w0 : World} {S0 bn be ba g : Nat} {n4 : Value} {a0 : Int}
theorem LpB.below (h : LpB w W S0 bn be ba n4 a0) (hb : Below W.heap.size W W1) : LpB w W1 S0 bn be ba n4 a0 :=
  ⟨blk_below h.nb hb, blk_below h.eb hb, blk_below h.ab hb, below_then h.bel h.bel.size hb, h.n1, h.n2, h.n3, h.n4, h.n5, h.n6, h.n0⟩
/-- Behind a call of the parser's. -/
theorem LpB.keep (h : LpB w W S0 bn be ba n4 a0) (h0 : Below S0 w0 W) (h1 : Below S0 w0 W1) (hk : KeepBut W W1 g none) (hg : S0 ≤ g) : LpB w W1 S0 bn be ba n4 a0 := by
  have := h.n1; have := h.n2; have := h.n3; have := h.n4
  refine ⟨hk.blk h.nb (by omega) (by simp), hk.blk h.eb (by omega) (by simp), hk.blk h.ab (by omega) (by simp), ?_, h.n1, h.n2, h.n3, h.n4, h.n5, h.n6, h.n0⟩
  refine ⟨(h1.os.trans h0.os.symm).trans h.bel.os, (h1.tape.trans h0.tape.symm).trans h.bel.tape, (h1.output.trans h0.output.symm).trans h.bel.output, Nat.le_trans h.bel.size hk.1, fun k hk2 => ?_⟩
  rw [h1.block k (by omega), ← h0.block k (by omega)]
  exact h.bel.block k hk2
theorem LpB.grown {row : Option Nat} (h : LpB w W S0 bn be ba n4 a0) (hg : W.grownBy W1 row) (hr : ∀ k, row = some k → S0 ≤ k) : LpB w W1 S0 bn be ba n4 a0 := by
  have := h.n1; have := h.n2; have := h.n3; have := h.n4
  refine ⟨blk_grown h.nb hg (fun e => by have := hr _ e.symm; omega), blk_grown h.eb hg (fun e => by have := hr _ e.symm; omega), blk_grown h.ab hg (fun e => by have := hr _ e.symm; omega), pw_below_grown h.bel row h.bel.size hg (fun k hk => by have := hr k hk; omega), h.n1, h.n2, h.n3, h.n4, h.n5, h.n6, h.n0⟩
theorem LpB.setL (h : LpB w W S0 bn be ba n4 a0) (v : Value) : LpB w (W.setCell ⟨bn, 4, none⟩ v) S0 bn be ba v a0 :=
  ⟨blk_put h.nb 4 v rfl, blk_far (p := ⟨bn, 4, none⟩) h.eb (blk_ne h.eb h.nb (by decide)) v, blk_far (p := ⟨bn, 4, none⟩) h.ab (blk_ne h.ab h.nb (by decide)) v, h.bel.setCell (p := ⟨bn, 4, none⟩) h.n4 v, h.n1, h.n2, h.n3, h.n4, h.n5, h.n6, h.n0⟩
end
/-- Where Parse's loop stands: g the parser's box; S0 the heap's size ahead of it. -/
structure LpS (w W : World) (S0 bn be ba g : Nat) (T : List S60) (en a0 : Int) (Lv : Value) (L : List S25) : Prop where
  b : LpB w W S0 bn be ba Lv a0
  ps : ∃ w0, w0.heap.size = S0 ∧ PsS w0 W W g T en
  row : Kd.N k25 25 W w.heap.size (fun k => S0 ≤ k ∧ k ≠ g) Lv L
section
variable {w W W1 w0 : World} {S0 bn be ba g : Nat} {T T' : List S60} {en a0 : Int} {Lv : Value} {L : List S25}
theorem LpS.ge (h : LpS w W S0 bn be ba g T en a0 Lv L) : S0 ≤ g := by
  obtain ⟨w0, hs, hp⟩ := h.ps
  exact hs ▸ hp.ge
theorem LpS.lt (h : LpS w W S0 bn be ba g T en a0 Lv L) : g < W.heap.size := by
  obtain ⟨w0, hs, hp⟩ := h.ps
  exact hp.lt
theorem LpS.below (h : LpS w W S0 bn be ba g T en a0 Lv L) (hb : Below W.heap.size W W1) : LpS w W1 S0 bn be ba g T en a0 Lv L := by
  obtain ⟨w0, hs, hp⟩ := h.ps
  exact ⟨h.b.below hb, ⟨w0, hs, (hp.below hb).start⟩, Kd.N_below h.row hb⟩
theorem LpS.drew (h : LpS w W S0 bn be ba g T en a0 Lv L) : LpS w W.drew S0 bn be ba g T en a0 Lv L := h.below (below_drew (Below.refl _ _))
theorem LpS.call (h : LpS w W S0 bn be ba g T en a0 Lv L) (hs : w0.heap.size = S0) (h0 : PsS w0 W W g T en) (h1 : PsS w0 W W1 g T' en) : LpS w W1 S0 bn be ba g T' en a0 Lv L :=
  ⟨h.b.keep (hs ▸ h0.bel) (hs ▸ h1.bel) h1.kb h.ge, ⟨w0, hs, h1.start⟩, Kd.N_keep h.row h1.kb (fun k hk => hk.2)⟩
theorem LpS.fault (h : LpS w W S0 bn be ba g T en a0 Lv L) (hs : w0.heap.size = S0) (h0 : PsS w0 W W g T en) {x : PErr} {e : Ending} (h1 : PBad w0 W g x e W1) : LpB w W1 S0 bn be ba Lv a0 :=
  h.b.keep (hs ▸ h0.bel) (hs ▸ h1.2.1) h1.2.2 h.ge
/-- Between the row's growing and its store. -/
structure LpA (w W : World) (S0 bn be ba g : Nat) (T : List S60) (en a0 : Int) (Lv : Value) (v : Value) (L : List S25) : Prop where
  b : LpB w W S0 bn be ba Lv a0
  ps : ∃ w0, w0.heap.size = S0 ∧ PsS w0 W W g T en
  row : Kd.N k25 25 W w.heap.size (fun k => S0 ≤ k ∧ k ≠ g) v L
theorem LpA.mk' (h : LpS w W S0 bn be ba g T en a0 Lv L) {ys : List S25} {v : Value} (hg : W.grownBy W1 Lv.ownBlock) (hr : Kd.N k25 25 W1 w.heap.size (fun k => S0 ≤ k ∧ k ≠ g) v ys) : LpA w W1 S0 bn be ba g T en a0 Lv v ys := by
  obtain ⟨w0, hs, hp⟩ := h.ps
  exact ⟨h.b.grown hg (fun k hk => (h.row.1 k hk).1), ⟨w0, hs, hp.grow hg (fun e => (h.row.1 g e.symm).2 rfl) (fun k hk => hs ▸ (h.row.1 k hk).1)⟩, hr⟩
theorem LpA.ge {v : Value} (h : LpA w W S0 bn be ba g T en a0 Lv v L) : S0 ≤ g := by
  obtain ⟨w0, hs, hp⟩ := h.ps
  exact hs ▸ hp.ge
theorem LpA.lt {v : Value} (h : LpA w W S0 bn be ba g T en a0 Lv v L) : g < W.heap.size := by
  obtain ⟨w0, hs, hp⟩ := h.ps
  exact hp.lt
theorem LpA.call {v : Value} (h : LpA w W S0 bn be ba g T en a0 Lv v L) (hs : w0.heap.size = S0) (h0 : PsS w0 W W g T en) (h1 : PsS w0 W W1 g T' en) : LpA w W1 S0 bn be ba g T' en a0 Lv v L :=
  ⟨h.b.keep (hs ▸ h0.bel) (hs ▸ h1.bel) h1.kb h.ge, ⟨w0, hs, h1.start⟩, Kd.N_keep h.row h1.kb (fun k hk => hk.2)⟩
theorem LpA.fault {v : Value} (h : LpA w W S0 bn be ba g T en a0 Lv v L) (hs : w0.heap.size = S0) (h0 : PsS w0 W W g T en) {x : PErr} {e : Ending} (h1 : PBad w0 W g x e W1) : LpB w W1 S0 bn be ba Lv a0 :=
  h.b.keep (hs ▸ h0.bel) (hs ▸ h1.2.1) h1.2.2 h.ge
/-- The row's element was stored. -/
theorem LpA.grown {v : Value} (h : LpA w W S0 bn be ba g T en a0 Lv v L) {ys : List S25} {row : Option Nat} (hv : row = v.ownBlock) (hg : W.grownBy W1 row) (hr : Kd.N k25 25 W1 w.heap.size (fun k => S0 ≤ k ∧ k ≠ g) v ys) : LpA w W1 S0 bn be ba g T en a0 Lv v ys := by
  subst hv
  obtain ⟨w0, hs, hp⟩ := h.ps
  exact ⟨h.b.grown hg (fun k hk => (h.row.1 k hk).1), ⟨w0, hs, hp.grow hg (fun e => (h.row.1 g e.symm).2 rfl) (fun k hk => hs ▸ (h.row.1 k hk).1)⟩, hr⟩
/-- .. and the file's node has the row. -/
theorem LpA.setL {v : Value} (h : LpA w W S0 bn be ba g T en a0 Lv v L) : LpS w (W.setCell ⟨bn, 4, none⟩ v) S0 bn be ba g T en a0 v L := by
  obtain ⟨w0, hs, hp⟩ := h.ps
  have hn := h.b.n1
  have hb : w0.heap[bn]? = some (.cells #[.string (⟨#[102, 105, 108, 101]⟩ : ByteArray), .string (⟨#[]⟩ : ByteArray), .int .i64 0, .int .i64 0, Lv] 25 (0, 0)) := (hp.bel.block bn (by omega)).symm.trans h.b.nb
  refine ⟨h.b.setL v, ⟨w0.setCell ⟨bn, 4, none⟩ v, by simpa [World.setCell] using hs, hp.both hb (by decide) (by have := h.b.n4; have := h.b.n0; omega) v⟩, Kd.N_far (p := ⟨bn, 4, none⟩) h.row (fun k hk => by show k ≠ bn; omega) v⟩
end
/-- Behind the call, the literal and the append, in whatever order. -/
def LpJ (w W : World) (S0 bn be ba g : Nat) (T : List S60) (en a0 : Int) (Lv : Value) (L : List S25) (x : S25) (s : Value × Value × Value) : Prop :=
  ∃ (v : Value) (gR c8 base : Nat), s.1 = .agg #[.string x.f0, .string x.f1, .int .i64 x.f2, .int .i64 x.f3, v] ∧ s.2.2 = .slice (some ⟨gR, 0, none⟩) (L.length + 1) c8 ∧
    LpA w W S0 bn be ba g T en a0 Lv (.slice (some ⟨gR, 0, none⟩) (L.length + 1) c8) (L ++ [z25]) ∧ Kd.N k25 25 W base (fun k => (S0 ≤ k ∧ k ≠ g) ∧ k ≠ gR) v x.f4
section
variable {w W W1 W2 w0 : World} {S0 bn be ba g : Nat} {T T' : List S60} {en a0 : Int} {Lv : Value} {L : List S25}
theorem LpS.rowlt (h : LpS w W S0 bn be ba g T en a0 Lv L) : ∀ k, Lv.ownBlock = some k → k < W.heap.size := Kd.N_lt h.row
/-- The call came ahead of the append: b0 the heap's size ahead of the call. -/
theorem LpJ.first {x : S25} {v v37 v36 : Value} {b0 base : Nat} (h : LpS w W S0 bn be ba g T en a0 Lv L) (hN : Kd.N k25 25 W base (fun k => b0 ≤ k) v x.f4) (hb : ∀ k, Lv.ownBlock = some k → k < b0) (hg0 : g < b0)
    (hg : W.grownBy W1 Lv.ownBlock) (hr : Kd.N k25 25 W1 w.heap.size (fun k => S0 ≤ k ∧ k ≠ g) v37 (L ++ [z25])) (hat : v37.ownBlock = Lv.ownBlock ∨ ∃ b, v37.ownBlock = some b ∧ W.heap.size ≤ b) :
    LpJ w W1 S0 bn be ba g T en a0 Lv L x (.agg #[.string x.f0, .string x.f1, .int .i64 x.f2, .int .i64 x.f3, v], v36, v37) := by
  obtain ⟨gR, cap, hv, _⟩ := Kd.N_form hr (by simp)
  have hlen : (L ++ [z25]).length = L.length + 1 := by simp
  rw [hlen] at hv
  have h1 := Kd.N_after (u := Lv) (u1 := v37) (Kd.N_mono (ok' := fun k => (b0 ≤ k) ∧ some k ≠ Lv.ownBlock) hN (fun k hk => ⟨hk, fun e => by have := hb k e.symm; omega⟩)) hg hat
  subst hv
  refine ⟨v, gR, cap, base, rfl, rfl, LpA.mk' h hg hr, Kd.N_mono h1 (fun k hk => ⟨⟨by have := h.ge; omega, by have := hk.1; omega⟩, fun e => hk.2 (by rw [e]; simp [Value.ownBlock])⟩)⟩
/-- The append came ahead of the call. -/
theorem LpJ.last {x : S25} {v v37 v36 : Value} {base : Nat} (h : LpA w W S0 bn be ba g T en a0 Lv v37 (L ++ [z25])) (hs : w0.heap.size = S0) (h0 : PsS w0 W W g T en) (h1 : PsS w0 W W1 g T' en) (hN : Kd.N k25 25 W1 base (fun k => W.heap.size ≤ k) v x.f4) :
    LpJ w W1 S0 bn be ba g T' en a0 Lv L x (.agg #[.string x.f0, .string x.f1, .int .i64 x.f2, .int .i64 x.f3, v], v36, v37) := by
  have hlt := Kd.N_lt h.row
  obtain ⟨gR, cap, hv, _, hgR, _⟩ := Kd.N_form h.row (by simp)
  have hlen : (L ++ [z25]).length = L.length + 1 := by simp
  rw [hlen] at hv
  subst hv
  have hl := h.lt
  have hge := h.ge
  exact ⟨v, gR, cap, base, rfl, rfl, h.call hs h0 h1, Kd.N_mono hN (fun k hk => ⟨⟨by omega, by omega⟩, by omega⟩)⟩
/-- The row's last element was stored. -/
theorem LpS.stored {gR n c : Nat} {ys : List S25} (h : LpS w W S0 bn be ba g T en a0 (.slice (some ⟨gR, 0, none⟩) n c) L) (hg : W.grownBy W1 (some gR)) (hr : Kd.N k25 25 W1 w.heap.size (fun k => S0 ≤ k ∧ k ≠ g) (.slice (some ⟨gR, 0, none⟩) n c) ys) : LpS w W1 S0 bn be ba g T en a0 (.slice (some ⟨gR, 0, none⟩) n c) ys := by
  have h1 : LpA w W S0 bn be ba g T en a0 (.slice (some ⟨gR, 0, none⟩) n c) (.slice (some ⟨gR, 0, none⟩) n c) L := ⟨h.b, h.ps, h.row⟩
  have h2 := h1.grown (row := some gR) (by simp [Value.ownBlock]) hg hr
  exact ⟨h2.b, h2.ps, h2.row⟩
theorem set_last {α : Type} (l : List α) (z x : α) : (l ++ [z]).set l.length x = l ++ [x] := by
  rw [List.set_append_right _ _ (Nat.le_refl _)]
  simp
end
/-- What stands behind Parse's last statement. -/
structure End9 (w : World) (ds : List Deferred) (bn be ba : Nat) (L : List S25) (e : Exit) (a : Act) (W : World) : Prop where
  e : e = .normal
  d : a.defers = ds
  t2 : (a.tmps[2]?).getD undef = .pointer (some ⟨bn, 0, none⟩)
  t3 : (a.tmps[3]?).getD undef = .pointer (some ⟨be, 0, none⟩)
  t4 : (a.tmps[4]?).getD undef = .pointer (some ⟨ba, 0, none⟩)
  row : ∃ Lv, W.heap[bn]? = some (.cells #[.string (⟨#[102, 105, 108, 101]⟩ : ByteArray), .string (⟨#[]⟩ : ByteArray), .int .i64 0, .int .i64 0, Lv] 25 (0, 0)) ∧ Kd.N k25 25 W w.heap.size (fun k => w.heap.size ≤ k) Lv L
  eb : W.heap[be]? = some (.cells #[.int .i64 0] 26 (0, 0))
  ab : W.heap[ba]? = some (.cells #[.int .i64 (-1)] 3 (0, 0))
  bel : Below w.heap.size w W
section
variable {P : Program} {Q : Exit → Act → World → Prop}
/-- A region's post where it may panic in a function that defers: the frame's parts that the deferred calls use. -/
def QP (Q : Exit → Act → World → Prop) (ds : List Deferred) (b2 b3 b4 : Value) (Pc : List PanicEntry → World → Prop) : Exit → Act → World → Prop
  | .panic c, a, w => a.defers = ds ∧ (a.tmps[2]?).getD undef = b2 ∧ (a.tmps[3]?).getD undef = b3 ∧ (a.tmps[4]?).getD undef = b4 ∧ Pc c w
  | e, a, w => Q e a w
theorem wp_region_QP {id : Nat} {ops : Array Oper} {b : Bool} {a : Act} {w : World} (ds : List Deferred) (b2 b3 b4 : Value) (Pc : List PanicEntry → World → Prop)
    (hp : ∀ c (a : Act) w, a.defers = ds → (a.tmps[2]?).getD undef = b2 → (a.tmps[3]?).getD undef = b3 → (a.tmps[4]?).getD undef = b4 → Pc c w → Q (.panic c) a w)
    (h : (Code.region id ops b).wp P (QP Q ds b2 b3 b4 Pc) a w) : (Code.region id ops b).wp P Q a w :=
  Code.wp_mono (fun e a w h => by
    cases e with
    | panic c => exact hp c a w h.1 h.2.1 h.2.2.1 h.2.2.2.1 h.2.2.2.2
    | _ => exact h) h
theorem QP.hq {ds : List Deferred} {b2 b3 b4 : Value} {Pc : List PanicEntry → World → Prop} {N : Option Tmp} {n : Tmp} {v : Value} (hN : N = some n) (h2 : n ≠ 2) (h3 : n ≠ 3) (h4 : n ≠ 4) : ∀ c (a : Act) w, QP Q ds b2 b3 b4 Pc (.panic c) (a.put N v) w → QP Q ds b2 b3 b4 Pc (.panic c) a w := by
  subst hN
  rintro c ⟨t, d⟩ w ⟨h0, ha, hb, hc, hd⟩
  simp only [Act.put, Array.getElem?_setIfInBounds] at *
  rw [if_neg h2] at ha
  rw [if_neg h3] at hb
  rw [if_neg h4] at hc
  exact ⟨h0, ha, hb, hc, hd⟩
variable {ops : Array Oper} {md : Region.Mode} {S : World → Prop} {ds : List Nat}
/-- One of ds may come up: by an event's law in its list form. -/
theorem lastW_ {i : Nat} {oi : Oper} {fuel : Nat} {l : Array Bool} {a : Act} {w : World} (l' : Array Bool) (hi : ops[i]? = some oi) (hc : readyB md ops l l' i = true) (hd : i ∈ ds)
    (h : wpList P ops (Qn (fun a' w' => wpAnyLast P md ops Q S ds fuel l' a' w') Q) [oi] a w) : wpAnyLast P md ops Q S ds (fuel + 1) l a w := by
  simp only [readyB, Bool.and_eq_true, beq_iff_eq] at hc
  obtain ⟨h1, h2⟩ := hc
  subst h2
  refine wpAnyLast_all h1 (by simp) (fun j hj => ?_)
  obtain rfl : j = i := by simpa using hj
  exact wpOp_mono (fun a' w' h' => ⟨fun hn => absurd hd hn, h'⟩) (wpOp_of_list hi h)
/-- Two may come up, both of ds: list forms. -/
theorem twoE_ {i j : Nat} {oi oj : Oper} {fuel : Nat} {l : Array Bool} {a : Act} {w : World} (li lj : Array Bool) (hi : ops[i]? = some oi) (hj : ops[j]? = some oj)
    (hc : (Region.ready md ops l == [i, j] && l.setIfInBounds i true == li && l.setIfInBounds j true == lj) = true) (hdi : i ∈ ds) (hdj : j ∈ ds) (hij : i ≠ j)
    (h1 : wpList P ops (Qn (fun a' w' => wpAnyLast P md ops Q S ds fuel li a' w') Q) [oi] a w)
    (h2 : wpList P ops (Qn (fun a' w' => wpAnyLast P md ops Q S ds fuel lj a' w') Q) [oj] a w) : wpAnyLast P md ops Q S ds (fuel + 1) l a w := by
  simp only [Bool.and_eq_true, beq_iff_eq] at hc
  obtain ⟨⟨h3, h4⟩, h5⟩ := hc
  subst h4
  subst h5
  refine wpAnyLast_all h3 (by simp) (fun m hm => ?_)
  by_cases hmi : m = i
  · subst hmi
    exact wpOp_mono (fun a' w' h' => ⟨fun hn => absurd hdi hn, h'⟩) (wpOp_of_list hi h1)
  · obtain rfl : m = j := by simpa [hmi] using hm
    exact wpOp_mono (fun a' w' h' => ⟨fun hn => absurd hdj hn, h'⟩) (wpOp_of_list hj h2)
end
end Go.Proofs.YtknbfhhmjbnemaaDoor.P
end
section
namespace Go.Proofs.YtknbfhhmjbnemaaDoor.P
open Go.RowKit Go.Proofs.YtknbfhhmjbnemaaDoorW.PrintWords Go.Proofs.YtknbfhhmjbnemaaDoorW.PrintLast Go.Proofs.YtknbfhhmjbnemaaDoorW.PrintMore
set_option linter.unusedVariables false
set_option linter.unusedSimpArgs false

set_option maxHeartbeats 16000000 in
set_option maxRecDepth 100000 in
theorem parse_main (k k2 : Nat) (s : ByteArray) (T : List S60) (at_ m : Int) (r : Except PErr (List S25 × List S60)) (w : World) (hm : w.cell? ⟨0, 0, none⟩ = some (.int .i64 m)) (h : lex_Scan.f k s = some (T, 0, at_)) (hr : pstmts k2 T s.size [] = some r) :
    Calls Tryd.prog 9 #[.string s] w (parseO w r) := by
  have hmf : ∀ (fn : Fn) (first cap : Array Value) (w : World), (Instr.makeFunc fn first cap).run Tryd.prog w = .ok (.func fn first cap) w := fun _ _ _ _ => rfl
  have hu25 := Tryd.underlying25
  have HS := Aside0.mk h
  have HM := Aside0.mk hm
  have HH := Aside0.mk hr
  clear h hm hr
  have HN := Aside0.mk (show (((w.alloc (.cells #[.string (⟨#[]⟩ : ByteArray), .string (⟨#[]⟩ : ByteArray), .int .i64 0, .int .i64 0, .slice none 0 0] 25 (0, 0))).alloc (.cells #[.int .i64 0] 26 (0, 0))).alloc (.cells #[.int .i64 0] 3 (0, 0))).heap[w.heap.size]? = some (.cells #[.string (⟨#[]⟩ : ByteArray), .string (⟨#[]⟩ : ByteArray), .int .i64 0, .int .i64 0, .slice none 0 0] 25 (0, 0)) from blk_alloc (blk_alloc (blk_new _ _) _) _)
  have HE := Aside0.mk (show (((w.alloc (.cells #[.string (⟨#[]⟩ : ByteArray), .string (⟨#[]⟩ : ByteArray), .int .i64 0, .int .i64 0, .slice none 0 0] 25 (0, 0))).alloc (.cells #[.int .i64 0] 26 (0, 0))).alloc (.cells #[.int .i64 0] 3 (0, 0))).heap[w.heap.size + 1]? = some (.cells #[.int .i64 0] 26 (0, 0)) from blk_alloc (by have := blk_new (w.alloc (.cells #[.string (⟨#[]⟩ : ByteArray), .string (⟨#[]⟩ : ByteArray), .int .i64 0, .int .i64 0, .slice none 0 0] 25 (0, 0))) (.cells #[.int .i64 0] 26 (0, 0)); rwa [World.size_alloc] at this) _)
  have HA := Aside0.mk (show (((w.alloc (.cells #[.string (⟨#[]⟩ : ByteArray), .string (⟨#[]⟩ : ByteArray), .int .i64 0, .int .i64 0, .slice none 0 0] 25 (0, 0))).alloc (.cells #[.int .i64 0] 26 (0, 0))).alloc (.cells #[.int .i64 0] 3 (0, 0))).heap[w.heap.size + 1 + 1]? = some (.cells #[.int .i64 0] 3 (0, 0)) from by have := blk_new ((w.alloc (.cells #[.string (⟨#[]⟩ : ByteArray), .string (⟨#[]⟩ : ByteArray), .int .i64 0, .int .i64 0, .slice none 0 0] 25 (0, 0))).alloc (.cells #[.int .i64 0] 26 (0, 0))) (.cells #[.int .i64 0] 3 (0, 0)); rwa [World.size_alloc, World.size_alloc] at this)
  have HB := Aside0.mk (show Below w.heap.size w (((w.alloc (.cells #[.string (⟨#[]⟩ : ByteArray), .string (⟨#[]⟩ : ByteArray), .int .i64 0, .int .i64 0, .slice none 0 0] 25 (0, 0))).alloc (.cells #[.int .i64 0] 26 (0, 0))).alloc (.cells #[.int .i64 0] 3 (0, 0))) from below_alloc (below_alloc (below_alloc (Below.refl _ _) _) _) _)
  go_enter_defers Tryd.func9, Tryd.ntmps9
  go_upto_region 1 with (fail)
  generalize (((w.alloc (.cells #[.string (⟨#[]⟩ : ByteArray), .string (⟨#[]⟩ : ByteArray), .int .i64 0, .int .i64 0, .slice none 0 0] 25 (0, 0))).alloc (.cells #[.int .i64 0] 26 (0, 0))).alloc (.cells #[.int .i64 0] 3 (0, 0))) = w1 at *
  have NE1 := Aside0.mk (show w.heap.size + 1 ≠ w.heap.size + 1 + 1 by omega)
  have NE2 := Aside0.mk (show w.heap.size ≠ w.heap.size + 1 by omega)
  have NE3 := Aside0.mk (show w.heap.size ≠ w.heap.size + 1 + 1 by omega)
  have GE1 := Aside0.mk (show w.heap.size ≤ w.heap.size + 1 by omega)
  have GE2 := Aside0.mk (show w.heap.size ≤ w.heap.size + 1 + 1 by omega)
  generalize hbe : w.heap.size + 1 = be at *
  generalize hba : be + 1 = ba at *
  clear hbe hba
  have nba := NE1.out
  have nba' := NE1.out.symm
  go_upto_region 2 with (go_at_call 17; (with_reducible refine (lex_Scan.calls k s T 0 at_ w1 HS.out).mono ?_); rintro e w2 ⟨v0, rfl, hR, hb⟩; have HR := Aside0.mk hR; have HB2 := Aside0.mk (below_then HB.out HB.out.size hb); have HN2 := Aside0.mk (blk_below HN.out hb); have HE2 := Aside0.mk (blk_below HE.out hb); have HA2 := Aside0.mk (blk_below HA.out hb); have c0 := (blk_cell HE2.out 0).trans rfl; have f0 := blk_frozen HE2.out 0; have c1 := (blk_cell HA2.out 0).trans rfl; have f1 := blk_frozen HA2.out 0; clear hR hb)
  generalize hW : World.setCell (World.setCell w2 _ _) _ _ = W3
  have HN3 := Aside0.mk (show W3.heap[w.heap.size]? = some (.cells #[.string (⟨#[]⟩ : ByteArray), .string (⟨#[]⟩ : ByteArray), .int .i64 0, .int .i64 0, .slice none 0 0] 25 (0, 0)) from by rw [← hW]; exact blk_far (p := ⟨ba, 0, none⟩) (blk_far (p := ⟨be, 0, none⟩) HN2.out NE2.out _) NE3.out _)
  have HE3 := Aside0.mk (show W3.heap[be]? = some (.cells #[.int .i64 0] 26 (0, 0)) from by rw [← hW]; exact blk_far (p := ⟨ba, 0, none⟩) (blk_put HE2.out 0 _ rfl) NE1.out _)
  have HA3 := Aside0.mk (show W3.heap[ba]? = some (.cells #[.int .i64 at_] 3 (0, 0)) from by rw [← hW]; exact blk_put (blk_far (p := ⟨be, 0, none⟩) HA2.out NE1.out.symm _) 0 _ rfl)
  have HB3 := Aside0.mk (show Below w.heap.size w W3 from by rw [← hW]; exact (HB2.out.setCell (p := ⟨be, 0, none⟩) GE1.out _).setCell (p := ⟨ba, 0, none⟩) GE2.out _)
  have HR3 := Aside0.mk (show Kd.R k60 60 W3 w1.heap.size (fun k => w1.heap.size ≤ k) v0 T from by rw [← hW]; exact Kd.R_far (p := ⟨ba, 0, none⟩) (Kd.R_far (p := ⟨be, 0, none⟩) (Kd.R_mono (Kd.R_bound HR.out) (fun k hk => hk.2.1)) (fun k hk => by have := blk_lt HE.out; show k ≠ be; omega) _) (fun k hk => by have := blk_lt HA.out; show k ≠ ba; omega) _)
  clear hW HN HE HA HB HN2 HE2 HA2 HB2 c0 f0 c1 f1
  have c0 := (blk_cell HE3.out 0).trans rfl
  obtain ⟨A, c, rfl⟩ := Kd.R_slice HR.out
  go_upto_region 6 with (fail)
  clear c0
  generalize hW : World.alloc W3 _ = Wp
  have SZ0 := Aside0.mk (lt_of_cell HM.out)
  obtain ⟨_, hcc, hreads⟩ := Kd.R_reads' HR3.out
  have HTY := Kd.R_typed HR3.out
  have PS := Aside0.mk (show PsS W3 Wp Wp W3.heap.size T s.size from by
    rw [← hW]
    refine ⟨⟨A, c, blk_new _ _, hcc, hreads, fun a ha => ?_⟩, Nat.le_refl _, below_alloc (Below.refl _ _) _, KeepBut.refl _ _ _, m, pw_cell_below HB3.out HM.out⟩
    subst ha
    obtain ⟨gg, rfl⟩ := Kd.R_head HR3.out
    exact HTY gg (by simp [Value.ownBlock]))
  clear hcc hreads HTY
  have HNp := Aside0.mk (show Wp.heap[w.heap.size]? = some (.cells #[.string (⟨#[]⟩ : ByteArray), .string (⟨#[]⟩ : ByteArray), .int .i64 0, .int .i64 0, .slice none 0 0] 25 (0, 0)) from by rw [← hW]; exact blk_alloc HN3.out _)
  have HEp := Aside0.mk (show Wp.heap[be]? = some (.cells #[.int .i64 0] 26 (0, 0)) from by rw [← hW]; exact blk_alloc HE3.out _)
  have HAp := Aside0.mk (show Wp.heap[ba]? = some (.cells #[.int .i64 at_] 3 (0, 0)) from by rw [← hW]; exact blk_alloc HA3.out _)
  have HBp := Aside0.mk (show Below w.heap.size w Wp from by rw [← hW]; exact below_alloc HB3.out _)
  clear hW
  have c0 := (blk_cell HNp.out 0).trans rfl
  have f0 := blk_frozen HNp.out 0
  go_upto_block 0 with (fail)
  clear c0 f0
  generalize hW : World.setCell Wp _ _ = W6
  have LS := Aside0.mk (show LpS w W6 W3.heap.size w.heap.size be ba W3.heap.size T s.size at_ (.slice none 0 0) [] from by
    have h1 := blk_lt HN3.out
    have h2 := blk_lt HE3.out
    have h3 := blk_lt HA3.out
    have h4 := SZ0.out
    rw [← hW]
    exact ⟨⟨blk_put HNp.out 0 _ rfl, blk_far (p := ⟨w.heap.size, 0, none⟩) HEp.out NE2.out.symm _, blk_far (p := ⟨w.heap.size, 0, none⟩) HAp.out NE3.out.symm _, HBp.out.setCell (p := ⟨w.heap.size, 0, none⟩) (Nat.le_refl _) _, h1, h2, h3, Nat.le_refl _, GE1.out, GE2.out, SZ0.out⟩, ⟨W3.setCell ⟨w.heap.size, 0, none⟩ (.string (⟨#[102, 105, 108, 101]⟩ : ByteArray)), by simp [World.setCell], PS.out.both HN3.out (by decide) (Nat.ne_of_gt SZ0.out) _⟩, Kd.N_nil _ _ _ _ _⟩)
  clear hW HNp HEp HAp HBp PS HR3 HR HN3 HE3 HA3 HB3 nba nba'
  generalize W3.heap.size = g at *
  go_wp2_with (fail)
  go_loopg [] k2 (fun kx wr => ∃ (kk : Nat) (TT : List S60) (acc : List S25) (Lv : Value), kk ≤ kx ∧ Aside0 (LpS w wr g w.heap.size be ba g TT s.size at_ Lv acc) ∧ Aside0 (pstmts kk TT s.size acc = some r))
  case atStart => exact ⟨k2, _, _, _, Nat.le_refl _, LS, HH⟩
  case round =>
    clear HH LS
    obtain ⟨kk, TT, acc, Lv, hk1, EL, HH⟩ := hrel
    cases kk with
    | zero => exact absurd HH.out (by rw [pstmts]; simp)
    | succ kk =>
      have hl := HH.out
      clear HH
      rw [pstmts] at hl
      obtain ⟨AL, cL, rfl⟩ := Kd.N_slice EL.out.row
      by_cases hb : acc.length ≤ 1000000
      case neg => rw [if_neg hb] at hl; cases hl
      rw [if_pos hb] at hl
      obtain ⟨w0, hs0, hps⟩ := EL.out.ps
      have HS0 := Aside0.mk hs0
      have HPS := Aside0.mk hps
      clear hs0
      obtain ⟨⟨At, ct, hbk, hct, hCt, hx1⟩, hx2⟩ := hps
      have x0 := (blk_cell hbk 0).trans rfl
      clear hbk hct hCt hx1 hx2
      by_cases hT : TT = []
      · skip
        subst hT
        have d0 := True.intro
        rw [if_pos rfl] at hl
        simp only [Option.some.injEq] at hl
        subst hl
        have n0 := (blk_cell EL.out.b.nb 0).trans rfl
        have m0 := blk_frozen EL.out.b.nb 0
        have n1 := (blk_cell EL.out.b.nb 1).trans rfl
        have m1 := blk_frozen EL.out.b.nb 1
        have n2 := (blk_cell EL.out.b.nb 2).trans rfl
        have m2 := blk_frozen EL.out.b.nb 2
        have n3 := (blk_cell EL.out.b.nb 3).trans rfl
        have m3 := blk_frozen EL.out.b.nb 3
        have n4 := (blk_cell EL.out.b.nb 4).trans rfl
        have m4 := blk_frozen EL.out.b.nb 4
        go_upto_region 9 with (fail)
        have me0 := (blk_cell EL.out.b.eb 0).trans rfl
        have ma0 := (blk_cell EL.out.b.ab 0).trans rfl
        have q1 := NE1.out
        have q2 := NE2.out
        have q3 := NE3.out
        have q1s := NE1.out.symm
        have q2s := NE2.out.symm
        have q3s := NE3.out.symm
        have me := blk_frozen EL.out.b.eb 0
        have ma := blk_frozen EL.out.b.ab 0
        refine Code.wp_mono (P := Tryd.prog) (Q := End9 w [{ target := .fn (.func 18) #[.pointer (some ⟨w.heap.size, 0, none⟩), .pointer (some ⟨be, 0, none⟩), .pointer (some ⟨ba, 0, none⟩)], args := #[] }] w.heap.size be ba acc) ?_ ?_
        · rintro e ⟨t, d⟩ w' h9
          obtain ⟨rfl, hd, h2, h3, h4, ⟨Lz, hnb, hrow⟩, heb, hab, hbel⟩ := h9
          have HD := Aside0.mk hd
          have H2 := Aside0.mk h2
          have H3 := Aside0.mk h3
          have H4 := Aside0.mk h4
          have HZ := Aside0.mk (And.intro hnb (And.intro heb (And.intro hab (And.intro hbel hrow))))
          clear hd h2 h3 h4 hnb heb hab hbel hrow x0 n0 n1 n2 n3 n4 m0 m1 m2 m3 m4 me ma me0 ma0 q1 q2 q3 q1s q2s q3s
          go_wp2_with (fail)
          have hd := HD.out
          have hz := HZ.out
          show Leaves Tryd.prog Tryd.f9 t _ d _ _
          rw [hd]
          refine leaves_cons (by intro h; cases h) rfl ((parse1_idle _ _ _ _).mono ?_)
          rintro e u' w9 ⟨rfl, rfl, rfl⟩
          exact ⟨_, results9 _ _ w.heap.size be ba _ _ _ _ _ _ _ H2.out H3.out H4.out hz.1 hz.2.1 hz.2.2.1, ⟨_, rfl, hz.2.2.2.2, hz.2.2.2.1⟩⟩
        clear x0
        refine wp_region_lit ?_
        refine wpList_plain rfl (fun K hK => ?_)
        go_simp
        refine hK _ _ ?_
        clear hK K
        refine wpList_plain rfl (fun K hK => ?_)
        go_simp
        refine hK _ _ ?_
        clear hK K
        refine wpList_plain rfl (fun K hK => ?_)
        go_simp
        refine hK _ _ ?_
        clear hK K
        refine wpList_plain rfl (fun K hK => ?_)
        go_simp
        refine hK _ _ ?_
        clear hK K
        have g1 := blk_far (p := ⟨ba, 0, none⟩) (blk_far (p := ⟨be, 0, none⟩) (blk_put (blk_put (blk_put (blk_put (blk_put EL.out.b.nb 0 (.string (⟨#[102, 105, 108, 101]⟩ : ByteArray)) rfl) 1 (.string (⟨#[]⟩ : ByteArray)) rfl) 2 (.int .i64 0) rfl) 3 (.int .i64 0) rfl) 4 (.slice AL acc.length cL) rfl) NE2.out (.int .i64 0)) NE3.out (.int .i64 (-1))
        have g2 := blk_far (p := ⟨ba, 0, none⟩) (blk_put (blk_far (p := ⟨w.heap.size, 4, none⟩) (blk_far (p := ⟨w.heap.size, 3, none⟩) (blk_far (p := ⟨w.heap.size, 2, none⟩) (blk_far (p := ⟨w.heap.size, 1, none⟩) (blk_far (p := ⟨w.heap.size, 0, none⟩) EL.out.b.eb NE2.out.symm (.string (⟨#[102, 105, 108, 101]⟩ : ByteArray))) NE2.out.symm (.string (⟨#[]⟩ : ByteArray))) NE2.out.symm (.int .i64 0)) NE2.out.symm (.int .i64 0)) NE2.out.symm (.slice AL acc.length cL)) 0 (.int .i64 0) rfl) NE1.out (.int .i64 (-1))
        have g3 := blk_put (blk_far (p := ⟨be, 0, none⟩) (blk_far (p := ⟨w.heap.size, 4, none⟩) (blk_far (p := ⟨w.heap.size, 3, none⟩) (blk_far (p := ⟨w.heap.size, 2, none⟩) (blk_far (p := ⟨w.heap.size, 1, none⟩) (blk_far (p := ⟨w.heap.size, 0, none⟩) EL.out.b.ab NE3.out.symm (.string (⟨#[102, 105, 108, 101]⟩ : ByteArray))) NE3.out.symm (.string (⟨#[]⟩ : ByteArray))) NE3.out.symm (.int .i64 0)) NE3.out.symm (.int .i64 0)) NE3.out.symm (.slice AL acc.length cL)) NE1.out.symm (.int .i64 0)) 0 (.int .i64 (-1)) rfl
        have hBz := ((((((EL.out.b.bel.setCell (p := ⟨w.heap.size, 0, none⟩) (Nat.le_refl _) (.string (⟨#[102, 105, 108, 101]⟩ : ByteArray))).setCell (p := ⟨w.heap.size, 1, none⟩) (Nat.le_refl _) (.string (⟨#[]⟩ : ByteArray))).setCell (p := ⟨w.heap.size, 2, none⟩) (Nat.le_refl _) (.int .i64 0)).setCell (p := ⟨w.heap.size, 3, none⟩) (Nat.le_refl _) (.int .i64 0)).setCell (p := ⟨w.heap.size, 4, none⟩) (Nat.le_refl _) (.slice AL acc.length cL)).setCell (p := ⟨be, 0, none⟩) GE1.out (.int .i64 0)).setCell (p := ⟨ba, 0, none⟩) GE2.out (.int .i64 (-1))
        have hRz := (Kd.N_far (p := ⟨ba, 0, none⟩) (Kd.N_far (p := ⟨be, 0, none⟩) (Kd.N_far (p := ⟨w.heap.size, 4, none⟩) (Kd.N_far (p := ⟨w.heap.size, 3, none⟩) (Kd.N_far (p := ⟨w.heap.size, 2, none⟩) (Kd.N_far (p := ⟨w.heap.size, 1, none⟩) (Kd.N_far (p := ⟨w.heap.size, 0, none⟩) EL.out.row (fun k hk => by have h1 := EL.out.b.n1; have h2 := EL.out.b.n2; have h3 := EL.out.b.n3; have h4 := hk.1; show k ≠ w.heap.size; omega) (.string (⟨#[102, 105, 108, 101]⟩ : ByteArray))) (fun k hk => by have h1 := EL.out.b.n1; have h2 := EL.out.b.n2; have h3 := EL.out.b.n3; have h4 := hk.1; show k ≠ w.heap.size; omega) (.string (⟨#[]⟩ : ByteArray))) (fun k hk => by have h1 := EL.out.b.n1; have h2 := EL.out.b.n2; have h3 := EL.out.b.n3; have h4 := hk.1; show k ≠ w.heap.size; omega) (.int .i64 0)) (fun k hk => by have h1 := EL.out.b.n1; have h2 := EL.out.b.n2; have h3 := EL.out.b.n3; have h4 := hk.1; show k ≠ w.heap.size; omega) (.int .i64 0)) (fun k hk => by have h1 := EL.out.b.n1; have h2 := EL.out.b.n2; have h3 := EL.out.b.n3; have h4 := hk.1; show k ≠ w.heap.size; omega) (.slice AL acc.length cL)) (fun k hk => by have h1 := EL.out.b.n1; have h2 := EL.out.b.n2; have h3 := EL.out.b.n3; have h4 := hk.1; show k ≠ be; omega) (.int .i64 0)) (fun k hk => by have h1 := EL.out.b.n1; have h2 := EL.out.b.n2; have h3 := EL.out.b.n3; have h4 := hk.1; show k ≠ ba; omega) (.int .i64 (-1)))
        exact ⟨rfl, rfl, rfl, rfl, rfl, ⟨_, g1, Kd.N_mono hRz (fun k hk => Nat.le_trans (Nat.le_trans EL.out.b.n4 (Nat.le_of_lt EL.out.b.n1)) hk.1)⟩, g2, g3, hBz⟩
      rw [if_neg hT] at hl
      have HH := Aside0.mk hl
      clear hl
      have hlen : 0 < TT.length := List.length_pos_iff.mpr hT
      generalize hnn : TT.length = nT at x0 hlen
      clear hnn
      have d1 : (0 : Int) < (nT : Int) := by omega
      go_upto_region 8 with (fail)
      have hh := HH.out
      clear HH x0 d1
      rcases pbd_inv hh with ⟨x, hx, rfl⟩ | ⟨a1, T1, hx, h1⟩
      · skip
        have HX := Aside0.mk hx
        clear hx hh
        refine wp_region_QP [{ target := .fn (.func 18) #[.pointer (some ⟨w.heap.size, 0, none⟩), .pointer (some ⟨be, 0, none⟩), .pointer (some ⟨ba, 0, none⟩)], args := #[] }] (.pointer (some ⟨w.heap.size, 0, none⟩)) (.pointer (some ⟨be, 0, none⟩)) (.pointer (some ⟨ba, 0, none⟩)) (fun c W' => c = faultOf x ∧ LpB w W' g w.heap.size be ba (.slice AL acc.length cL) at_) ?_ ?_
        · rintro c ⟨t, d⟩ W' hd h2 h3 h4 ⟨rfl, LB⟩
          show Leaves Tryd.prog Tryd.f9 t _ d _ _
          replace hd : d = _ := hd
          rw [hd]
          refine leaves_cons (by intro h; cases h) rfl ((parse1_panicking w.heap.size be ba 0 x _ _ _ _ _ _ _ W' LB.nb LB.eb LB.ab).mono ?_)
          rintro e u' w9 ⟨rfl, rfl, g1, g2, g3, g4⟩
          exact ⟨_, results9 t w9 w.heap.size be ba _ _ _ _ _ _ _ h2 h3 h4 g1 g2 g3, ⟨_, rfl, Kd.N_nil _ _ _ _ _, g4 _ _ (Nat.le_refl _) GE1.out GE2.out LB.bel⟩⟩
        refine start_ (n := 11) (S := fun w' => w'.cell? ⟨w.heap.size, 4, none⟩ = some (.slice AL acc.length cL)) (ds := [8, 10]) #[false, false, false, false, false, false, false, false, false, false, false] (by kernel_rfl) rfl rfl ?hS (fun hHeld => ?_)
        case hS => exact (blk_cell (blk_drew EL.out.b.nb) 4).trans rfl
        have ED := Aside0.mk EL.out.drew
        have HB0 := Aside0.mk (show ∀ k, (Value.slice AL acc.length cL).ownBlock = some k → k < wr.drew.heap.size from EL.out.rowlt)
        have HG0 := Aside0.mk (show g < wr.drew.heap.size from EL.out.lt)
        clear EL HPS HS0
        generalize World.drew wr = wd at *
        have x4 := (blk_cell ED.out.b.nb 4).trans rfl
        refine pure_ (i := 0) (N := some 31) (v := ?_) (a' := ?_) #[true, false, false, false, false, false, false, false, false, false, false] rfl rfl (by kernel_rfl) (QP.hq rfl (by decide) (by decide) (by decide)) (Or.inl ⟨by rfl, ?_⟩) ?_ ?_
        rotate_left
        · intro w'
          go_simp
          with_reducible rfl
        rotate_left
        · simp only [Act.put, List.setIfInBounds_toArray, List.set_cons_zero, List.set_cons_succ, i64_w, i32_w]
          rfl
        refine pure_ (i := 2) (N := some 33) (v := ?_) (a' := ?_) #[true, false, true, false, false, false, false, false, false, false, false] rfl rfl (by kernel_rfl) (QP.hq rfl (by decide) (by decide) (by decide)) (Or.inl ⟨by rfl, ?_⟩) ?_ ?_
        rotate_left
        · intro w'
          go_simp
          with_reducible rfl
        rotate_left
        · simp only [Act.put, List.setIfInBounds_toArray, List.set_cons_zero, List.set_cons_succ, i64_w, i32_w]
          rfl
        refine take_ (i := 1) (N := some 32) (v := ?_) (a' := ?_) #[true, true, true, false, false, false, false, false, false, false, false] rfl rfl (by kernel_rfl) (QP.hq rfl (by decide) (by decide) (by decide)) (Or.inl ⟨by rfl, ?_⟩) hHeld ?_ ?_
        rotate_left
        · rintro w' s0
          go_simp
          with_reducible rfl
        rotate_left
        · simp only [Act.put, List.setIfInBounds_toArray, List.set_cons_zero, List.set_cons_succ, i64_w, i32_w]
          rfl
        refine pure_ (i := 4) (N := some 35) (v := ?_) (a' := ?_) #[true, true, true, false, true, false, false, false, false, false, false] rfl rfl (by kernel_rfl) (QP.hq rfl (by decide) (by decide) (by decide)) (Or.inl ⟨by rfl, ?_⟩) ?_ ?_
        rotate_left
        · intro w'
          go_simp
          with_reducible rfl
        rotate_left
        · simp only [Act.put, List.setIfInBounds_toArray, List.set_cons_zero, List.set_cons_succ, i64_w, i32_w]
          rfl
        have SZ := Aside0.mk (Nat.le_refl wd.heap.size)
        refine two_ (i := 3) (j := 5) (Ni := some 34) (Nj := some 36) #[true, true, true, true, true, false, false, false, false, false, false] #[true, true, true, false, true, true, false, false, false, false, false] rfl rfl rfl rfl (by kernel_rfl) (by decide) (by decide) ?_ ?_
        · intro K hK
          obtain ⟨w0_1, hs_1, hp_1⟩ := ED.out.ps
          have HS_1 := Aside0.mk hs_1
          have HP_1 := Aside0.mk hp_1
          clear hs_1 hp_1
          refine goesP_ Tryd.func19 (by kernel_rfl) rfl #[.pointer (some ⟨g, 0, none⟩)] (by rfl) rfl rfl (by first | rfl | (simp [Act.eval]; done) | (go_simp; done)) (R := PRes (α := S25) w0_1 wd g s.size (nodeR wd) (.error x)) (pstmt_calls kk g _ _ _ w0_1 wd HP_1.out HX.out) ?_
          rintro e w2 ⟨rfl, h2⟩
          exact .inl ⟨_, rfl, ⟨rfl, rfl, rfl, rfl, rfl, ED.out.fault (x := x) (e := .panicked (faultOf x)) HS_1.out HP_1.out ⟨rfl, h2⟩⟩⟩
        · intro K hK
          refine Kd.N_lit_step k25 (w0 := wd) wd.heap.size 25 (by rfl) (N' := 36) rfl (xs := [z25]) (inner := [.string z25.f0, .string z25.f1, .int .i64 z25.f2, .int .i64 z25.f3, .slice none z25.f4.length 0]) (ok := (fun k => wd.heap.size ≤ k)) (okp := (fun k => wd.heap.size ≤ k)) ?hr ((Reps.none _ _).snoc (FKp_node (base := 0) (Kd.N_nil _ _ _ _ _)) rfl) (fun _ hk => hk) ?hf (Below.refl _ _) (Nat.le_refl _) (by show 1 ≤ 9223372036854775807; decide) ?_
          case hr => first | (go_simp; done) | (go_simp; rfl)
          case hf => exact SZ.out
          intro v7 w7 hN7 hb7 hg7 hat7
          obtain ⟨A7, c7, rfl⟩ := Kd.N_slice hN7
          have E7 := Aside0.mk (ED.out.below hb7)
          have HN7 := Aside0.mk hN7
          have SZ7 := Aside0.mk hb7.size
          have HBB7 := Aside0.mk hb7
          clear hN7 hb7 hg7 hat7
          try clear hHeld
          refine hK.out _ _ ((blk_cell E7.out.b.nb 4).trans rfl) (fun hHeld => ?_)
          clear hK K
          refine norm_ (a' := ?_) ?_ ?_
          rotate_left
          · show Act.put _ (some 36) _ = _
            simp only [Act.put, List.setIfInBounds_toArray, List.set_cons_zero, List.set_cons_succ, i64_w, i32_w]
            rfl
          refine one_ (i := 3) (N := some 34) #[true, true, true, true, true, true, false, false, false, false, false] rfl rfl (by kernel_rfl) (by decide) (fun K hK => ?_)
          obtain ⟨w0_2, hs_2, hp_2⟩ := E7.out.ps
          have HS_2 := Aside0.mk hs_2
          have HP_2 := Aside0.mk hp_2
          clear hs_2 hp_2
          refine goesP_ Tryd.func19 (by kernel_rfl) rfl #[.pointer (some ⟨g, 0, none⟩)] (by rfl) rfl rfl (by first | rfl | (simp [Act.eval]; done) | (go_simp; done)) (R := PRes (α := S25) w0_2 w7 g s.size (nodeR w7) (.error x)) (pstmt_calls kk g _ _ _ w0_2 w7 HP_2.out HX.out) ?_
          rintro e w2 ⟨rfl, h2⟩
          exact .inl ⟨_, rfl, ⟨rfl, rfl, rfl, rfl, rfl, E7.out.fault (x := x) (e := .panicked (faultOf x)) HS_2.out HP_2.out ⟨rfl, h2⟩⟩⟩
      have HX := Aside0.mk hx
      have HH := Aside0.mk h1
      clear hx h1 hh
      refine wp_region_noPanic ?_
      refine start_ (n := 11) (S := fun w' => w'.cell? ⟨w.heap.size, 4, none⟩ = some (.slice AL acc.length cL)) (ds := [8, 10]) #[false, false, false, false, false, false, false, false, false, false, false] (by kernel_rfl) rfl rfl ?hS (fun hHeld => ?_)
      case hS => exact (blk_cell (blk_drew EL.out.b.nb) 4).trans rfl
      have ED := Aside0.mk EL.out.drew
      have HB0 := Aside0.mk (show ∀ k, (Value.slice AL acc.length cL).ownBlock = some k → k < wr.drew.heap.size from EL.out.rowlt)
      have HG0 := Aside0.mk (show g < wr.drew.heap.size from EL.out.lt)
      clear EL HPS HS0
      generalize World.drew wr = wd at *
      have x4 := (blk_cell ED.out.b.nb 4).trans rfl
      refine pure_ (i := 0) (N := some 31) (v := ?_) (a' := ?_) #[true, false, false, false, false, false, false, false, false, false, false] rfl rfl (by kernel_rfl) (fun _ _ _ h => h) (Or.inl ⟨by rfl, ?_⟩) ?_ ?_
      rotate_left
      · intro w'
        go_simp
        with_reducible rfl
      rotate_left
      · simp only [Act.put, List.setIfInBounds_toArray, List.set_cons_zero, List.set_cons_succ, i64_w, i32_w]
        rfl
      refine pure_ (i := 2) (N := some 33) (v := ?_) (a' := ?_) #[true, false, true, false, false, false, false, false, false, false, false] rfl rfl (by kernel_rfl) (fun _ _ _ h => h) (Or.inl ⟨by rfl, ?_⟩) ?_ ?_
      rotate_left
      · intro w'
        go_simp
        with_reducible rfl
      rotate_left
      · simp only [Act.put, List.setIfInBounds_toArray, List.set_cons_zero, List.set_cons_succ, i64_w, i32_w]
        rfl
      refine take_ (i := 1) (N := some 32) (v := ?_) (a' := ?_) #[true, true, true, false, false, false, false, false, false, false, false] rfl rfl (by kernel_rfl) (fun _ _ _ h => h) (Or.inl ⟨by rfl, ?_⟩) hHeld ?_ ?_
      rotate_left
      · rintro w' s0
        go_simp
        with_reducible rfl
      rotate_left
      · simp only [Act.put, List.setIfInBounds_toArray, List.set_cons_zero, List.set_cons_succ, i64_w, i32_w]
        rfl
      refine pure_ (i := 4) (N := some 35) (v := ?_) (a' := ?_) #[true, true, true, false, true, false, false, false, false, false, false] rfl rfl (by kernel_rfl) (fun _ _ _ h => h) (Or.inl ⟨by rfl, ?_⟩) ?_ ?_
      rotate_left
      · intro w'
        go_simp
        with_reducible rfl
      rotate_left
      · simp only [Act.put, List.setIfInBounds_toArray, List.set_cons_zero, List.set_cons_succ, i64_w, i32_w]
        rfl
      have SZ := Aside0.mk (Nat.le_refl wd.heap.size)
      refine join_ (σ := Value × Value × Value) 4 #[true, true, true, true, true, true, true, false, false, false, false] (fun sv => [(34, sv.1), (36, sv.2.1), (37, sv.2.2)]) (fun sv W' => LpJ w W' g w.heap.size be ba g T1 s.size at_ (.slice AL acc.length cL) acc a1 sv) ?cont ?go
      case go =>
        intro hcont
        have HC := Aside0.mk hcont
        clear hcont
        refine two_ (i := 3) (j := 5) (Ni := some 34) (Nj := some 36) #[true, true, true, true, true, false, false, false, false, false, false] #[true, true, true, false, true, true, false, false, false, false, false] rfl rfl rfl rfl (by kernel_rfl) (by decide) (by decide) ?_ ?_
        · intro K hK
          obtain ⟨w0_3, hs_3, hp_3⟩ := ED.out.ps
          have HS_3 := Aside0.mk hs_3
          have HP_3 := Aside0.mk hp_3
          clear hs_3 hp_3
          refine goesP_ Tryd.func19 (by kernel_rfl) rfl #[.pointer (some ⟨g, 0, none⟩)] (by rfl) rfl rfl (by first | rfl | (simp [Act.eval]; done) | (go_simp; done)) (R := PRes (α := S25) w0_3 wd g s.size (nodeR wd) (.ok (a1, T1))) (pstmt_calls kk g _ _ _ w0_3 wd HP_3.out HX.out) ?_
          rintro e w2 ⟨⟨v, rfl, hN⟩, h2⟩
          have HV := Aside0.mk hN
          have HP2_3 := Aside0.mk h2
          clear hN h2
          refine .inr ⟨_, rfl, ?_⟩
          have E2 := Aside0.mk (ED.out.call HS_3.out HP_3.out HP2_3.out)
          have SZ := Aside0.mk HP2_3.out.kb.1
          try clear hHeld
          refine hK.out _ _ ((blk_cell E2.out.b.nb 4).trans rfl) (fun hHeld => ?_)
          clear hK K
          refine norm_ (a' := ?_) ?_ ?_
          rotate_left
          · show Act.put _ (some 34) _ = _
            simp only [Act.put, List.setIfInBounds_toArray, List.set_cons_zero, List.set_cons_succ, i64_w, i32_w]
            rfl
          refine one_ (i := 5) (N := some 36) #[true, true, true, true, true, true, false, false, false, false, false] rfl rfl (by kernel_rfl) (by decide) (fun K hK => ?_)
          refine Kd.N_lit_step k25 (w0 := w2) w2.heap.size 25 (by rfl) (N' := 36) rfl (xs := [z25]) (inner := [.string z25.f0, .string z25.f1, .int .i64 z25.f2, .int .i64 z25.f3, .slice none z25.f4.length 0]) (ok := (fun k => wd.heap.size ≤ k)) (okp := (fun k => wd.heap.size ≤ k)) ?hr ((Reps.none _ _).snoc (FKp_node (base := 0) (Kd.N_nil _ _ _ _ _)) rfl) (fun _ hk => hk) ?hf (Below.refl _ _) (Nat.le_refl _) (by show 1 ≤ 9223372036854775807; decide) ?_
          case hr => first | (go_simp; done) | (go_simp; rfl)
          case hf => exact SZ.out
          intro v7 w7 hN7 hb7 hg7 hat7
          obtain ⟨A7, c7, rfl⟩ := Kd.N_slice hN7
          have E7 := Aside0.mk (E2.out.below hb7)
          have HN7 := Aside0.mk hN7
          have SZ7 := Aside0.mk hb7.size
          have HBB7 := Aside0.mk hb7
          clear hN7 hb7 hg7 hat7
          try clear hHeld
          refine hK.out _ _ ((blk_cell E7.out.b.nb 4).trans rfl) (fun hHeld => ?_)
          clear hK K
          refine norm_ (a' := ?_) ?_ ?_
          rotate_left
          · show Act.put _ (some 36) _ = _
            simp only [Act.put, List.setIfInBounds_toArray, List.set_cons_zero, List.set_cons_succ, i64_w, i32_w]
            rfl
          refine one_ (i := 6) (N := some 37) #[true, true, true, true, true, true, true, false, false, false, false] rfl rfl (by kernel_rfl) (by decide) (fun K hK => ?_)
          refine Kd.N_append_rows_step k25 (w0 := w7) w.heap.size (by rfl) (.tmp 32) (.tmp 36) 23 25 (.agg #[.string (⟨#[]⟩ : ByteArray), .string (⟨#[]⟩ : ByteArray), .int .i64 0, .int .i64 0, .slice none 0 0]) 72 rfl Tryd.underlying23 info25 rfl (by decide) (by decide) (.slice AL acc.length cL) acc [z25] A7 1 c7 (fun k => g ≤ k ∧ k ≠ g) (fun k => wd.heap.size ≤ k) rfl rfl E7.out.row (Kd.N_F HN7.out) ?hokp ?hfresh (Below.refl _ _) ?hbase (by first | omega | (simp; done) | (simp; omega)) ?_
          case hokp => intro k hk; have h1 := HG0.out; exact ⟨⟨by have := E7.out.ge; omega, by omega⟩, fun e => by have := HB0.out k e.symm; omega⟩
          case hfresh => intro k hk; have h1 := E7.out.lt; have := E7.out.ge; exact ⟨by omega, by omega⟩
          case hbase => exact E7.out.b.bel.size
          intro v8 w8 hN8 hb8 hg8 hat8
          have HJ := Aside0.mk (LpJ.first (v36 := .slice A7 1 c7) E7.out (Kd.N_below HV.out HBB7.out) HB0.out HG0.out hg8 hN8 hat8)
          have hx4 := (blk_cell (E7.out.b.grown hg8 (fun k hk => (E7.out.row.1 k hk).1)).nb 4).trans rfl
          clear hN8 hb8 hg8 hat8
          try clear hHeld
          refine hK.out _ _ hx4 (fun hHeld => ?_)
          clear hK K
          refine norm_ (a' := ?_) ?_ ?_
          rotate_left
          · show Act.put _ (some 37) _ = _
            simp only [Act.put, List.setIfInBounds_toArray, List.set_cons_zero, List.set_cons_succ, i64_w, i32_w]
            rfl
          exact HC.out _ w8 HJ.out
        · intro K hK
          refine Kd.N_lit_step k25 (w0 := wd) wd.heap.size 25 (by rfl) (N' := 36) rfl (xs := [z25]) (inner := [.string z25.f0, .string z25.f1, .int .i64 z25.f2, .int .i64 z25.f3, .slice none z25.f4.length 0]) (ok := (fun k => wd.heap.size ≤ k)) (okp := (fun k => wd.heap.size ≤ k)) ?hr ((Reps.none _ _).snoc (FKp_node (base := 0) (Kd.N_nil _ _ _ _ _)) rfl) (fun _ hk => hk) ?hf (Below.refl _ _) (Nat.le_refl _) (by show 1 ≤ 9223372036854775807; decide) ?_
          case hr => first | (go_simp; done) | (go_simp; rfl)
          case hf => exact SZ.out
          intro v7 w7 hN7 hb7 hg7 hat7
          obtain ⟨A7, c7, rfl⟩ := Kd.N_slice hN7
          have E7 := Aside0.mk (ED.out.below hb7)
          have HN7 := Aside0.mk hN7
          have SZ7 := Aside0.mk hb7.size
          have HBB7 := Aside0.mk hb7
          clear hN7 hb7 hg7 hat7
          try clear hHeld
          refine hK.out _ _ ((blk_cell E7.out.b.nb 4).trans rfl) (fun hHeld => ?_)
          clear hK K
          refine norm_ (a' := ?_) ?_ ?_
          rotate_left
          · show Act.put _ (some 36) _ = _
            simp only [Act.put, List.setIfInBounds_toArray, List.set_cons_zero, List.set_cons_succ, i64_w, i32_w]
            rfl
          refine one_ (i := 3) (N := some 34) #[true, true, true, true, true, true, false, false, false, false, false] rfl rfl (by kernel_rfl) (by decide) (fun K hK => ?_)
          obtain ⟨w0_4, hs_4, hp_4⟩ := E7.out.ps
          have HS_4 := Aside0.mk hs_4
          have HP_4 := Aside0.mk hp_4
          clear hs_4 hp_4
          refine goesP_ Tryd.func19 (by kernel_rfl) rfl #[.pointer (some ⟨g, 0, none⟩)] (by rfl) rfl rfl (by first | rfl | (simp [Act.eval]; done) | (go_simp; done)) (R := PRes (α := S25) w0_4 w7 g s.size (nodeR w7) (.ok (a1, T1))) (pstmt_calls kk g _ _ _ w0_4 w7 HP_4.out HX.out) ?_
          rintro e w2 ⟨⟨v, rfl, hN⟩, h2⟩
          have HV := Aside0.mk hN
          have HP2_4 := Aside0.mk h2
          clear hN h2
          refine .inr ⟨_, rfl, ?_⟩
          have E2 := Aside0.mk (E7.out.call HS_4.out HP_4.out HP2_4.out)
          have SZ2 := Aside0.mk HP2_4.out.kb.1
          have HN7' := HN7.out
          have HN7 := Aside0.mk (Kd.N_keep (g := g) HN7' HP2_4.out.kb (fun k hk => by have h1 := HG0.out; omega))
          clear HN7'
          try clear hHeld
          refine hK.out _ _ ((blk_cell E2.out.b.nb 4).trans rfl) (fun hHeld => ?_)
          clear hK K
          refine norm_ (a' := ?_) ?_ ?_
          rotate_left
          · show Act.put _ (some 34) _ = _
            simp only [Act.put, List.setIfInBounds_toArray, List.set_cons_zero, List.set_cons_succ, i64_w, i32_w]
            rfl
          refine one_ (i := 6) (N := some 37) #[true, true, true, true, true, true, true, false, false, false, false] rfl rfl (by kernel_rfl) (by decide) (fun K hK => ?_)
          refine Kd.N_append_rows_step k25 (w0 := w2) w.heap.size (by rfl) (.tmp 32) (.tmp 36) 23 25 (.agg #[.string (⟨#[]⟩ : ByteArray), .string (⟨#[]⟩ : ByteArray), .int .i64 0, .int .i64 0, .slice none 0 0]) 72 rfl Tryd.underlying23 info25 rfl (by decide) (by decide) (.slice AL acc.length cL) acc [z25] A7 1 c7 (fun k => g ≤ k ∧ k ≠ g) (fun k => wd.heap.size ≤ k) rfl rfl E2.out.row (Kd.N_F HN7.out) ?hokp ?hfresh (Below.refl _ _) ?hbase (by first | omega | (simp; done) | (simp; omega)) ?_
          case hokp => intro k hk; have h1 := HG0.out; exact ⟨⟨by have := E2.out.ge; omega, by omega⟩, fun e => by have := HB0.out k e.symm; omega⟩
          case hfresh => intro k hk; have h1 := E2.out.lt; have := E2.out.ge; exact ⟨by omega, by omega⟩
          case hbase => exact E2.out.b.bel.size
          intro v8 w8 hN8 hb8 hg8 hat8
          have HJ := Aside0.mk (LpJ.first (v36 := .slice A7 1 c7) E2.out (Kd.N_mono HV.out (fun k hk => Nat.le_trans SZ7.out hk)) HB0.out HG0.out hg8 hN8 hat8)
          have hx4 := (blk_cell (E2.out.b.grown hg8 (fun k hk => (E2.out.row.1 k hk).1)).nb 4).trans rfl
          clear hN8 hb8 hg8 hat8
          try clear hHeld
          refine hK.out _ _ hx4 (fun hHeld => ?_)
          clear hK K
          refine norm_ (a' := ?_) ?_ ?_
          rotate_left
          · show Act.put _ (some 37) _ = _
            simp only [Act.put, List.setIfInBounds_toArray, List.set_cons_zero, List.set_cons_succ, i64_w, i32_w]
            rfl
          exact HC.out _ w8 HJ.out
      case cont =>
        rintro ⟨va, vb, vc⟩ w3 hJ
        obtain ⟨v, gR, c8, base, hva, hvc, hA, hN⟩ := hJ
        simp only at hva hvc
        subst hva
        subst hvc
        have HA3 := Aside0.mk hA
        have HN3 := Aside0.mk hN
        clear hA hN hHeld ED x4 SZ
        refine norm_ (a' := ?_) ?_ ?_
        rotate_left
        · simp only [putAll, Act.put, List.setIfInBounds_toArray, List.set_cons_zero, List.set_cons_succ]
          rfl
        have hacc : (0 : Int) ≤ (acc.length : Int) := by omega
        have hacc2 : (acc.length : Int) < ((acc.length + 1 : Nat) : Int) := by omega
        have hacc3 : (acc.length : Int) < (acc.length : Int) + 1 := by omega
        refine pure_ (i := 7) (N := some 38) (v := ?_) (a' := ?_) #[true, true, true, true, true, true, true, true, false, false, false] rfl rfl (by kernel_rfl) (fun _ _ _ h => h) (Or.inl ⟨by rfl, ?_⟩) ?_ ?_
        rotate_left
        · intro w'
          go_simp
          with_reducible rfl
        rotate_left
        · simp only [Act.put, List.setIfInBounds_toArray, List.set_cons_zero, List.set_cons_succ, i64_w, i32_w]
          rfl
        refine pure_ (i := 9) (N := some 39) (v := ?_) (a' := ?_) #[true, true, true, true, true, true, true, true, false, true, false] rfl rfl (by kernel_rfl) (fun _ _ _ h => h) (Or.inl ⟨by rfl, ?_⟩) ?_ ?_
        rotate_left
        · intro w'
          go_simp
          with_reducible rfl
        rotate_left
        · simp only [Act.put, List.setIfInBounds_toArray, List.set_cons_zero, List.set_cons_succ, i64_w, i32_w]
          rfl
        obtain ⟨Av, cv, rfl⟩ := Kd.N_slice HN3.out
        clear hacc hacc2 hacc3
        refine twoE_ (i := 8) (j := 10) #[true, true, true, true, true, true, true, true, true, true, false] #[true, true, true, true, true, true, true, true, false, true, true] rfl rfl (by kernel_rfl) (by decide) (by decide) (by decide) ?_ ?_
        · skip
          obtain ⟨cz, hcz, _, hccz, _⟩ := Kd.N_elem HA3.out.row z25 (acc.length : Int) (by omega) (by omega)
          refine Kd.N_store k25 (w0 := w3) w.heap.size rfl rfl 25 (.tmp 38) (.tmp 34) rfl 25 (g := gR) (n := acc.length + 1) (cap := c8) (o' := acc.length * 5) (acc.length : Int) 0 (acc ++ [z25]) a1 (.agg ([.string a1.f0, .string a1.f1, .int .i64 a1.f2, .int .i64 a1.f3, .slice Av a1.f4.length cv] : List Value).toArray) [.string a1.f0, .string a1.f1, .int .i64 a1.f2, .int .i64 a1.f3, .slice Av a1.f4.length cv] cz (fun k => g ≤ k ∧ k ≠ g) (fun k => (g ≤ k ∧ k ≠ g) ∧ k ≠ gR) rfl ?hoff rfl rfl ?ht ?h1 HA3.out.row (by omega) (by omega) hcz hccz ?hj ?hM (fun _ hk => hk) (Below.refl _ _) ?_
          case hoff => show acc.length * 5 = (acc.length : Int).toNat * 5 + 0; simp
          case ht => exact size_node
          case h1 => intro u hu; simp only [List.mem_cons, List.not_mem_nil, or_false] at hu; rcases hu with rfl | rfl | rfl | rfl | rfl <;> rfl
          case hj => exact Nat.le_refl 5
          case hM =>
            rw [List.take_zero, List.nil_append, List.drop_eq_nil_of_le (by rw [hcz]; exact Nat.le_refl 5), List.append_nil]
            exact FKp_node HN3.out
          intro w4 hr8 hb8 hg8
          rw [Int.toNat_natCast, set_last] at hr8
          clear hcz hccz
          have E4 := Aside0.mk (HA3.out.grown (row := some gR) (by simp [Value.ownBlock]) hg8 hr8)
          clear hr8 hb8 hg8
          change wpAnyLast _ _ _ _ _ _ _ _ _ _
          have x4 := (blk_cell E4.out.b.nb 4).trans rfl
          have f4 := blk_frozen E4.out.b.nb 4
          refine last_ (i := 10) (N := none) #[true, true, true, true, true, true, true, true, true, true, true] rfl rfl (by kernel_rfl) (by decide) (fun K hK => ?_)
          refine skip_ (w1 := ?_) (by rfl) rfl ?_ ?_
          rotate_left
          · go_simp
            rfl
          refine hK.out _ _ ?_
          clear hK K
          refine done_ (by kernel_rfl) ?_
          clear x4 f4
          have E9 := Aside0.mk E4.out.setL
          generalize World.setCell w4 _ _ = w9 at *
          refine NoPanic.normal ?_
          go_wp2
          go_roundg kk
          case rel => exact ⟨kk, _, _, _, Nat.le_refl _, E9, HH⟩
          case measure => omega
        · skip
          have x4 := (blk_cell HA3.out.b.nb 4).trans rfl
          have f4 := blk_frozen HA3.out.b.nb 4
          refine wpList_plain rfl (fun K hK => ?_)
          go_simp
          refine hK _ _ ?_
          clear hK K x4 f4
          have E4 := Aside0.mk HA3.out.setL
          have HN4 := Aside0.mk (Kd.N_far (p := ⟨w.heap.size, 4, none⟩) HN3.out (fun k hk => by have := HA3.out.b.n1; have := hk.1.1; show k ≠ w.heap.size; omega) (.slice (some ⟨gR, 0, none⟩) (acc.length + 1) c8))
          change wpAnyLast _ _ _ _ _ _ _ _ _ _
          generalize World.setCell w3 _ _ = w4 at *
          refine lastW_ (i := 8) #[true, true, true, true, true, true, true, true, true, true, true] rfl (by kernel_rfl) (by decide) ?_
          obtain ⟨cz, hcz, _, hccz, _⟩ := Kd.N_elem E4.out.row z25 (acc.length : Int) (by omega) (by omega)
          refine Kd.N_store k25 (w0 := w4) w.heap.size rfl rfl 25 (.tmp 38) (.tmp 34) rfl 25 (g := gR) (n := acc.length + 1) (cap := c8) (o' := acc.length * 5) (acc.length : Int) 0 (acc ++ [z25]) a1 (.agg ([.string a1.f0, .string a1.f1, .int .i64 a1.f2, .int .i64 a1.f3, .slice Av a1.f4.length cv] : List Value).toArray) [.string a1.f0, .string a1.f1, .int .i64 a1.f2, .int .i64 a1.f3, .slice Av a1.f4.length cv] cz (fun k => g ≤ k ∧ k ≠ g) (fun k => (g ≤ k ∧ k ≠ g) ∧ k ≠ gR) rfl ?hoff rfl rfl ?ht ?h1 E4.out.row (by omega) (by omega) hcz hccz ?hj ?hM (fun _ hk => hk) (Below.refl _ _) ?_
          case hoff => show acc.length * 5 = (acc.length : Int).toNat * 5 + 0; simp
          case ht => exact size_node
          case h1 => intro u hu; simp only [List.mem_cons, List.not_mem_nil, or_false] at hu; rcases hu with rfl | rfl | rfl | rfl | rfl <;> rfl
          case hj => exact Nat.le_refl 5
          case hM =>
            rw [List.take_zero, List.nil_append, List.drop_eq_nil_of_le (by rw [hcz]; exact Nat.le_refl 5), List.append_nil]
            exact FKp_node HN4.out
          intro w9 hr8 hb8 hg8
          rw [Int.toNat_natCast, set_last] at hr8
          clear hcz hccz
          have E9 := Aside0.mk (E4.out.stored hg8 hr8)
          clear hr8 hb8 hg8
          change wpAnyLast _ _ _ _ _ _ _ _ _ _
          refine done_ (by kernel_rfl) ?_
          refine NoPanic.normal ?_
          go_wp2
          go_roundg kk
          case rel => exact ⟨kk, _, _, _, Nat.le_refl _, E9, HH⟩
          case measure => omega
end Go.Proofs.YtknbfhhmjbnemaaDoor.P
end
section
namespace Go.Proofs.YtknbfhhmjbnemaaDoor.P
open Go.RowKit Go.Proofs.YtknbfhhmjbnemaaDoorW.PrintWords Go.Proofs.YtknbfhhmjbnemaaDoorW.PrintLast Go.Proofs.YtknbfhhmjbnemaaDoorW.PrintMore
set_option linter.unusedVariables false
set_option linter.unusedSimpArgs false

/-! strings.Builder's methods at this program's numbers (its copyCheck lacks the panic's text, so the shelf's layings do not fit) -/
theorem size_builder : (Tryd.prog.info? 52).map (·.size) = some 2 := by kernel_rfl
theorem lies_builder : liesAt Tryd.prog Tryd.prog.depth 52 (2 / Tryd.prog.cellsOf 52) 0 52 1 = true := by kernel_rfl
theorem info_byte : (Tryd.prog.info? 5).map (fun i => (i.zero, i.size, i.bytes)) = some (some (.int .u8 0), 1, 1) := by kernel_rfl
set_option maxHeartbeats 1000000 in
set_option maxRecDepth 100000 in
theorem copyCheck_used (b : Nat) (w : World) (h0 : w.cell? ⟨b, 0, none⟩ = some (.pointer (some ⟨b, 0, none⟩))) :
    Calls Tryd.prog 79 #[.pointer (some ⟨b, 0, none⟩)] w fun e w' => e = .returned (.tuple #[]) ∧ w' = w := by
  obtain ⟨j, hj, _⟩ := Option.map_eq_some_iff.1 size_builder
  have hu52 := Tryd.underlying52
  have hu49 := Tryd.underlying49
  go_enter Tryd.func79, Tryd.ntmps79
  go_wp2
  rw [Lib.run_neq_ptr_same w _ hu49 hj]
  go_wp2
  go_end0
  exact ⟨rfl, rfl⟩
set_option maxHeartbeats 1000000 in
set_option maxRecDepth 100000 in
theorem copyCheck_fresh (b : Nat) (w : World) (h0 : w.cell? ⟨b, 0, none⟩ = some (.pointer none)) (hsh : w.shape? b = some (52, 2)) (hfz : w.frozen? ⟨b, 0, none⟩ = false) :
    Calls Tryd.prog 79 #[.pointer (some ⟨b, 0, none⟩)] w fun e w' => e = .returned (.tuple #[]) ∧ w' = w.setCell ⟨b, 0, none⟩ (.pointer (some ⟨b, 0, none⟩)) := by
  obtain ⟨j, hj, hjs⟩ := Option.map_eq_some_iff.1 size_builder
  have hu52 := Tryd.underlying52
  have hu49 := Tryd.underlying49
  have hu86 := Tryd.underlying86
  go_enter Tryd.func79, Tryd.ntmps79
  go_wp2
  rw [Lib.run_to_unsafe w ⟨b, 0, none⟩ hu49 hu86 hj (by rw [hjs]; decide) hsh (Nat.zero_lt_succ 1)]
  simp only [Result.andThen]
  rw [Oper.upon_value]
  go_wp2
  rw [run_callFunc_extern Tryd.func88 (by kernel_rfl) (by kernel_rfl) (by kernel_rfl) (e := Extern.AbiNoEscape.same) (by kernel_rfl)]
  rw [Lib.run_noEscape]
  simp only [Result.andThen]
  rw [Oper.upon_value]
  go_wp2
  rw [Lib.run_from_unsafe w ⟨b, 0, none⟩ hu86 hu49 hj hsh lies_builder]
  simp only [Result.andThen]
  rw [Oper.upon_value]
  go_wp2
  go_end0
  exact ⟨rfl, rfl⟩
theorem copyCheck_any (B b : Nat) (bs : List Value) (w : World) (h : Lib.IsBuilderF 52 5 B b bs w) :
    Calls Tryd.prog 79 #[.pointer (some ⟨b, 0, none⟩)] w fun e w' => e = .returned (.tuple #[]) ∧ (Lib.BuilderAtF 52 5 B b (.pointer (some ⟨b, 0, none⟩)) bs w' ∧ Below B w w' ∧ Lib.OthersKept 5 (some b) w w') := by
  rcases h with h | h
  · refine (copyCheck_fresh b w h.cell0 h.shape h.frozen0).mono ?_
    rintro e w' ⟨rfl, rfl⟩
    exact ⟨rfl, h.used _, (Below.refl B w).setCell (p := ⟨b, 0, none⟩) h.1 _, (Lib.OthersKept.refl _ _ w).setCell ⟨b, 0, none⟩ rfl _⟩
  · refine (copyCheck_used b w h.cell0).mono ?_
    rintro e w' ⟨rfl, rfl⟩
    exact ⟨rfl, h, Below.refl B _, Lib.OthersKept.refl _ _ _⟩
set_option maxHeartbeats 2000000 in
set_option maxRecDepth 100000 in
theorem writeString (B b : Nat) (bs : List Value) (s : ByteArray) (w : World) (h : Lib.IsBuilderF 52 5 B b bs w) (hlen : bs.length + s.size ≤ 140737488355328) (hBw : B ≤ w.heap.size) :
    Calls Tryd.prog 48 #[.pointer (some ⟨b, 0, none⟩), .string s] w fun e w' => e = .returned (.tuple #[.int .i64 s.size, .nilIface]) ∧ (Lib.BuilderAtF 52 5 B b (.pointer (some ⟨b, 0, none⟩)) (bs ++ Lib.strCells s) w' ∧ Below B w w' ∧ Lib.OthersKept 5 (some b) w w') := by
  obtain ⟨i0, hi, hz0, hz1, hz2⟩ := info_parts info_byte
  have hu52 := Tryd.underlying52
  have hu49 := Tryd.underlying49
  have hu50 := Tryd.underlying50
  have hu9 := Tryd.underlying9
  go_enter Tryd.func48, Tryd.ntmps48
  go_wp2_with (go_at_call 79; refine (copyCheck_any B b bs _ h).mono ?_)
  rintro e w1 ⟨rfl, h1, hb1, hk1⟩
  obtain ⟨hB, v, hbk, hown, hne⟩ := h1
  have c0 : w1.cell? ⟨b, 0, none⟩ = some (.pointer (some ⟨b, 0, none⟩)) := by rw [Lib.cell_of_heap hbk]; rfl
  have c1 : w1.cell? ⟨b, 1, none⟩ = some v := by rw [Lib.cell_of_heap hbk]; rfl
  go_wp2_with (at_builtin; refine Lib.wpList_append_own_stringF _ rfl _ _ 50 9 rfl B 5 i0 hu50 hu9 hi hz0 hz1 hz2 _ _ _ rfl hown s rfl ?c3 ?c4 ?c5 ?_)
  case c3 => unfold maxLen; omega
  case c4 => omega
  case c5 => have := hb1.size; omega
  intro v' w2 hown' hgrow _
  have hlt : b < w1.heap.size := by
    rcases Nat.lt_or_ge b w1.heap.size with h' | h'
    · exact h'
    · simp [Array.getElem?_eq_none h'] at hbk
  have hb2 : w2.heap[b]? = some (.cells #[.pointer (some ⟨b, 0, none⟩), v] 52 (0, 0)) := by
    rw [hgrow.block b hlt (fun e => hne e.symm)]
    exact hbk
  have d0 : w2.cell? ⟨b, 0, none⟩ = some (.pointer (some ⟨b, 0, none⟩)) := by rw [Lib.cell_of_heap hb2]; rfl
  have d1 : w2.cell? ⟨b, 1, none⟩ = some v := by rw [Lib.cell_of_heap hb2]; rfl
  have f1 : w2.frozen? ⟨b, 1, none⟩ = false := Lib.frozen_of_heap hb2 1
  obtain ⟨ao, n', cap, rfl⟩ : ∃ ao n' cap, v' = .slice ao n' cap := by
    rcases hown'.2 with ⟨hv, _⟩ | ⟨g, cap, cur, fz, hv, _⟩
    · exact ⟨_, _, _, hv⟩
    · exact ⟨_, _, _, hv⟩
  go_wp2
  go_ret2
  refine ⟨rfl, ?_, ?_, (hk1.grown hgrow (Lib.ownsRowF_kind hown)).setCell ⟨b, 1, none⟩ rfl _⟩
  · exact Lib.BuilderAtF.put (T := 52) (e := 5) hB hb2 (bs' := bs ++ Lib.strCells s) (by simpa [Lib.strCells_length] using hown') (by decide)
  · exact (hb1.grown hgrow (by have := hb1.size; omega) (fun k hk => (hown.lt k hk).1)).setCell (p := ⟨b, 1, none⟩) hB _
/-- A builder that holds l. -/
def Bld (B b : Nat) (l : List UInt8) (w : World) : Prop := Lib.IsBuilderF 52 5 B b (Lib.byteCells l) w
/-- What was kept: all below B, and all that is neither the builder nor a row of bytes. -/
def Fr (B b : Nat) (w w' : World) : Prop := Below B w w' ∧ Lib.OthersKept 5 (some b) w w'
theorem Fr.refl (B b : Nat) (w : World) : Fr B b w w := ⟨Below.refl _ _, Lib.OthersKept.refl _ _ _⟩
theorem Fr.trans {B b : Nat} {w w1 w2 : World} (h : Fr B b w w1) (k : Fr B b w1 w2) : Fr B b w w2 := ⟨h.1.trans k.1, h.2.trans k.2⟩
theorem Fr.blk {B b g t : Nat} {cs : Array Value} {w w1 : World} (h : Fr B b w w1) (hb : w.heap[g]? = some (.cells cs t (0, 0))) (hg : g ≠ b) (ht : t ≠ 5) : w1.heap[g]? = some (.cells cs t (0, 0)) :=
  h.2 g _ hb (by simpa using hg) (by intro c fz e; injection e with _ e _; exact ht e)
theorem Fr.alloc {B b : Nat} {w w1 : World} (h : Fr B b w w1) (hB : B ≤ w1.heap.size) (o : Obj) : Fr B b w (w1.alloc o) := ⟨h.1.alloc hB o, h.2.alloc o⟩
theorem Fr.drew {B b : Nat} {w w1 : World} (h : Fr B b w w1) : Fr B b w w1.drew := ⟨h.1.drew, h.2.drew⟩
theorem Fr.drewN {B b : Nat} {w w1 : World} (h : Fr B b w w1) (n : Nat) : Fr B b w (w1.drewN n) := ⟨pw_below_drewN h.1 n, h.2⟩
theorem Bld.alloc {B b : Nat} {l : List UInt8} {w : World} (h : Bld B b l w) (o : Obj) : Bld B b l (w.alloc o) := Lib.IsBuilderF.alloc h o
theorem byteCells_append (l m : List UInt8) : Lib.byteCells (l ++ m) = Lib.byteCells l ++ Lib.byteCells m := by unfold Lib.byteCells; rw [List.map_append]
theorem Bld.le {B b : Nat} {l : List UInt8} {w : World} (h : Bld B b l w) : B ≤ b := by
  rcases h with h | h <;> exact h.1
theorem Bld.lt {B b : Nat} {l : List UInt8} {w : World} (h : Bld B b l w) : b < w.heap.size := by
  rcases h with h | h <;> exact h.lt
theorem Bld.typ {B b : Nat} {l : List UInt8} {w : World} (h : Bld B b l w) : ∃ cs, w.heap[b]? = some (.cells cs 52 (0, 0)) := by
  rcases h with ⟨_, v, h, _⟩ | ⟨_, v, h, _⟩ <;> exact ⟨_, h⟩
def WrP (B b : Nat) (l : List UInt8) (w : World) (e : Ending) (w' : World) : Prop := e = .returned (.tuple #[]) ∧ Bld B b l w' ∧ Fr B b w w'
theorem writeS_calls (B b : Nat) (l : List UInt8) (s : ByteArray) (w : World) (h : Bld B b l w) (hlen : l.length + s.size ≤ 1000000000) :
    Calls Tryd.prog 48 #[.pointer (some ⟨b, 0, none⟩), .string s] w fun e w' => e = .returned (.tuple #[.int .i64 s.size, .nilIface]) ∧ Bld B b (l ++ s.data.toList) w' ∧ Fr B b w w' := by
  refine (writeString B b _ s w h (by rw [Lib.byteCells_length]; omega) (by have := h.le; have := h.lt; omega)).mono ?_
  rintro e w' ⟨rfl, h1, h2, h3⟩
  refine ⟨rfl, ?_, h2, h3⟩
  unfold Bld
  rw [byteCells_append]
  exact .inr h1
/-- What strings hold, one behind the other. -/
def catB (ss : List ByteArray) : List UInt8 := (ss.map fun s => s.data.toList).flatten
theorem catB_take (ss : List ByteArray) (k : Nat) (h : k < ss.length) : catB (ss.take (k + 1)) = catB (ss.take k) ++ ss[k].data.toList := by
  unfold catB
  rw [List.take_succ_eq_append_getElem h, List.map_append, List.flatten_append]
  simp
theorem catB_le (ss : List ByteArray) (k : Nat) : (catB (ss.take k)).length ≤ (catB ss).length := by
  have h : catB ss = catB (ss.take k) ++ catB (ss.drop k) := by
    unfold catB
    rw [← List.flatten_append, ← List.map_append, List.take_append_drop]
  rw [h, List.length_append]
  omega
/-- Where put stands. -/
structure PuS (B b gs p : Nat) (ss : List ByteArray) (l : List UInt8) (w W : World) : Prop where
  bld : Bld B b l W
  fr : Fr B b w W
  s : W.heap[gs]? = some (.cells (ss.map Value.string).toArray 9 (0, 0))
  p : W.heap[p]? = some (.cells #[.pointer (some ⟨b, 0, none⟩)] 49 (0, 0))
set_option maxHeartbeats 4000000 in
set_option maxRecDepth 100000 in
theorem put_calls (B b gs p : Nat) (ss : List ByteArray) (l : List UInt8) (w : World) (h : PuS B b gs p ss l w w) (hlen : l.length + (catB ss).length ≤ 1000000000) (hss : ss.length ≤ 100) :
    Calls Tryd.prog 50 #[.slice (some ⟨gs, 0, none⟩) ss.length ss.length, .pointer (some ⟨p, 0, none⟩)] w (WrP B b (l ++ catB ss) w) := by
  have H := Aside0.mk h
  have HL := Aside0.mk hlen
  clear h hlen
  go_enter Tryd.func50, Tryd.ntmps50
  go_wp2
  go_loopw [7] (fun i wr => ∃ k : Nat, k ≤ ss.length ∧ i = .int .i64 k ∧ Aside0 (PuS B b gs p ss (l ++ catB (ss.take k)) w wr)) (fun i _ => ss.length - (intOf i).toNat)
  case atStart => exact ⟨0, Nat.zero_le _, rfl, ⟨by simpa [catB] using H.out⟩⟩
  case round =>
    obtain ⟨k, hk, rfl, HR⟩ := hrel
    by_cases hlt : k < ss.length
    · have hs0 : wr.cell? ⟨gs, k, none⟩ = some (.string ss[k]) := by rw [blk_cell HR.out.s k]; simp [hlt]
      have hp0 : wr.cell? ⟨p, 0, none⟩ = some (.pointer (some ⟨b, 0, none⟩)) := (blk_cell HR.out.p 0).trans rfl
      have HT := Aside0.mk (catB_take ss k hlt)
      have HLE := Aside0.mk (catB_le ss (k + 1))
      go_wp2_with (go_at_call 48; (with_reducible refine (writeS_calls B b _ _ wr HR.out.bld (by have h1 := HLE.out; rw [HT.out] at h1; have h2 := HL.out; simp only [List.length_append] at h1 ⊢; have h3 : (ss[k]).size = (ss[k]).data.toList.length := rfl; omega)).mono ?_); rintro e w1 ⟨rfl, h1, h2⟩; have H1 := Aside0.mk h1; have H2 := Aside0.mk h2; clear h1 h2)
      go_roundw
      case rel =>
        have hty := HR.out.bld.typ
        refine ⟨k + 1, by omega, by go_num, ⟨⟨?_, HR.out.fr.trans H2.out, H2.out.blk HR.out.s ?_ (by decide), H2.out.blk HR.out.p ?_ (by decide)⟩⟩⟩
        · rw [HT.out, ← List.append_assoc]; exact H1.out
        · obtain ⟨cs, hc⟩ := hty; exact blk_ne HR.out.s hc (by decide)
        · obtain ⟨cs, hc⟩ := hty; exact blk_ne HR.out.p hc (by decide)
      case measure => simp [intOf]; omega
    · have : k = ss.length := by omega
      subst this
      go_wp2
      refine bodyPost_end (results_none rfl _ _ _) rfl ⟨rfl, ?_, HR.out.fr⟩
      have := HR.out.bld
      rwa [List.take_length] at this
end Go.Proofs.YtknbfhhmjbnemaaDoor.P
end
section
namespace Go.Proofs.YtknbfhhmjbnemaaDoor.P
open Go.RowKit Go.Proofs.YtknbfhhmjbnemaaDoorW.PrintWords Go.Proofs.YtknbfhhmjbnemaaDoorW.PrintLast Go.Proofs.YtknbfhhmjbnemaaDoorW.PrintMore
set_option linter.unusedVariables false
set_option linter.unusedSimpArgs false

/-! a tree's text -/
def catW (f : S25 → Option (List UInt8)) : List S25 → Option (List UInt8)
  | [] => some []
  | x :: r => (f x).bind fun t => (catW f r).bind fun u => some (t ++ u)
def sepW (f : S25 → Option (List UInt8)) : Bool → List S25 → Option (List UInt8)
  | _, [] => some []
  | first, x :: r => (f x).bind fun t => (sepW f false r).bind fun u => some ((if first = true then [] else [44, 32]) ++ t ++ u)
def headW (f : S25 → Option (List UInt8)) : List S25 → Option (List UInt8)
  | [] => none
  | x :: _ => f x
def writeT : Nat → S25 → Option (List UInt8)
  | 0, _ => none
  | k + 1, n =>
    if n.f4.length ≤ 1000000 ∧ -9223372036854775808 ≤ n.f2 ∧ n.f2 ≤ 9223372036854775807 then
      if n.f0.toList = ([117, 115, 101] : List UInt8) ∨ n.f0.toList = ([110, 97, 109, 101] : List UInt8) then some n.f1.data.toList
      else if n.f0.toList = ([110, 117, 109] : List UInt8) then some (Lib.itoa n.f2)
      else if n.f0.toList = ([104, 101, 120] : List UInt8) then some (36 :: n.f1.data.toList)
      else if n.f0.toList = ([102, 105, 108, 101] : List UInt8) then catW (writeT k) n.f4
      else if n.f0.toList = ([100, 101, 118, 105, 99, 101] : List UInt8) ∨ n.f0.toList = ([106, 111, 117, 114, 110, 97, 108] : List UInt8) then some (n.f0.data.toList ++ [32] ++ n.f1.data.toList ++ [32] ++ Lib.itoa n.f2 ++ [59, 10])
      else if n.f0.toList = ([107, 101, 121] : List UInt8) ∨ n.f0.toList = ([114, 111, 111, 116] : List UInt8) then (headW (writeT k) n.f4).bind fun t => some (n.f0.data.toList ++ [32] ++ n.f1.data.toList ++ [32] ++ t ++ [59, 10])
      else if n.f0.toList = ([118, 111, 108, 117, 109, 101] : List UInt8) then (headW (writeT k) n.f4).bind fun t => some ([118, 111, 108, 117, 109, 101, 32] ++ n.f1.data.toList ++ [32, 61, 32] ++ t ++ [59, 10])
      else if n.f0.toList = ([101, 120, 112, 111, 114, 116] : List UInt8) then some ([101, 120, 112, 111, 114, 116, 32] ++ n.f1.data.toList ++ (if n.f2 = 1 then [32, 114, 101, 97, 100, 111, 110, 108, 121] else []) ++ [59, 10])
      else (sepW (writeT k) true n.f4).bind fun t => some (n.f0.data.toList ++ [40] ++ t ++ [41])
    else none
/-- Where write stands: p the box of the builder's pointer, q the node's. -/
structure WrS (B b p q : Nat) (n : S25) (A : Option Addr) (c : Nat) (l : List UInt8) (w W : World) : Prop where
  bld : Bld B b l W
  fr : Fr B b w W
  pb : W.heap[p]? = some (.cells #[.pointer (some ⟨b, 0, none⟩)] 49 (0, 0))
  qb : W.heap[q]? = some (.cells #[.string n.f0, .string n.f1, .int .i64 n.f2, .int .i64 n.f3, .slice A n.f4.length c] 25 (0, 0))
theorem fr_of_below {B b : Nat} {w w1 : World} (h : Below w.heap.size w w1) (hB : B ≤ w.heap.size) : Fr B b w w1 :=
  ⟨h.mono hB, fun k o hk _ _ => (h.block k (blk_lt hk)).trans hk⟩
theorem Bld.below {B b : Nat} {l : List UInt8} {w w1 : World} (h : Bld B b l w) (hb : Below w.heap.size w w1) : Bld B b l w1 := by
  have key : ∀ p, Lib.BuilderAtF 52 5 B b p (Lib.byteCells l) w → Lib.BuilderAtF 52 5 B b p (Lib.byteCells l) w1 := by
    rintro p ⟨hB, v, hbk, hown, hne⟩
    refine ⟨hB, v, blk_below hbk hb, ?_, hne⟩
    exact hown.kept (row := none) ⟨hb.os, hb.tape, hb.output, hb.size, fun k hk _ => hb.block k hk⟩ (by by_cases h : v.ownBlock = none; exact .inl h; exact .inr h)
  exact h.elim (fun x => .inl (key _ x)) (fun x => .inr (key _ x))
section
variable {B b p q : Nat} {n : S25} {A : Option Addr} {c : Nat} {l l' : List UInt8} {w W W1 : World}
theorem WrS.ge (h : WrS B b p q n A c l w W) : B ≤ W.heap.size := by have := h.bld.le; have := h.bld.lt; omega
theorem WrS.call (h : WrS B b p q n A c l w W) (h1 : Bld B b l' W1) (h2 : Fr B b W W1) : WrS B b p q n A c l' w W1 := by
  obtain ⟨cs, hc⟩ := h.bld.typ
  exact ⟨h1, h.fr.trans h2, h2.blk h.pb (blk_ne h.pb hc (by decide)) (by decide), h2.blk h.qb (blk_ne h.qb hc (by decide)) (by decide)⟩
theorem WrS.below (h : WrS B b p q n A c l w W) (hb : Below W.heap.size W W1) : WrS B b p q n A c l w W1 := h.call (h.bld.below hb) (fr_of_below hb h.ge)
theorem WrS.alloc (h : WrS B b p q n A c l w W) (o : Obj) : WrS B b p q n A c l w (W.alloc o) := h.below (below_alloc (Below.refl _ _) o)
theorem WrS.drew (h : WrS B b p q n A c l w W) : WrS B b p q n A c l w W.drew := h.below (below_drew (Below.refl _ _))
theorem WrS.end_ (h : WrS B b p q n A c l w W) : WrP B b l w (.returned (.tuple #[])) W := ⟨rfl, h.bld, h.fr⟩
/-- A text written. -/
theorem WrS.str (h : WrS B b p q n A c l w W) (s : ByteArray) (hl : l.length + s.data.toList.length ≤ 1000000000) :
    Calls Tryd.prog 48 #[.pointer (some ⟨b, 0, none⟩), .string s] W fun e w' => e = .returned (.tuple #[.int .i64 s.size, .nilIface]) ∧ WrS B b p q n A c (l ++ s.data.toList) w w' :=
  (writeS_calls B b l s W h.bld (by have e : s.size = s.data.toList.length := rfl; omega)).mono fun e w' ⟨he, h1, h2⟩ => ⟨he, h.call h1 h2⟩
/-- put, of a row made for it. -/
theorem WrS.put (h : WrS B b p q n A c l w W) (ss : List ByteArray) (cells : Array Value) (m : Nat) (hm : ss.length = m) (hcs : (ss.map Value.string).toArray = cells) (hl : l.length + (catB ss).length ≤ 1000000000) (hss : m ≤ 100) :
    Calls Tryd.prog 50 #[.slice (some ⟨W.heap.size, 0, none⟩) m m, .pointer (some ⟨p, 0, none⟩)] (W.alloc (.cells cells 9 (0, 0))) fun e w' => e = .returned (.tuple #[]) ∧ WrS B b p q n A c (l ++ catB ss) w w' := by
  subst hm
  subst hcs
  have h1 := h.alloc (.cells (ss.map Value.string).toArray 9 (0, 0))
  refine (put_calls B b W.heap.size p ss l _ ⟨h1.bld, Fr.refl _ _ _, blk_new _ _, h1.pb⟩ hl hss).mono ?_
  rintro e w' ⟨rfl, h2, h3⟩
  exact ⟨rfl, h1.call h2 h3⟩
theorem WrS.put2 (h : WrS B b p q n A c l w W) (ss : List ByteArray) (cells : Array Value) (m : Nat) (hm : ss.length = m) (hcs : (ss.map Value.string).toArray = cells) (hl : l.length + (catB ss).length ≤ 1000000000) (hss : m ≤ 100) :
    Calls Tryd.prog 50 #[.slice (some ⟨W.heap.size, 0, none⟩) m m, .pointer (some ⟨p, 0, none⟩)] (W.alloc (.cells cells 9 (0, 0))) fun e w' => e = .returned (.tuple #[]) ∧ WrS B b p q n A c (l ++ catB ss) w w' ∧ Fr B b W w' := by
  subst hm
  subst hcs
  have h1 := h.alloc (.cells (ss.map Value.string).toArray 9 (0, 0))
  refine (put_calls B b W.heap.size p ss l _ ⟨h1.bld, Fr.refl _ _ _, blk_new _ _, h1.pb⟩ hl hss).mono ?_
  rintro e w' ⟨rfl, h2, h3⟩
  exact ⟨rfl, h1.call h2 h3, ((Fr.refl _ _ _).alloc h.ge _).trans h3⟩
end
theorem itoa_fr (B b p q : Nat) (n : S25) (A : Option Addr) (c : Nat) (l : List UInt8) (w W w0 : World) (h : WrS B b p q n A c l w W) (i : Int) (h0 : -9223372036854775808 ≤ i) (h1 : i ≤ 9223372036854775807) (ht : Lib.TabIs Tryd.prog W "internal/strconv.uint64pow10" .u64 Lib.pow10Tab) :
    Calls Tryd.prog 49 #[.int .i64 i] W fun e w' => e = .returned (.string ⟨(Lib.itoa i).toArray⟩) ∧ WrS B b p q n A c l w w' := by
  refine (Tryd.strconv_Itoa i h0 h1 W ht).mono ?_
  rintro e w' ⟨rfl, k, os, rfl⟩
  exact ⟨rfl, h.below (Lib.below_grow W.heap.size W (Nat.le_refl _) k os)⟩
/-- The premises of write. -/
structure WrI (w0 w : World) (b : Nat) (n : S25) (A : Option Addr) (c : Nat) (l : List UInt8) : Prop where
  bel : Below w0.heap.size w0 w
  bld : Bld w0.heap.size b l w
  hc : n.f4.length ≤ c
  hC : Kd.C k25 w0 A n.f4.length n.f4
  tab : ∀ w', Below w0.heap.size w0 w' → Lib.TabIs Tryd.prog w' "internal/strconv.uint64pow10" .u64 Lib.pow10Tab
def nodeVal (n : S25) (A : Option Addr) (c : Nat) : Value := .agg #[.string n.f0, .string n.f1, .int .i64 n.f2, .int .i64 n.f3, .slice A n.f4.length c]
def WrOk (k : Nat) : Prop := ∀ (w0 w : World) (b : Nat) (n : S25) (A : Option Addr) (c : Nat) (l t : List UInt8), WrI w0 w b n A c l → writeT k n = some t → l.length + t.length ≤ 1000000000 → Calls Tryd.prog 22 #[.pointer (some ⟨b, 0, none⟩), nodeVal n A c] w (WrP w0.heap.size b (l ++ t) w)
/-- Both parameters boxed. -/
theorem WrI.start {w0 w : World} {b : Nat} {n : S25} {A : Option Addr} {c : Nat} {l : List UInt8} (h : WrI w0 w b n A c l) :
    WrS w0.heap.size b w.heap.size (w.heap.size + 1) n A c l w ((w.alloc (.cells #[.pointer (some ⟨b, 0, none⟩)] 49 (0, 0))).alloc (.cells #[.string n.f0, .string n.f1, .int .i64 n.f2, .int .i64 n.f3, .slice A n.f4.length c] 25 (0, 0))) := by
  have hb : Below w.heap.size w ((w.alloc (.cells #[.pointer (some ⟨b, 0, none⟩)] 49 (0, 0))).alloc (.cells #[.string n.f0, .string n.f1, .int .i64 n.f2, .int .i64 n.f3, .slice A n.f4.length c] 25 (0, 0))) := below_alloc (below_alloc (Below.refl _ _) _) _
  refine ⟨h.bld.below hb, fr_of_below hb h.bel.size, blk_alloc (blk_new _ _) _, ?_⟩
  have := blk_new (w.alloc (.cells #[.pointer (some ⟨b, 0, none⟩)] 49 (0, 0))) (.cells #[.string n.f0, .string n.f1, .int .i64 n.f2, .int .i64 n.f3, .slice A n.f4.length c] 25 (0, 0))
  rwa [World.size_alloc] at this
theorem drop_rd (l : List S25) (k : Nat) (h : k < l.length) : l.drop k = rd_T25 l (k : Int) :: l.drop (k + 1) := by
  rw [List.drop_eq_getElem_cons h]
  unfold rd_T25
  simp [List.getD_eq_getElem?_getD, h]
section
variable {P : Program} {ops : Array Oper} {Q : Exit → Act → World → Prop}
/-- A call of a function value, as one step of a region that draws. -/
theorem goesV_ {oi : Oper} {N : Option Tmp} {a : Act} {w : World} {K : Act → World → Prop} {f : FuncId} {fn : Func} {x : Operand} {as_ : Array Operand} {ts : Array TypeId} {first caps : Array Value} (hf : P.funcs[f]? = some fn) (hname : (fn.name == "runtime.NumGoroutine") = false) (hb : fn.body.isSome = true) (args : Array Value)
    (hw : Region.wanted oi (yielded ops a.tmps) = true) (hN : oi.dst = N) (hop : oi.op = .call { callee := .value x, args := as_, argTypes := ts }) (hx : a.eval x = .func (.func f) first caps) (hargs : first ++ as_.map a.eval ++ caps = args)
    (h : Calls P f args w fun e w' => ∃ v, e = .returned v ∧ K (a.put N v) w') : if Region.wanted oi (yielded ops a.tmps) = true then Oper.wp P oi a w K Q else K (a.put N undef) w := by
  refine call_ f args hw hN ?_ h
  have he := enters_ hf hname hb args w
  subst hargs
  unfold execOp
  simp [hop, resolve, Deferred.ofValue, invoke, hx]
  rw [← Array.append_assoc]
  exact he
end
theorem cat_inv {f : S25 → Option (List UInt8)} {L : List S25} {j : Nat} {u : List UInt8} (h : catW f (L.drop j) = some u) (hj : j < L.length) : ∃ tx u', f (rd_T25 L (j : Int)) = some tx ∧ catW f (L.drop (j + 1)) = some u' ∧ u = tx ++ u' := by
  rw [drop_rd L j hj, catW] at h
  obtain ⟨tx, h1, h2⟩ := Option.bind_eq_some_iff.1 h
  obtain ⟨u', h3, h4⟩ := Option.bind_eq_some_iff.1 h2
  exact ⟨tx, u', h1, h3, (Option.some.inj h4).symm⟩
theorem sep_inv {f : S25 → Option (List UInt8)} {L : List S25} {fi : Bool} {j : Nat} {u : List UInt8} (h : sepW f fi (L.drop j) = some u) (hj : j < L.length) : ∃ tx u', f (rd_T25 L (j : Int)) = some tx ∧ sepW f false (L.drop (j + 1)) = some u' ∧ u = (if fi = true then [] else [44, 32]) ++ tx ++ u' := by
  rw [drop_rd L j hj, sepW] at h
  obtain ⟨tx, h1, h2⟩ := Option.bind_eq_some_iff.1 h
  obtain ⟨u', h3, h4⟩ := Option.bind_eq_some_iff.1 h2
  exact ⟨tx, u', h1, h3, (Option.some.inj h4).symm⟩
/-- Where the loop over a file's statements stands. -/
def CatS (f : S25 → Option (List UInt8)) (B b p q : Nat) (n : S25) (A : Option Addr) (c : Nat) (l t : List UInt8) (w W : World) (j : Nat) : Prop :=
  ∃ dn u, WrS B b p q n A c (l ++ dn) w W ∧ catW f (n.f4.drop j) = some u ∧ dn ++ u = t
/-- Where the loop over a target's parts stands. -/
def SepS (f : S25 → Option (List UInt8)) (B b p q : Nat) (n : S25) (A : Option Addr) (c : Nat) (l t : List UInt8) (w W : World) (j : Nat) : Prop :=
  ∃ dn u, WrS B b p q n A c (l ++ dn) w W ∧ sepW f (decide (j = 0)) (n.f4.drop j) = some u ∧ dn ++ u = t
end Go.Proofs.YtknbfhhmjbnemaaDoor.P
end
section
namespace Go.Proofs.YtknbfhhmjbnemaaDoor.P
open Go.RowKit Go.Proofs.YtknbfhhmjbnemaaDoorW.PrintWords Go.Proofs.YtknbfhhmjbnemaaDoorW.PrintLast Go.Proofs.YtknbfhhmjbnemaaDoorW.PrintMore
set_option linter.unusedVariables false
set_option linter.unusedSimpArgs false
set_option maxHeartbeats 16000000 in
set_option maxRecDepth 100000 in
theorem wr_use (k : Nat) (ih : WrOk k) (w0 w : World) (b : Nat) (n : S25) (A : Option Addr) (c : Nat) (l t : List UInt8) (hI : WrI w0 w b n A c l) (hn2 : -9223372036854775808 ≤ n.f2 ∧ n.f2 ≤ 9223372036854775807) (hl4 : n.f4.length ≤ 1000000) (ho : n.f0.toList = ([117, 115, 101] : List UInt8)) (h : t = n.f1.data.toList) (hlen : l.length + t.length ≤ 1000000000) :
    Calls Tryd.prog 22 #[.pointer (some ⟨b, 0, none⟩), nodeVal n A c] w (WrP w0.heap.size b (l ++ t) w) := by
  have e0 : (n.f0.toList == ([117, 115, 101] : List UInt8)) = true := by rw [ho]; rfl
  have e1 : (n.f0.toList == ([110, 97, 109, 101] : List UInt8)) = false := by rw [ho]; rfl
  have e2 : (n.f0.toList == ([110, 117, 109] : List UInt8)) = false := by rw [ho]; rfl
  have e3 : (n.f0.toList == ([104, 101, 120] : List UInt8)) = false := by rw [ho]; rfl
  have e4 : (n.f0.toList == ([102, 105, 108, 101] : List UInt8)) = false := by rw [ho]; rfl
  have e5 : (n.f0.toList == ([100, 101, 118, 105, 99, 101] : List UInt8)) = false := by rw [ho]; rfl
  have e6 : (n.f0.toList == ([106, 111, 117, 114, 110, 97, 108] : List UInt8)) = false := by rw [ho]; rfl
  have e7 : (n.f0.toList == ([107, 101, 121] : List UInt8)) = false := by rw [ho]; rfl
  have e8 : (n.f0.toList == ([114, 111, 111, 116] : List UInt8)) = false := by rw [ho]; rfl
  have e9 : (n.f0.toList == ([118, 111, 108, 117, 109, 101] : List UInt8)) = false := by rw [ho]; rfl
  have e10 : (n.f0.toList == ([101, 120, 112, 111, 114, 116] : List UInt8)) = false := by rw [ho]; rfl
  clear ho
  have HI := Aside0.mk hI
  have HS0 := Aside0.mk hI.start
  have HN2 := Aside0.mk hn2
  have HLN := Aside0.mk hlen
  have HIH := Aside0.mk ih
  have HT := Aside0.mk h
  have HL4 := Aside0.mk hl4
  clear hI hn2 hlen ih h hl4
  have hmf : ∀ (fn : Fn) (first cap : Array Value) (w : World), (Instr.makeFunc fn first cap).run Tryd.prog w = .ok (.func fn first cap) w := fun _ _ _ _ => rfl
  have hu25 := Tryd.underlying25
  have hu9 := Tryd.underlying9
  have hu69 := Tryd.underlying69
  have eg : Enters Tryd.prog 50 := enters_of Tryd.func50 (by kernel_rfl) rfl
  unfold Enters at eg
  unfold nodeVal
  go_enter Tryd.func22, Tryd.ntmps22
  go_upto_region 1 with (fail)
  generalize World.alloc (World.alloc w _) _ = W0 at *
  generalize hq_ : w.heap.size + 1 = q at *
  generalize w.heap.size = p at *
  clear hq_
  have HS := HS0
  clear HS0
  have p0 := (blk_cell HS.out.pb 0).trans rfl
  have q0 := (blk_cell HS.out.qb 0).trans rfl
  have q1 := (blk_cell HS.out.qb 1).trans rfl
  have q2 := (blk_cell HS.out.qb 2).trans rfl
  have q3 := (blk_cell HS.out.qb 3).trans rfl
  have q4 := (blk_cell HS.out.qb 4).trans rfl
  go_wp2_with (go_at_call 48; (with_reducible refine (HS.out.str n.f1 (by have h1 := HLN.out; rw [HT.out] at h1; exact h1)).mono ?_); rintro e w1 ⟨rfl, h1⟩; have H1 := Aside0.mk h1; clear h1)
  refine bodyPost_end (results_none rfl _ _ _) rfl ?_
  rw [HT.out]
  exact H1.out.end_
set_option maxHeartbeats 16000000 in
set_option maxRecDepth 100000 in
theorem wr_name (k : Nat) (ih : WrOk k) (w0 w : World) (b : Nat) (n : S25) (A : Option Addr) (c : Nat) (l t : List UInt8) (hI : WrI w0 w b n A c l) (hn2 : -9223372036854775808 ≤ n.f2 ∧ n.f2 ≤ 9223372036854775807) (hl4 : n.f4.length ≤ 1000000) (ho : n.f0.toList = ([110, 97, 109, 101] : List UInt8)) (h : t = n.f1.data.toList) (hlen : l.length + t.length ≤ 1000000000) :
    Calls Tryd.prog 22 #[.pointer (some ⟨b, 0, none⟩), nodeVal n A c] w (WrP w0.heap.size b (l ++ t) w) := by
  have e0 : (n.f0.toList == ([117, 115, 101] : List UInt8)) = false := by rw [ho]; rfl
  have e1 : (n.f0.toList == ([110, 97, 109, 101] : List UInt8)) = true := by rw [ho]; rfl
  have e2 : (n.f0.toList == ([110, 117, 109] : List UInt8)) = false := by rw [ho]; rfl
  have e3 : (n.f0.toList == ([104, 101, 120] : List UInt8)) = false := by rw [ho]; rfl
  have e4 : (n.f0.toList == ([102, 105, 108, 101] : List UInt8)) = false := by rw [ho]; rfl
  have e5 : (n.f0.toList == ([100, 101, 118, 105, 99, 101] : List UInt8)) = false := by rw [ho]; rfl
  have e6 : (n.f0.toList == ([106, 111, 117, 114, 110, 97, 108] : List UInt8)) = false := by rw [ho]; rfl
  have e7 : (n.f0.toList == ([107, 101, 121] : List UInt8)) = false := by rw [ho]; rfl
  have e8 : (n.f0.toList == ([114, 111, 111, 116] : List UInt8)) = false := by rw [ho]; rfl
  have e9 : (n.f0.toList == ([118, 111, 108, 117, 109, 101] : List UInt8)) = false := by rw [ho]; rfl
  have e10 : (n.f0.toList == ([101, 120, 112, 111, 114, 116] : List UInt8)) = false := by rw [ho]; rfl
  clear ho
  have HI := Aside0.mk hI
  have HS0 := Aside0.mk hI.start
  have HN2 := Aside0.mk hn2
  have HLN := Aside0.mk hlen
  have HIH := Aside0.mk ih
  have HT := Aside0.mk h
  have HL4 := Aside0.mk hl4
  clear hI hn2 hlen ih h hl4
  have hmf : ∀ (fn : Fn) (first cap : Array Value) (w : World), (Instr.makeFunc fn first cap).run Tryd.prog w = .ok (.func fn first cap) w := fun _ _ _ _ => rfl
  have hu25 := Tryd.underlying25
  have hu9 := Tryd.underlying9
  have hu69 := Tryd.underlying69
  have eg : Enters Tryd.prog 50 := enters_of Tryd.func50 (by kernel_rfl) rfl
  unfold Enters at eg
  unfold nodeVal
  go_enter Tryd.func22, Tryd.ntmps22
  go_upto_region 1 with (fail)
  generalize World.alloc (World.alloc w _) _ = W0 at *
  generalize hq_ : w.heap.size + 1 = q at *
  generalize w.heap.size = p at *
  clear hq_
  have HS := HS0
  clear HS0
  have p0 := (blk_cell HS.out.pb 0).trans rfl
  have q0 := (blk_cell HS.out.qb 0).trans rfl
  have q1 := (blk_cell HS.out.qb 1).trans rfl
  have q2 := (blk_cell HS.out.qb 2).trans rfl
  have q3 := (blk_cell HS.out.qb 3).trans rfl
  have q4 := (blk_cell HS.out.qb 4).trans rfl
  go_wp2_with (go_at_call 48; (with_reducible refine (HS.out.str n.f1 (by have h1 := HLN.out; rw [HT.out] at h1; exact h1)).mono ?_); rintro e w1 ⟨rfl, h1⟩; have H1 := Aside0.mk h1; clear h1)
  refine bodyPost_end (results_none rfl _ _ _) rfl ?_
  rw [HT.out]
  exact H1.out.end_
set_option maxHeartbeats 16000000 in
set_option maxRecDepth 100000 in
theorem wr_hex (k : Nat) (ih : WrOk k) (w0 w : World) (b : Nat) (n : S25) (A : Option Addr) (c : Nat) (l t : List UInt8) (hI : WrI w0 w b n A c l) (hn2 : -9223372036854775808 ≤ n.f2 ∧ n.f2 ≤ 9223372036854775807) (hl4 : n.f4.length ≤ 1000000) (ho : n.f0.toList = ([104, 101, 120] : List UInt8)) (h : t = 36 :: n.f1.data.toList) (hlen : l.length + t.length ≤ 1000000000) :
    Calls Tryd.prog 22 #[.pointer (some ⟨b, 0, none⟩), nodeVal n A c] w (WrP w0.heap.size b (l ++ t) w) := by
  have e0 : (n.f0.toList == ([117, 115, 101] : List UInt8)) = false := by rw [ho]; rfl
  have e1 : (n.f0.toList == ([110, 97, 109, 101] : List UInt8)) = false := by rw [ho]; rfl
  have e2 : (n.f0.toList == ([110, 117, 109] : List UInt8)) = false := by rw [ho]; rfl
  have e3 : (n.f0.toList == ([104, 101, 120] : List UInt8)) = true := by rw [ho]; rfl
  have e4 : (n.f0.toList == ([102, 105, 108, 101] : List UInt8)) = false := by rw [ho]; rfl
  have e5 : (n.f0.toList == ([100, 101, 118, 105, 99, 101] : List UInt8)) = false := by rw [ho]; rfl
  have e6 : (n.f0.toList == ([106, 111, 117, 114, 110, 97, 108] : List UInt8)) = false := by rw [ho]; rfl
  have e7 : (n.f0.toList == ([107, 101, 121] : List UInt8)) = false := by rw [ho]; rfl
  have e8 : (n.f0.toList == ([114, 111, 111, 116] : List UInt8)) = false := by rw [ho]; rfl
  have e9 : (n.f0.toList == ([118, 111, 108, 117, 109, 101] : List UInt8)) = false := by rw [ho]; rfl
  have e10 : (n.f0.toList == ([101, 120, 112, 111, 114, 116] : List UInt8)) = false := by rw [ho]; rfl
  clear ho
  have HI := Aside0.mk hI
  have HS0 := Aside0.mk hI.start
  have HN2 := Aside0.mk hn2
  have HLN := Aside0.mk hlen
  have HIH := Aside0.mk ih
  have HT := Aside0.mk h
  have HL4 := Aside0.mk hl4
  clear hI hn2 hlen ih h hl4
  have hmf : ∀ (fn : Fn) (first cap : Array Value) (w : World), (Instr.makeFunc fn first cap).run Tryd.prog w = .ok (.func fn first cap) w := fun _ _ _ _ => rfl
  have hu25 := Tryd.underlying25
  have hu9 := Tryd.underlying9
  have hu69 := Tryd.underlying69
  have eg : Enters Tryd.prog 50 := enters_of Tryd.func50 (by kernel_rfl) rfl
  unfold Enters at eg
  unfold nodeVal
  go_enter Tryd.func22, Tryd.ntmps22
  go_upto_region 1 with (fail)
  generalize World.alloc (World.alloc w _) _ = W0 at *
  generalize hq_ : w.heap.size + 1 = q at *
  generalize w.heap.size = p at *
  clear hq_
  have HS := HS0
  clear HS0
  have p0 := (blk_cell HS.out.pb 0).trans rfl
  have q0 := (blk_cell HS.out.qb 0).trans rfl
  have q1 := (blk_cell HS.out.qb 1).trans rfl
  have q2 := (blk_cell HS.out.qb 2).trans rfl
  have q3 := (blk_cell HS.out.qb 3).trans rfl
  have q4 := (blk_cell HS.out.qb 4).trans rfl
  have hsz : n.f1.size + 1 ≤ 1000000000 := by have h1 := HLN.out; rw [HT.out] at h1; have h2 : n.f1.size = n.f1.data.toList.length := rfl; simp at h1; omega
  go_wp2_with (go_at_call 48; (with_reducible refine (HS.out.str ((⟨#[36]⟩ : ByteArray) ++ n.f1) (by have h1 := HLN.out; rw [HT.out] at h1; simpa [Nat.add_comm] using h1)).mono ?_); rintro e w1 ⟨rfl, h1⟩; have H1 := Aside0.mk h1; clear h1)
  refine bodyPost_end (results_none rfl _ _ _) rfl ?_
  have h1 := H1.out
  rw [HT.out]
  have h2 : ((⟨#[36]⟩ : ByteArray) ++ n.f1).data.toList = 36 :: n.f1.data.toList := by simp
  rw [h2] at h1
  exact h1.end_
set_option maxHeartbeats 16000000 in
set_option maxRecDepth 100000 in
theorem wr_num (k : Nat) (ih : WrOk k) (w0 w : World) (b : Nat) (n : S25) (A : Option Addr) (c : Nat) (l t : List UInt8) (hI : WrI w0 w b n A c l) (hn2 : -9223372036854775808 ≤ n.f2 ∧ n.f2 ≤ 9223372036854775807) (hl4 : n.f4.length ≤ 1000000) (ho : n.f0.toList = ([110, 117, 109] : List UInt8)) (h : t = Lib.itoa n.f2) (hlen : l.length + t.length ≤ 1000000000) :
    Calls Tryd.prog 22 #[.pointer (some ⟨b, 0, none⟩), nodeVal n A c] w (WrP w0.heap.size b (l ++ t) w) := by
  have e0 : (n.f0.toList == ([117, 115, 101] : List UInt8)) = false := by rw [ho]; rfl
  have e1 : (n.f0.toList == ([110, 97, 109, 101] : List UInt8)) = false := by rw [ho]; rfl
  have e2 : (n.f0.toList == ([110, 117, 109] : List UInt8)) = true := by rw [ho]; rfl
  have e3 : (n.f0.toList == ([104, 101, 120] : List UInt8)) = false := by rw [ho]; rfl
  have e4 : (n.f0.toList == ([102, 105, 108, 101] : List UInt8)) = false := by rw [ho]; rfl
  have e5 : (n.f0.toList == ([100, 101, 118, 105, 99, 101] : List UInt8)) = false := by rw [ho]; rfl
  have e6 : (n.f0.toList == ([106, 111, 117, 114, 110, 97, 108] : List UInt8)) = false := by rw [ho]; rfl
  have e7 : (n.f0.toList == ([107, 101, 121] : List UInt8)) = false := by rw [ho]; rfl
  have e8 : (n.f0.toList == ([114, 111, 111, 116] : List UInt8)) = false := by rw [ho]; rfl
  have e9 : (n.f0.toList == ([118, 111, 108, 117, 109, 101] : List UInt8)) = false := by rw [ho]; rfl
  have e10 : (n.f0.toList == ([101, 120, 112, 111, 114, 116] : List UInt8)) = false := by rw [ho]; rfl
  clear ho
  have HI := Aside0.mk hI
  have HS0 := Aside0.mk hI.start
  have HN2 := Aside0.mk hn2
  have HLN := Aside0.mk hlen
  have HIH := Aside0.mk ih
  have HT := Aside0.mk h
  have HL4 := Aside0.mk hl4
  clear hI hn2 hlen ih h hl4
  have hmf : ∀ (fn : Fn) (first cap : Array Value) (w : World), (Instr.makeFunc fn first cap).run Tryd.prog w = .ok (.func fn first cap) w := fun _ _ _ _ => rfl
  have hu25 := Tryd.underlying25
  have hu9 := Tryd.underlying9
  have hu69 := Tryd.underlying69
  have eg : Enters Tryd.prog 50 := enters_of Tryd.func50 (by kernel_rfl) rfl
  unfold Enters at eg
  unfold nodeVal
  go_enter Tryd.func22, Tryd.ntmps22
  go_upto_region 1 with (fail)
  generalize World.alloc (World.alloc w _) _ = W0 at *
  generalize hq_ : w.heap.size + 1 = q at *
  generalize w.heap.size = p at *
  clear hq_
  have HS := HS0
  clear HS0
  have p0 := (blk_cell HS.out.pb 0).trans rfl
  have q0 := (blk_cell HS.out.qb 0).trans rfl
  have q1 := (blk_cell HS.out.qb 1).trans rfl
  have q2 := (blk_cell HS.out.qb 2).trans rfl
  have q3 := (blk_cell HS.out.qb 3).trans rfl
  have q4 := (blk_cell HS.out.qb 4).trans rfl
  go_upto_region 6 with (fail)
  clear p0 q0 q1 q2 q3 q4
  have HD := Aside0.mk HS.out.drew
  clear HS
  have p0 := (blk_cell HD.out.pb 0).trans rfl
  have q2 := (blk_cell HD.out.qb 2).trans rfl
  refine start_ (n := 5) (S := fun w' => w'.cell? ⟨p, 0, none⟩ = some (.pointer (some ⟨b, 0, none⟩)) ∧ w'.cell? ⟨q, 2, none⟩ = some (.int .i64 n.f2)) (ds := []) #[false, false, false, false, false] (by kernel_rfl) rfl rfl ?hS (fun hHeld => ?_)
  case hS => exact ⟨p0, q2⟩
  generalize World.drew W0 = Wd at *
  refine pure_ (i := 1) (N := some 21) (v := ?_) (a' := ?_) #[false, true, false, false, false] rfl rfl (by kernel_rfl) (fun _ _ _ h => h) (Or.inl ⟨by rfl, ?_⟩) ?_ ?_
  rotate_left
  · intro w'
    go_simp
    with_reducible rfl
  rotate_left
  · simp only [Act.put, List.setIfInBounds_toArray, List.set_cons_zero, List.set_cons_succ, i64_w, i32_w]
    rfl
  refine take_ (i := 0) (N := some 20) (v := ?_) (a' := ?_) #[true, true, false, false, false] rfl rfl (by kernel_rfl) (fun _ _ _ h => h) (Or.inl ⟨by rfl, ?_⟩) hHeld ?_ ?_
  rotate_left
  · rintro w' ⟨s0, s1⟩
    go_simp
    with_reducible rfl
  rotate_left
  · simp only [Act.put, List.setIfInBounds_toArray, List.set_cons_zero, List.set_cons_succ, i64_w, i32_w]
    rfl
  refine take_ (i := 2) (N := some 22) (v := ?_) (a' := ?_) #[true, true, true, false, false] rfl rfl (by kernel_rfl) (fun _ _ _ h => h) (Or.inl ⟨by rfl, ?_⟩) hHeld ?_ ?_
  rotate_left
  · rintro w' ⟨s0, s1⟩
    go_simp
    with_reducible rfl
  rotate_left
  · simp only [Act.put, List.setIfInBounds_toArray, List.set_cons_zero, List.set_cons_succ, i64_w, i32_w]
    rfl
  refine one_ (i := 3) (N := some 23) #[true, true, true, true, false] rfl rfl (by kernel_rfl) (by decide) (fun K hK => ?_)
  refine goes_ Tryd.func49 (by kernel_rfl) rfl #[.int .i64 n.f2] (by rfl) rfl rfl (by first | rfl | (simp [Act.eval]; done) | (go_simp; done)) ?_
  refine (itoa_fr _ _ _ _ n A c l w _ w0 HD.out n.f2 HN2.out.1 HN2.out.2 (HI.out.tab _ (HI.out.bel.trans HD.out.fr.1))).mono ?_
  rintro e w1 ⟨rfl, h1⟩
  refine ⟨_, rfl, ?_⟩
  have H1 := Aside0.mk h1
  clear h1 p0 q2
  have p0 := (blk_cell H1.out.pb 0).trans rfl
  have q2 := (blk_cell H1.out.qb 2).trans rfl
  try clear hHeld
  refine hK.out _ _ ⟨p0, q2⟩ (fun hHeld => ?_)
  clear hK K
  refine norm_ (a' := ?_) ?_ ?_
  rotate_left
  · show Act.put _ (some 23) _ = _
    simp only [Act.put, List.setIfInBounds_toArray, List.set_cons_zero, List.set_cons_succ, i64_w, i32_w]
    rfl
  refine one_ (i := 4) (N := some 24) #[true, true, true, true, true] rfl rfl (by kernel_rfl) (by decide) (fun K hK => ?_)
  refine goes_ Tryd.func48 (by kernel_rfl) rfl #[.pointer (some ⟨b, 0, none⟩), .string ⟨(Lib.itoa n.f2).toArray⟩] (by rfl) rfl rfl (by first | rfl | (simp [Act.eval]; done) | (go_simp; done)) ?_
  refine (H1.out.str ⟨(Lib.itoa n.f2).toArray⟩ (by have h1 := HLN.out; rw [HT.out] at h1; simpa using h1)).mono ?_
  rintro e w2 ⟨rfl, h1⟩
  refine ⟨_, rfl, ?_⟩
  have H2 := Aside0.mk h1
  clear h1 p0 q2
  have p0 := (blk_cell H2.out.pb 0).trans rfl
  have q2 := (blk_cell H2.out.qb 2).trans rfl
  try clear hHeld
  refine hK.out _ _ ⟨p0, q2⟩ (fun hHeld => ?_)
  clear hK K
  refine norm_ (a' := ?_) ?_ ?_
  rotate_left
  · show Act.put _ (some 24) _ = _
    simp only [Act.put, List.setIfInBounds_toArray, List.set_cons_zero, List.set_cons_succ, i64_w, i32_w]
    rfl
  refine done_ (by kernel_rfl) ?_
  clear hHeld p0 q2
  go_wp2
  refine bodyPost_end (results_none rfl _ _ _) rfl ?_
  have h1 := H2.out
  rw [HT.out]
  exact h1.end_
set_option maxHeartbeats 16000000 in
set_option maxRecDepth 100000 in
theorem wr_device (k : Nat) (ih : WrOk k) (w0 w : World) (b : Nat) (n : S25) (A : Option Addr) (c : Nat) (l t : List UInt8) (hI : WrI w0 w b n A c l) (hn2 : -9223372036854775808 ≤ n.f2 ∧ n.f2 ≤ 9223372036854775807) (hl4 : n.f4.length ≤ 1000000) (ho : n.f0.toList = ([100, 101, 118, 105, 99, 101] : List UInt8)) (h : t = n.f0.data.toList ++ [32] ++ n.f1.data.toList ++ [32] ++ Lib.itoa n.f2 ++ [59, 10]) (hlen : l.length + t.length ≤ 1000000000) :
    Calls Tryd.prog 22 #[.pointer (some ⟨b, 0, none⟩), nodeVal n A c] w (WrP w0.heap.size b (l ++ t) w) := by
  have e0 : (n.f0.toList == ([117, 115, 101] : List UInt8)) = false := by rw [ho]; rfl
  have e1 : (n.f0.toList == ([110, 97, 109, 101] : List UInt8)) = false := by rw [ho]; rfl
  have e2 : (n.f0.toList == ([110, 117, 109] : List UInt8)) = false := by rw [ho]; rfl
  have e3 : (n.f0.toList == ([104, 101, 120] : List UInt8)) = false := by rw [ho]; rfl
  have e4 : (n.f0.toList == ([102, 105, 108, 101] : List UInt8)) = false := by rw [ho]; rfl
  have e5 : (n.f0.toList == ([100, 101, 118, 105, 99, 101] : List UInt8)) = true := by rw [ho]; rfl
  have e6 : (n.f0.toList == ([106, 111, 117, 114, 110, 97, 108] : List UInt8)) = false := by rw [ho]; rfl
  have e7 : (n.f0.toList == ([107, 101, 121] : List UInt8)) = false := by rw [ho]; rfl
  have e8 : (n.f0.toList == ([114, 111, 111, 116] : List UInt8)) = false := by rw [ho]; rfl
  have e9 : (n.f0.toList == ([118, 111, 108, 117, 109, 101] : List UInt8)) = false := by rw [ho]; rfl
  have e10 : (n.f0.toList == ([101, 120, 112, 111, 114, 116] : List UInt8)) = false := by rw [ho]; rfl
  clear ho
  have HI := Aside0.mk hI
  have HS0 := Aside0.mk hI.start
  have HN2 := Aside0.mk hn2
  have HLN := Aside0.mk hlen
  have HIH := Aside0.mk ih
  have HT := Aside0.mk h
  have HL4 := Aside0.mk hl4
  clear hI hn2 hlen ih h hl4
  have hmf : ∀ (fn : Fn) (first cap : Array Value) (w : World), (Instr.makeFunc fn first cap).run Tryd.prog w = .ok (.func fn first cap) w := fun _ _ _ _ => rfl
  have hu25 := Tryd.underlying25
  have hu9 := Tryd.underlying9
  have hu69 := Tryd.underlying69
  have eg : Enters Tryd.prog 50 := enters_of Tryd.func50 (by kernel_rfl) rfl
  unfold Enters at eg
  unfold nodeVal
  go_enter Tryd.func22, Tryd.ntmps22
  go_upto_region 1 with (fail)
  generalize World.alloc (World.alloc w _) _ = W0 at *
  generalize hq_ : w.heap.size + 1 = q at *
  generalize w.heap.size = p at *
  clear hq_
  have HS := HS0
  clear HS0
  have p0 := (blk_cell HS.out.pb 0).trans rfl
  have q0 := (blk_cell HS.out.qb 0).trans rfl
  have q1 := (blk_cell HS.out.qb 1).trans rfl
  have q2 := (blk_cell HS.out.qb 2).trans rfl
  have q3 := (blk_cell HS.out.qb 3).trans rfl
  have q4 := (blk_cell HS.out.qb 4).trans rfl
  go_upto_region 28 with (fail)
  clear p0 q0 q1 q2 q3 q4
  have HD := Aside0.mk HS.out.drew
  clear HS
  have q0 := (blk_cell HD.out.qb 0).trans rfl
  have q1 := (blk_cell HD.out.qb 1).trans rfl
  have q2 := (blk_cell HD.out.qb 2).trans rfl
  refine start_ (n := 10) (S := fun w' => w'.cell? ⟨q, 0, none⟩ = some (.string n.f0) ∧ w'.cell? ⟨q, 1, none⟩ = some (.string n.f1) ∧ w'.cell? ⟨q, 2, none⟩ = some (.int .i64 n.f2)) (ds := []) #[false, false, false, false, false, false, false, false, false, false] (by kernel_rfl) rfl rfl ?hS (fun hHeld => ?_)
  case hS => exact ⟨q0, q1, q2⟩
  generalize World.drew W0 = Wd at *
  refine pure_ (i := 0) (N := some 76) (v := ?_) (a' := ?_) #[true, false, false, false, false, false, false, false, false, false] rfl rfl (by kernel_rfl) (fun _ _ _ h => h) (Or.inl ⟨by rfl, ?_⟩) ?_ ?_
  rotate_left
  · intro w'
    go_simp
    with_reducible rfl
  rotate_left
  · simp only [Act.put, List.setIfInBounds_toArray, List.set_cons_zero, List.set_cons_succ, i64_w, i32_w]
    rfl
  refine pure_ (i := 1) (N := some 77) (v := ?_) (a' := ?_) #[true, true, false, false, false, false, false, false, false, false] rfl rfl (by kernel_rfl) (fun _ _ _ h => h) (Or.inl ⟨by rfl, ?_⟩) ?_ ?_
  rotate_left
  · intro w'
    go_simp
    with_reducible rfl
  rotate_left
  · simp only [Act.put, List.setIfInBounds_toArray, List.set_cons_zero, List.set_cons_succ, i64_w, i32_w]
    rfl
  refine pure_ (i := 3) (N := some 79) (v := ?_) (a' := ?_) #[true, true, false, true, false, false, false, false, false, false] rfl rfl (by kernel_rfl) (fun _ _ _ h => h) (Or.inl ⟨by rfl, ?_⟩) ?_ ?_
  rotate_left
  · intro w'
    go_simp
    with_reducible rfl
  rotate_left
  · simp only [Act.put, List.setIfInBounds_toArray, List.set_cons_zero, List.set_cons_succ, i64_w, i32_w]
    rfl
  refine pure_ (i := 5) (N := some 81) (v := ?_) (a' := ?_) #[true, true, false, true, false, true, false, false, false, false] rfl rfl (by kernel_rfl) (fun _ _ _ h => h) (Or.inl ⟨by rfl, ?_⟩) ?_ ?_
  rotate_left
  · intro w'
    go_simp
    with_reducible rfl
  rotate_left
  · simp only [Act.put, List.setIfInBounds_toArray, List.set_cons_zero, List.set_cons_succ, i64_w, i32_w]
    rfl
  refine take_ (i := 2) (N := some 78) (v := ?_) (a' := ?_) #[true, true, true, true, false, true, false, false, false, false] rfl rfl (by kernel_rfl) (fun _ _ _ h => h) (Or.inl ⟨by rfl, ?_⟩) hHeld ?_ ?_
  rotate_left
  · rintro w' ⟨s0, s1, s2⟩
    go_simp
    with_reducible rfl
  rotate_left
  · simp only [Act.put, List.setIfInBounds_toArray, List.set_cons_zero, List.set_cons_succ, i64_w, i32_w]
    rfl
  refine take_ (i := 4) (N := some 80) (v := ?_) (a' := ?_) #[true, true, true, true, true, true, false, false, false, false] rfl rfl (by kernel_rfl) (fun _ _ _ h => h) (Or.inl ⟨by rfl, ?_⟩) hHeld ?_ ?_
  rotate_left
  · rintro w' ⟨s0, s1, s2⟩
    go_simp
    with_reducible rfl
  rotate_left
  · simp only [Act.put, List.setIfInBounds_toArray, List.set_cons_zero, List.set_cons_succ, i64_w, i32_w]
    rfl
  refine take_ (i := 6) (N := some 82) (v := ?_) (a' := ?_) #[true, true, true, true, true, true, true, false, false, false] rfl rfl (by kernel_rfl) (fun _ _ _ h => h) (Or.inl ⟨by rfl, ?_⟩) hHeld ?_ ?_
  rotate_left
  · rintro w' ⟨s0, s1, s2⟩
    go_simp
    with_reducible rfl
  rotate_left
  · simp only [Act.put, List.setIfInBounds_toArray, List.set_cons_zero, List.set_cons_succ, i64_w, i32_w]
    rfl
  refine one_ (i := 7) (N := some 83) #[true, true, true, true, true, true, true, true, false, false] rfl rfl (by kernel_rfl) (by decide) (fun K hK => ?_)
  refine goes_ Tryd.func49 (by kernel_rfl) rfl #[.int .i64 n.f2] (by rfl) rfl rfl (by first | rfl | (simp [Act.eval]; done) | (go_simp; done)) ?_
  refine (itoa_fr _ _ _ _ n A c l w _ w0 HD.out n.f2 HN2.out.1 HN2.out.2 (HI.out.tab _ (HI.out.bel.trans HD.out.fr.1))).mono ?_
  rintro e w1 ⟨rfl, h1⟩
  refine ⟨_, rfl, ?_⟩
  have H1 := Aside0.mk h1
  clear h1
  clear q0 q1 q2
  have q0 := (blk_cell H1.out.qb 0).trans rfl
  have q1 := (blk_cell H1.out.qb 1).trans rfl
  have q2 := (blk_cell H1.out.qb 2).trans rfl
  try clear hHeld
  refine hK.out _ _ ⟨q0, q1, q2⟩ (fun hHeld => ?_)
  clear hK K
  refine norm_ (a' := ?_) ?_ ?_
  rotate_left
  · show Act.put _ (some 83) _ = _
    simp only [Act.put, List.setIfInBounds_toArray, List.set_cons_zero, List.set_cons_succ, i64_w, i32_w]
    rfl
  refine one_ (i := 8) (N := some 84) #[true, true, true, true, true, true, true, true, true, false] rfl rfl (by kernel_rfl) (by decide) (fun K hK => ?_)
  refine value_ (v := .slice (some ⟨w1.heap.size, 0, none⟩) 6 6) (w1 := w1.alloc (.cells #[.string n.f0, .string (⟨#[32]⟩ : ByteArray), .string n.f1, .string (⟨#[32]⟩ : ByteArray), .string ⟨(Lib.itoa n.f2).toArray⟩, .string (⟨#[59, 10]⟩ : ByteArray)] 9 (0, 0))) (by rfl) rfl ?hr ?_
  case hr => first | (go_simp; done) | (go_simp; rfl)
  have H2 := Aside0.mk (H1.out.alloc (.cells #[.string n.f0, .string (⟨#[32]⟩ : ByteArray), .string n.f1, .string (⟨#[32]⟩ : ByteArray), .string ⟨(Lib.itoa n.f2).toArray⟩, .string (⟨#[59, 10]⟩ : ByteArray)] 9 (0, 0)))
  clear q0 q1 q2
  have q0 := (blk_cell H2.out.qb 0).trans rfl
  have q1 := (blk_cell H2.out.qb 1).trans rfl
  have q2 := (blk_cell H2.out.qb 2).trans rfl
  try clear hHeld
  refine hK.out _ _ ⟨q0, q1, q2⟩ (fun hHeld => ?_)
  clear hK K
  refine norm_ (a' := ?_) ?_ ?_
  rotate_left
  · show Act.put _ (some 84) _ = _
    simp only [Act.put, List.setIfInBounds_toArray, List.set_cons_zero, List.set_cons_succ, i64_w, i32_w]
    rfl
  refine one_ (i := 9) (N := some 85) #[true, true, true, true, true, true, true, true, true, true] rfl rfl (by kernel_rfl) (by decide) (fun K hK => ?_)
  have HP := Aside0.mk (H1.out.put [n.f0, (⟨#[32]⟩ : ByteArray), n.f1, (⟨#[32]⟩ : ByteArray), ⟨(Lib.itoa n.f2).toArray⟩, (⟨#[59, 10]⟩ : ByteArray)] #[.string n.f0, .string (⟨#[32]⟩ : ByteArray), .string n.f1, .string (⟨#[32]⟩ : ByteArray), .string ⟨(Lib.itoa n.f2).toArray⟩, .string (⟨#[59, 10]⟩ : ByteArray)] 6 rfl rfl (by have h1 := HLN.out; rw [HT.out] at h1; simp [catB] at h1 ⊢; omega) (by decide))
  refine goesV_ Tryd.func50 (by kernel_rfl) rfl #[.slice (some ⟨w1.heap.size, 0, none⟩) 6 6, .pointer (some ⟨p, 0, none⟩)] (by rfl) rfl rfl (by first | rfl | (simp [Act.eval]; done) | (go_simp; done)) (by first | rfl | (simp [Act.eval]; done) | (go_simp; done)) ?_
  refine HP.out.mono ?_
  rintro e w3 ⟨rfl, h3⟩
  refine ⟨_, rfl, ?_⟩
  have H3 := Aside0.mk h3
  clear h3
  clear q0 q1 q2
  have q0 := (blk_cell H3.out.qb 0).trans rfl
  have q1 := (blk_cell H3.out.qb 1).trans rfl
  have q2 := (blk_cell H3.out.qb 2).trans rfl
  try clear hHeld
  refine hK.out _ _ ⟨q0, q1, q2⟩ (fun hHeld => ?_)
  clear hK K
  refine norm_ (a' := ?_) ?_ ?_
  rotate_left
  · show Act.put _ (some 85) _ = _
    simp only [Act.put, List.setIfInBounds_toArray, List.set_cons_zero, List.set_cons_succ, i64_w, i32_w]
    rfl
  refine done_ (by kernel_rfl) ?_
  clear hHeld q0 q1 q2
  go_wp2
  refine bodyPost_end (results_none rfl _ _ _) rfl ?_
  have h1 := H3.out.end_
  rw [HT.out]
  simpa [catB] using h1
set_option maxHeartbeats 16000000 in
set_option maxRecDepth 100000 in
theorem wr_journal (k : Nat) (ih : WrOk k) (w0 w : World) (b : Nat) (n : S25) (A : Option Addr) (c : Nat) (l t : List UInt8) (hI : WrI w0 w b n A c l) (hn2 : -9223372036854775808 ≤ n.f2 ∧ n.f2 ≤ 9223372036854775807) (hl4 : n.f4.length ≤ 1000000) (ho : n.f0.toList = ([106, 111, 117, 114, 110, 97, 108] : List UInt8)) (h : t = n.f0.data.toList ++ [32] ++ n.f1.data.toList ++ [32] ++ Lib.itoa n.f2 ++ [59, 10]) (hlen : l.length + t.length ≤ 1000000000) :
    Calls Tryd.prog 22 #[.pointer (some ⟨b, 0, none⟩), nodeVal n A c] w (WrP w0.heap.size b (l ++ t) w) := by
  have e0 : (n.f0.toList == ([117, 115, 101] : List UInt8)) = false := by rw [ho]; rfl
  have e1 : (n.f0.toList == ([110, 97, 109, 101] : List UInt8)) = false := by rw [ho]; rfl
  have e2 : (n.f0.toList == ([110, 117, 109] : List UInt8)) = false := by rw [ho]; rfl
  have e3 : (n.f0.toList == ([104, 101, 120] : List UInt8)) = false := by rw [ho]; rfl
  have e4 : (n.f0.toList == ([102, 105, 108, 101] : List UInt8)) = false := by rw [ho]; rfl
  have e5 : (n.f0.toList == ([100, 101, 118, 105, 99, 101] : List UInt8)) = false := by rw [ho]; rfl
  have e6 : (n.f0.toList == ([106, 111, 117, 114, 110, 97, 108] : List UInt8)) = true := by rw [ho]; rfl
  have e7 : (n.f0.toList == ([107, 101, 121] : List UInt8)) = false := by rw [ho]; rfl
  have e8 : (n.f0.toList == ([114, 111, 111, 116] : List UInt8)) = false := by rw [ho]; rfl
  have e9 : (n.f0.toList == ([118, 111, 108, 117, 109, 101] : List UInt8)) = false := by rw [ho]; rfl
  have e10 : (n.f0.toList == ([101, 120, 112, 111, 114, 116] : List UInt8)) = false := by rw [ho]; rfl
  clear ho
  have HI := Aside0.mk hI
  have HS0 := Aside0.mk hI.start
  have HN2 := Aside0.mk hn2
  have HLN := Aside0.mk hlen
  have HIH := Aside0.mk ih
  have HT := Aside0.mk h
  have HL4 := Aside0.mk hl4
  clear hI hn2 hlen ih h hl4
  have hmf : ∀ (fn : Fn) (first cap : Array Value) (w : World), (Instr.makeFunc fn first cap).run Tryd.prog w = .ok (.func fn first cap) w := fun _ _ _ _ => rfl
  have hu25 := Tryd.underlying25
  have hu9 := Tryd.underlying9
  have hu69 := Tryd.underlying69
  have eg : Enters Tryd.prog 50 := enters_of Tryd.func50 (by kernel_rfl) rfl
  unfold Enters at eg
  unfold nodeVal
  go_enter Tryd.func22, Tryd.ntmps22
  go_upto_region 1 with (fail)
  generalize World.alloc (World.alloc w _) _ = W0 at *
  generalize hq_ : w.heap.size + 1 = q at *
  generalize w.heap.size = p at *
  clear hq_
  have HS := HS0
  clear HS0
  have p0 := (blk_cell HS.out.pb 0).trans rfl
  have q0 := (blk_cell HS.out.qb 0).trans rfl
  have q1 := (blk_cell HS.out.qb 1).trans rfl
  have q2 := (blk_cell HS.out.qb 2).trans rfl
  have q3 := (blk_cell HS.out.qb 3).trans rfl
  have q4 := (blk_cell HS.out.qb 4).trans rfl
  go_upto_region 28 with (fail)
  clear p0 q0 q1 q2 q3 q4
  have HD := Aside0.mk HS.out.drew
  clear HS
  have q0 := (blk_cell HD.out.qb 0).trans rfl
  have q1 := (blk_cell HD.out.qb 1).trans rfl
  have q2 := (blk_cell HD.out.qb 2).trans rfl
  refine start_ (n := 10) (S := fun w' => w'.cell? ⟨q, 0, none⟩ = some (.string n.f0) ∧ w'.cell? ⟨q, 1, none⟩ = some (.string n.f1) ∧ w'.cell? ⟨q, 2, none⟩ = some (.int .i64 n.f2)) (ds := []) #[false, false, false, false, false, false, false, false, false, false] (by kernel_rfl) rfl rfl ?hS (fun hHeld => ?_)
  case hS => exact ⟨q0, q1, q2⟩
  generalize World.drew W0 = Wd at *
  refine pure_ (i := 0) (N := some 76) (v := ?_) (a' := ?_) #[true, false, false, false, false, false, false, false, false, false] rfl rfl (by kernel_rfl) (fun _ _ _ h => h) (Or.inl ⟨by rfl, ?_⟩) ?_ ?_
  rotate_left
  · intro w'
    go_simp
    with_reducible rfl
  rotate_left
  · simp only [Act.put, List.setIfInBounds_toArray, List.set_cons_zero, List.set_cons_succ, i64_w, i32_w]
    rfl
  refine pure_ (i := 1) (N := some 77) (v := ?_) (a' := ?_) #[true, true, false, false, false, false, false, false, false, false] rfl rfl (by kernel_rfl) (fun _ _ _ h => h) (Or.inl ⟨by rfl, ?_⟩) ?_ ?_
  rotate_left
  · intro w'
    go_simp
    with_reducible rfl
  rotate_left
  · simp only [Act.put, List.setIfInBounds_toArray, List.set_cons_zero, List.set_cons_succ, i64_w, i32_w]
    rfl
  refine pure_ (i := 3) (N := some 79) (v := ?_) (a' := ?_) #[true, true, false, true, false, false, false, false, false, false] rfl rfl (by kernel_rfl) (fun _ _ _ h => h) (Or.inl ⟨by rfl, ?_⟩) ?_ ?_
  rotate_left
  · intro w'
    go_simp
    with_reducible rfl
  rotate_left
  · simp only [Act.put, List.setIfInBounds_toArray, List.set_cons_zero, List.set_cons_succ, i64_w, i32_w]
    rfl
  refine pure_ (i := 5) (N := some 81) (v := ?_) (a' := ?_) #[true, true, false, true, false, true, false, false, false, false] rfl rfl (by kernel_rfl) (fun _ _ _ h => h) (Or.inl ⟨by rfl, ?_⟩) ?_ ?_
  rotate_left
  · intro w'
    go_simp
    with_reducible rfl
  rotate_left
  · simp only [Act.put, List.setIfInBounds_toArray, List.set_cons_zero, List.set_cons_succ, i64_w, i32_w]
    rfl
  refine take_ (i := 2) (N := some 78) (v := ?_) (a' := ?_) #[true, true, true, true, false, true, false, false, false, false] rfl rfl (by kernel_rfl) (fun _ _ _ h => h) (Or.inl ⟨by rfl, ?_⟩) hHeld ?_ ?_
  rotate_left
  · rintro w' ⟨s0, s1, s2⟩
    go_simp
    with_reducible rfl
  rotate_left
  · simp only [Act.put, List.setIfInBounds_toArray, List.set_cons_zero, List.set_cons_succ, i64_w, i32_w]
    rfl
  refine take_ (i := 4) (N := some 80) (v := ?_) (a' := ?_) #[true, true, true, true, true, true, false, false, false, false] rfl rfl (by kernel_rfl) (fun _ _ _ h => h) (Or.inl ⟨by rfl, ?_⟩) hHeld ?_ ?_
  rotate_left
  · rintro w' ⟨s0, s1, s2⟩
    go_simp
    with_reducible rfl
  rotate_left
  · simp only [Act.put, List.setIfInBounds_toArray, List.set_cons_zero, List.set_cons_succ, i64_w, i32_w]
    rfl
  refine take_ (i := 6) (N := some 82) (v := ?_) (a' := ?_) #[true, true, true, true, true, true, true, false, false, false] rfl rfl (by kernel_rfl) (fun _ _ _ h => h) (Or.inl ⟨by rfl, ?_⟩) hHeld ?_ ?_
  rotate_left
  · rintro w' ⟨s0, s1, s2⟩
    go_simp
    with_reducible rfl
  rotate_left
  · simp only [Act.put, List.setIfInBounds_toArray, List.set_cons_zero, List.set_cons_succ, i64_w, i32_w]
    rfl
  refine one_ (i := 7) (N := some 83) #[true, true, true, true, true, true, true, true, false, false] rfl rfl (by kernel_rfl) (by decide) (fun K hK => ?_)
  refine goes_ Tryd.func49 (by kernel_rfl) rfl #[.int .i64 n.f2] (by rfl) rfl rfl (by first | rfl | (simp [Act.eval]; done) | (go_simp; done)) ?_
  refine (itoa_fr _ _ _ _ n A c l w _ w0 HD.out n.f2 HN2.out.1 HN2.out.2 (HI.out.tab _ (HI.out.bel.trans HD.out.fr.1))).mono ?_
  rintro e w1 ⟨rfl, h1⟩
  refine ⟨_, rfl, ?_⟩
  have H1 := Aside0.mk h1
  clear h1
  clear q0 q1 q2
  have q0 := (blk_cell H1.out.qb 0).trans rfl
  have q1 := (blk_cell H1.out.qb 1).trans rfl
  have q2 := (blk_cell H1.out.qb 2).trans rfl
  try clear hHeld
  refine hK.out _ _ ⟨q0, q1, q2⟩ (fun hHeld => ?_)
  clear hK K
  refine norm_ (a' := ?_) ?_ ?_
  rotate_left
  · show Act.put _ (some 83) _ = _
    simp only [Act.put, List.setIfInBounds_toArray, List.set_cons_zero, List.set_cons_succ, i64_w, i32_w]
    rfl
  refine one_ (i := 8) (N := some 84) #[true, true, true, true, true, true, true, true, true, false] rfl rfl (by kernel_rfl) (by decide) (fun K hK => ?_)
  refine value_ (v := .slice (some ⟨w1.heap.size, 0, none⟩) 6 6) (w1 := w1.alloc (.cells #[.string n.f0, .string (⟨#[32]⟩ : ByteArray), .string n.f1, .string (⟨#[32]⟩ : ByteArray), .string ⟨(Lib.itoa n.f2).toArray⟩, .string (⟨#[59, 10]⟩ : ByteArray)] 9 (0, 0))) (by rfl) rfl ?hr ?_
  case hr => first | (go_simp; done) | (go_simp; rfl)
  have H2 := Aside0.mk (H1.out.alloc (.cells #[.string n.f0, .string (⟨#[32]⟩ : ByteArray), .string n.f1, .string (⟨#[32]⟩ : ByteArray), .string ⟨(Lib.itoa n.f2).toArray⟩, .string (⟨#[59, 10]⟩ : ByteArray)] 9 (0, 0)))
  clear q0 q1 q2
  have q0 := (blk_cell H2.out.qb 0).trans rfl
  have q1 := (blk_cell H2.out.qb 1).trans rfl
  have q2 := (blk_cell H2.out.qb 2).trans rfl
  try clear hHeld
  refine hK.out _ _ ⟨q0, q1, q2⟩ (fun hHeld => ?_)
  clear hK K
  refine norm_ (a' := ?_) ?_ ?_
  rotate_left
  · show Act.put _ (some 84) _ = _
    simp only [Act.put, List.setIfInBounds_toArray, List.set_cons_zero, List.set_cons_succ, i64_w, i32_w]
    rfl
  refine one_ (i := 9) (N := some 85) #[true, true, true, true, true, true, true, true, true, true] rfl rfl (by kernel_rfl) (by decide) (fun K hK => ?_)
  have HP := Aside0.mk (H1.out.put [n.f0, (⟨#[32]⟩ : ByteArray), n.f1, (⟨#[32]⟩ : ByteArray), ⟨(Lib.itoa n.f2).toArray⟩, (⟨#[59, 10]⟩ : ByteArray)] #[.string n.f0, .string (⟨#[32]⟩ : ByteArray), .string n.f1, .string (⟨#[32]⟩ : ByteArray), .string ⟨(Lib.itoa n.f2).toArray⟩, .string (⟨#[59, 10]⟩ : ByteArray)] 6 rfl rfl (by have h1 := HLN.out; rw [HT.out] at h1; simp [catB] at h1 ⊢; omega) (by decide))
  refine goesV_ Tryd.func50 (by kernel_rfl) rfl #[.slice (some ⟨w1.heap.size, 0, none⟩) 6 6, .pointer (some ⟨p, 0, none⟩)] (by rfl) rfl rfl (by first | rfl | (simp [Act.eval]; done) | (go_simp; done)) (by first | rfl | (simp [Act.eval]; done) | (go_simp; done)) ?_
  refine HP.out.mono ?_
  rintro e w3 ⟨rfl, h3⟩
  refine ⟨_, rfl, ?_⟩
  have H3 := Aside0.mk h3
  clear h3
  clear q0 q1 q2
  have q0 := (blk_cell H3.out.qb 0).trans rfl
  have q1 := (blk_cell H3.out.qb 1).trans rfl
  have q2 := (blk_cell H3.out.qb 2).trans rfl
  try clear hHeld
  refine hK.out _ _ ⟨q0, q1, q2⟩ (fun hHeld => ?_)
  clear hK K
  refine norm_ (a' := ?_) ?_ ?_
  rotate_left
  · show Act.put _ (some 85) _ = _
    simp only [Act.put, List.setIfInBounds_toArray, List.set_cons_zero, List.set_cons_succ, i64_w, i32_w]
    rfl
  refine done_ (by kernel_rfl) ?_
  clear hHeld q0 q1 q2
  go_wp2
  refine bodyPost_end (results_none rfl _ _ _) rfl ?_
  have h1 := H3.out.end_
  rw [HT.out]
  simpa [catB] using h1
set_option maxHeartbeats 16000000 in
set_option maxRecDepth 100000 in
theorem wr_key (k : Nat) (ih : WrOk k) (w0 w : World) (b : Nat) (n : S25) (A : Option Addr) (c : Nat) (l t : List UInt8) (hI : WrI w0 w b n A c l) (hn2 : -9223372036854775808 ≤ n.f2 ∧ n.f2 ≤ 9223372036854775807) (hl4 : n.f4.length ≤ 1000000) (ho : n.f0.toList = ([107, 101, 121] : List UInt8)) (tx : List UInt8) (hw : headW (writeT k) n.f4 = some tx) (h : t = n.f0.data.toList ++ [32] ++ n.f1.data.toList ++ [32] ++ tx ++ [59, 10]) (hlen : l.length + t.length ≤ 1000000000) :
    Calls Tryd.prog 22 #[.pointer (some ⟨b, 0, none⟩), nodeVal n A c] w (WrP w0.heap.size b (l ++ t) w) := by
  have e0 : (n.f0.toList == ([117, 115, 101] : List UInt8)) = false := by rw [ho]; rfl
  have e1 : (n.f0.toList == ([110, 97, 109, 101] : List UInt8)) = false := by rw [ho]; rfl
  have e2 : (n.f0.toList == ([110, 117, 109] : List UInt8)) = false := by rw [ho]; rfl
  have e3 : (n.f0.toList == ([104, 101, 120] : List UInt8)) = false := by rw [ho]; rfl
  have e4 : (n.f0.toList == ([102, 105, 108, 101] : List UInt8)) = false := by rw [ho]; rfl
  have e5 : (n.f0.toList == ([100, 101, 118, 105, 99, 101] : List UInt8)) = false := by rw [ho]; rfl
  have e6 : (n.f0.toList == ([106, 111, 117, 114, 110, 97, 108] : List UInt8)) = false := by rw [ho]; rfl
  have e7 : (n.f0.toList == ([107, 101, 121] : List UInt8)) = true := by rw [ho]; rfl
  have e8 : (n.f0.toList == ([114, 111, 111, 116] : List UInt8)) = false := by rw [ho]; rfl
  have e9 : (n.f0.toList == ([118, 111, 108, 117, 109, 101] : List UInt8)) = false := by rw [ho]; rfl
  have e10 : (n.f0.toList == ([101, 120, 112, 111, 114, 116] : List UInt8)) = false := by rw [ho]; rfl
  clear ho
  have HI := Aside0.mk hI
  have HS0 := Aside0.mk hI.start
  have HN2 := Aside0.mk hn2
  have HLN := Aside0.mk hlen
  have HIH := Aside0.mk ih
  have HT := Aside0.mk h
  have HL4 := Aside0.mk hl4
  clear hI hn2 hlen ih h hl4
  have hmf : ∀ (fn : Fn) (first cap : Array Value) (w : World), (Instr.makeFunc fn first cap).run Tryd.prog w = .ok (.func fn first cap) w := fun _ _ _ _ => rfl
  have hu25 := Tryd.underlying25
  have hu9 := Tryd.underlying9
  have hu69 := Tryd.underlying69
  have eg : Enters Tryd.prog 50 := enters_of Tryd.func50 (by kernel_rfl) rfl
  unfold Enters at eg
  unfold nodeVal
  go_enter Tryd.func22, Tryd.ntmps22
  go_upto_region 1 with (fail)
  generalize World.alloc (World.alloc w _) _ = W0 at *
  generalize hq_ : w.heap.size + 1 = q at *
  generalize w.heap.size = p at *
  clear hq_
  have HS := HS0
  clear HS0
  have p0 := (blk_cell HS.out.pb 0).trans rfl
  have q0 := (blk_cell HS.out.qb 0).trans rfl
  have q1 := (blk_cell HS.out.qb 1).trans rfl
  have q2 := (blk_cell HS.out.qb 2).trans rfl
  have q3 := (blk_cell HS.out.qb 3).trans rfl
  have q4 := (blk_cell HS.out.qb 4).trans rfl
  have HW := Aside0.mk hw
  clear hw
  have HP1 := Aside0.mk (HS.out.put [n.f0, (⟨#[32]⟩ : ByteArray), n.f1, (⟨#[32]⟩ : ByteArray)] #[.string n.f0, .string (⟨#[32]⟩ : ByteArray), .string n.f1, .string (⟨#[32]⟩ : ByteArray)] 4 rfl rfl (by have h1 := HLN.out; rw [HT.out] at h1; simp [catB] at h1 ⊢; omega) (by decide))
  go_upto_region 32 with (go_at_fn 50; (with_reducible refine HP1.out.mono ?_); rintro e w1 ⟨rfl, h1⟩; have H1 := Aside0.mk h1; clear h1)
  clear HP1 HS
  clear p0 q0 q1 q2 q3 q4
  generalize hw1_ : w1 = W1 at *; clear hw1_
  have HD := Aside0.mk H1.out.drew
  clear H1
  obtain ⟨x, xs, hxs⟩ : ∃ x xs, n.f4 = x :: xs := by cases h : n.f4 with | nil => (have h1 := HW.out; rw [h] at h1; cases h1) | cons x xs => exact ⟨x, xs, rfl⟩
  have HWx := Aside0.mk (show writeT k x = some tx from by have h1 := HW.out; rw [hxs] at h1; exact h1)
  have hlt0 : 0 < n.f4.length := by rw [hxs]; simp
  have hrd : rd_T25 n.f4 0 = x := by rw [hxs]; rfl
  obtain ⟨ad, A4, c4, rfl, y0, y1, y2, y3, y4, hl4, hC4⟩ := at_T25 HI.out.hC 0 (Int.le_refl _) (by omega)
  rw [hrd] at y0 y1 y2 y3 y4 hl4 hC4
  simp only [Int.toNat_zero, Nat.zero_mul, add0] at y0 y1 y2 y3 y4
  have HX := Aside0.mk hxs
  have HRD := Aside0.mk hrd
  have HL4x := Aside0.mk hl4
  have HC4x := Aside0.mk hC4
  clear hxs hrd hl4 hC4
  have hbd := HI.out.bel.trans HD.out.fr.1
  replace y0 := pw_cell_below hbd y0
  replace y1 := pw_cell_below hbd y1
  replace y2 := pw_cell_below hbd y2
  replace y3 := pw_cell_below hbd y3
  replace y4 := pw_cell_below hbd y4
  have HBD := Aside0.mk hbd
  clear hbd
  have p0 := (blk_cell HD.out.pb 0).trans rfl
  have q4 := (blk_cell HD.out.qb 4).trans rfl
  refine start_ (n := 6) (S := fun w' => w'.cell? ⟨p, 0, none⟩ = some (.pointer (some ⟨b, 0, none⟩)) ∧ w'.cell? ⟨q, 4, none⟩ = some (.slice (some ad) n.f4.length c) ∧ w'.cell? ad = some (.string x.f0) ∧ w'.cell? ⟨ad.block, ad.off + 1, none⟩ = some (.string x.f1) ∧ w'.cell? ⟨ad.block, ad.off + 2, none⟩ = some (.int .i64 x.f2) ∧ w'.cell? ⟨ad.block, ad.off + 3, none⟩ = some (.int .i64 x.f3) ∧ w'.cell? ⟨ad.block, ad.off + 4, none⟩ = some (.slice A4 x.f4.length c4)) (ds := [5]) #[false, false, false, false, false, false] (by kernel_rfl) rfl rfl ?hS (fun hHeld => ?_)
  case hS => exact ⟨p0, q4, y0, y1, y2, y3, y4⟩
  generalize World.drew W1 = Wd at *
  refine pure_ (i := 1) (N := some 97) (v := ?_) (a' := ?_) #[false, true, false, false, false, false] rfl rfl (by kernel_rfl) (fun _ _ _ h => h) (Or.inl ⟨by rfl, ?_⟩) ?_ ?_
  rotate_left
  · intro w'
    go_simp
    with_reducible rfl
  rotate_left
  · simp only [Act.put, List.setIfInBounds_toArray, List.set_cons_zero, List.set_cons_succ, i64_w, i32_w]
    rfl
  refine take_ (i := 0) (N := some 96) (v := ?_) (a' := ?_) #[true, true, false, false, false, false] rfl rfl (by kernel_rfl) (fun _ _ _ h => h) (Or.inl ⟨by rfl, ?_⟩) hHeld ?_ ?_
  rotate_left
  · rintro w' ⟨s0, s1, s2, s3, s4, s5, s6⟩
    go_simp
    with_reducible rfl
  rotate_left
  · simp only [Act.put, List.setIfInBounds_toArray, List.set_cons_zero, List.set_cons_succ, i64_w, i32_w]
    rfl
  refine take_ (i := 2) (N := some 98) (v := ?_) (a' := ?_) #[true, true, true, false, false, false] rfl rfl (by kernel_rfl) (fun _ _ _ h => h) (Or.inl ⟨by rfl, ?_⟩) hHeld ?_ ?_
  rotate_left
  · rintro w' ⟨s0, s1, s2, s3, s4, s5, s6⟩
    go_simp
    with_reducible rfl
  rotate_left
  · simp only [Act.put, List.setIfInBounds_toArray, List.set_cons_zero, List.set_cons_succ, i64_w, i32_w]
    rfl
  refine pure_ (i := 3) (N := some 99) (v := ?_) (a' := ?_) #[true, true, true, true, false, false] rfl rfl (by kernel_rfl) (fun _ _ _ h => h) (Or.inl ⟨by rfl, ?_⟩) ?_ ?_
  rotate_left
  · intro w'
    go_simp
    with_reducible rfl
  rotate_left
  · simp only [Act.put, List.setIfInBounds_toArray, List.set_cons_zero, List.set_cons_succ, i64_w, i32_w]
    rfl
  refine take_ (i := 4) (N := some 100) (v := ?_) (a' := ?_) #[true, true, true, true, true, false] rfl rfl (by kernel_rfl) (fun _ _ _ h => h) (Or.inl ⟨by rfl, ?_⟩) hHeld ?_ ?_
  rotate_left
  · rintro w' ⟨s0, s1, s2, s3, s4, s5, s6⟩
    go_simp
    with_reducible rfl
  rotate_left
  · simp only [Act.put, List.setIfInBounds_toArray, List.set_cons_zero, List.set_cons_succ, i64_w, i32_w]
    rfl
  refine last_ (i := 5) (N := some 101) #[true, true, true, true, true, true] rfl rfl (by kernel_rfl) (by decide) (fun K hK => ?_)
  refine goes_ Tryd.func22 (by kernel_rfl) rfl #[.pointer (some ⟨b, 0, none⟩), nodeVal x A4 c4] (by rfl) rfl rfl (by first | rfl | (simp [Act.eval, nodeVal]; done) | (go_simp; done)) ?_
  refine (HIH.out w0 Wd b x A4 c4 _ tx ⟨HBD.out, HD.out.bld, HL4x.out, HC4x.out, HI.out.tab⟩ HWx.out (by have h1 := HLN.out; rw [HT.out] at h1; simp [catB] at h1 ⊢; omega)).mono ?_
  rintro e w2 ⟨rfl, h1, h2⟩
  refine ⟨_, rfl, ?_⟩
  have H2 := Aside0.mk (HD.out.call h1 h2)
  clear h1 h2
  refine hK.out _ _ ?_
  clear hK K
  refine norm_ (a' := ?_) ?_ ?_
  rotate_left
  · show Act.put _ (some 101) _ = _
    simp only [Act.put, List.setIfInBounds_toArray, List.set_cons_zero, List.set_cons_succ, i64_w, i32_w]
    rfl
  refine done_ (by kernel_rfl) ?_
  clear hHeld p0 q4 y0 y1 y2 y3 y4 HD HBD
  have p0 := (blk_cell H2.out.pb 0).trans rfl
  have q0 := (blk_cell H2.out.qb 0).trans rfl
  have q1 := (blk_cell H2.out.qb 1).trans rfl
  have q2 := (blk_cell H2.out.qb 2).trans rfl
  have q3 := (blk_cell H2.out.qb 3).trans rfl
  have q4 := (blk_cell H2.out.qb 4).trans rfl
  have HP3 := Aside0.mk (H2.out.put [(⟨#[59, 10]⟩ : ByteArray)] #[.string (⟨#[59, 10]⟩ : ByteArray)] 1 rfl rfl (by have h1 := HLN.out; rw [HT.out] at h1; simp [catB] at h1 ⊢; omega) (by decide))
  go_wp2_with (go_at_fn 50; (with_reducible refine HP3.out.mono ?_); rintro e w1 ⟨rfl, h1⟩; have H3 := Aside0.mk h1; clear h1)
  refine bodyPost_end (results_none rfl _ _ _) rfl ?_
  have h1 := H3.out.end_
  rw [HT.out]
  simpa [catB] using h1
set_option maxHeartbeats 16000000 in
set_option maxRecDepth 100000 in
theorem wr_file (k : Nat) (ih : WrOk k) (w0 w : World) (b : Nat) (n : S25) (A : Option Addr) (c : Nat) (l t : List UInt8) (hI : WrI w0 w b n A c l) (hn2 : -9223372036854775808 ≤ n.f2 ∧ n.f2 ≤ 9223372036854775807) (hl4 : n.f4.length ≤ 1000000) (ho : n.f0.toList = ([102, 105, 108, 101] : List UInt8)) (h : catW (writeT k) n.f4 = some t) (hlen : l.length + t.length ≤ 1000000000) :
    Calls Tryd.prog 22 #[.pointer (some ⟨b, 0, none⟩), nodeVal n A c] w (WrP w0.heap.size b (l ++ t) w) := by
  have e0 : (n.f0.toList == ([117, 115, 101] : List UInt8)) = false := by rw [ho]; rfl
  have e1 : (n.f0.toList == ([110, 97, 109, 101] : List UInt8)) = false := by rw [ho]; rfl
  have e2 : (n.f0.toList == ([110, 117, 109] : List UInt8)) = false := by rw [ho]; rfl
  have e3 : (n.f0.toList == ([104, 101, 120] : List UInt8)) = false := by rw [ho]; rfl
  have e4 : (n.f0.toList == ([102, 105, 108, 101] : List UInt8)) = true := by rw [ho]; rfl
  have e5 : (n.f0.toList == ([100, 101, 118, 105, 99, 101] : List UInt8)) = false := by rw [ho]; rfl
  have e6 : (n.f0.toList == ([106, 111, 117, 114, 110, 97, 108] : List UInt8)) = false := by rw [ho]; rfl
  have e7 : (n.f0.toList == ([107, 101, 121] : List UInt8)) = false := by rw [ho]; rfl
  have e8 : (n.f0.toList == ([114, 111, 111, 116] : List UInt8)) = false := by rw [ho]; rfl
  have e9 : (n.f0.toList == ([118, 111, 108, 117, 109, 101] : List UInt8)) = false := by rw [ho]; rfl
  have e10 : (n.f0.toList == ([101, 120, 112, 111, 114, 116] : List UInt8)) = false := by rw [ho]; rfl
  clear ho
  have HI := Aside0.mk hI
  have HS0 := Aside0.mk hI.start
  have HN2 := Aside0.mk hn2
  have HLN := Aside0.mk hlen
  have HIH := Aside0.mk ih
  have HT := Aside0.mk h
  have HL4 := Aside0.mk hl4
  clear hI hn2 hlen ih h hl4
  have hmf : ∀ (fn : Fn) (first cap : Array Value) (w : World), (Instr.makeFunc fn first cap).run Tryd.prog w = .ok (.func fn first cap) w := fun _ _ _ _ => rfl
  have hu25 := Tryd.underlying25
  have hu9 := Tryd.underlying9
  have hu69 := Tryd.underlying69
  have eg : Enters Tryd.prog 50 := enters_of Tryd.func50 (by kernel_rfl) rfl
  unfold Enters at eg
  unfold nodeVal
  go_enter Tryd.func22, Tryd.ntmps22
  go_upto_region 1 with (fail)
  generalize World.alloc (World.alloc w _) _ = W0 at *
  generalize hq_ : w.heap.size + 1 = q at *
  generalize w.heap.size = p at *
  clear hq_
  have HS := HS0
  clear HS0
  have p0 := (blk_cell HS.out.pb 0).trans rfl
  have q0 := (blk_cell HS.out.qb 0).trans rfl
  have q1 := (blk_cell HS.out.qb 1).trans rfl
  have q2 := (blk_cell HS.out.qb 2).trans rfl
  have q3 := (blk_cell HS.out.qb 3).trans rfl
  have q4 := (blk_cell HS.out.qb 4).trans rfl
  go_upto_block 1 with (fail)
  go_wp2_with (fail)
  go_loopw [37] (fun i wr => ∃ j : Nat, j ≤ n.f4.length ∧ i = .int .i64 j ∧ Aside0 (CatS (writeT k) w0.heap.size b p q n A c l t w wr j)) (fun i _ => n.f4.length - (intOf i).toNat)
  case atStart => exact ⟨0, Nat.zero_le _, rfl, ⟨[], t, by simpa using HS.out, HT.out, rfl⟩⟩
  case round =>
    clear p0 q0 q1 q2 q3 q4
    clear HS
    obtain ⟨j, hj, rfl, HC⟩ := hrel
    obtain ⟨dn, u, hS, hu, hdu⟩ := HC.out
    have HS := Aside0.mk hS
    have HDU := Aside0.mk hdu
    clear hS hdu HC
    have p0 := (blk_cell HS.out.pb 0).trans rfl
    have q0 := (blk_cell HS.out.qb 0).trans rfl
    have q1 := (blk_cell HS.out.qb 1).trans rfl
    have q2 := (blk_cell HS.out.qb 2).trans rfl
    have q3 := (blk_cell HS.out.qb 3).trans rfl
    have q4 := (blk_cell HS.out.qb 4).trans rfl
    by_cases hlt : j < n.f4.length
    · skip
      obtain ⟨tx, u', htx, hu', hue⟩ := cat_inv hu hlt
      have HTX := Aside0.mk htx
      have HU := Aside0.mk hu'
      have HUE := Aside0.mk hue
      clear htx hu' hue hu
      obtain ⟨ad, A4, c4, hA, y0, y1, y2, y3, y4, hl4, hC4⟩ := at_T25 HI.out.hC (j : Int) (by omega) (by omega)
      simp only [Int.toNat_natCast] at y0 y1 y2 y3 y4
      generalize hrd : rd_T25 n.f4 (j : Int) = x at *
      clear hrd
      have HL4x := Aside0.mk hl4
      have HC4x := Aside0.mk hC4
      clear hl4 hC4
      have hbd := HI.out.bel.trans HS.out.fr.1
      replace y0 := pw_cell_below hbd y0
      replace y1 := pw_cell_below hbd y1
      replace y2 := pw_cell_below hbd y2
      replace y3 := pw_cell_below hbd y3
      replace y4 := pw_cell_below hbd y4
      clear hbd
      subst hA
      have pl : (0 ≤ (j : Int)) = True := eq_true (by omega)
      have ql : ((j : Int) < (n.f4.length : Int)) = True := eq_true (by omega)
      have ql2 : (j < n.f4.length) = True := eq_true hlt
      have hl4 := HL4.out
      have hj6 : (j : Int) ≤ 1000000 := by omega
      go_upto_region 13 with (fail)
      generalize hW : World.alloc wr _ = W1
      have HS1 := Aside0.mk (show WrS w0.heap.size b p q n (some ad) c (l ++ dn) w W1 from by rw [← hW]; exact HS.out.alloc _)
      have NB := Aside0.mk (show W1.heap[wr.heap.size]? = some (.cells #[.string x.f0, .string x.f1, .int .i64 x.f2, .int .i64 x.f3, .slice A4 x.f4.length c4] 25 (0, 0)) from by rw [← hW]; exact blk_new _ _)
      clear hW y0 y1 y2 y3 y4 pl ql ql2
      clear p0 q0 q1 q2 q3 q4
      have hcall := HIH.out w0 W1 b x A4 c4 (l ++ dn) tx ⟨HI.out.bel.trans HS1.out.fr.1, HS1.out.bld, HL4x.out, HC4x.out, HI.out.tab⟩ HTX.out (by have h1 := HLN.out; rw [← HDU.out, HUE.out] at h1; simp at h1 ⊢; omega)
      unfold nodeVal at hcall
      have HCALL := Aside0.mk hcall
      clear hcall
      have p0 := (blk_cell HS1.out.pb 0).trans rfl
      have q0 := (blk_cell HS1.out.qb 0).trans rfl
      have q1 := (blk_cell HS1.out.qb 1).trans rfl
      have q2 := (blk_cell HS1.out.qb 2).trans rfl
      have q3 := (blk_cell HS1.out.qb 3).trans rfl
      have q4 := (blk_cell HS1.out.qb 4).trans rfl
      have z0 := (blk_cell NB.out 0).trans rfl
      have z1 := (blk_cell NB.out 1).trans rfl
      have z2 := (blk_cell NB.out 2).trans rfl
      have z3 := (blk_cell NB.out 3).trans rfl
      have z4 := (blk_cell NB.out 4).trans rfl
      go_wp2_with (go_at_call 22; (with_reducible refine HCALL.out.mono ?_); rintro e w2 ⟨rfl, h1, h2⟩; have H2 := Aside0.mk (HS1.out.call h1 h2); clear h1 h2)
      go_roundw
      case rel => exact ⟨j + 1, by omega, by go_num, ⟨dn ++ tx, u', by rw [← List.append_assoc]; exact H2.out, HU.out, by rw [← HDU.out, HUE.out, List.append_assoc]⟩⟩
      case measure => simp [intOf]; omega
    have hje : j = n.f4.length := by omega
    subst hje
    go_wp2
    refine bodyPost_end (results_none rfl _ _ _) rfl ?_
    have h1 := HS.out.end_
    rw [List.drop_eq_nil_of_le (Nat.le_refl _)] at hu
    cases hu
    have h2 := HDU.out
    rw [List.append_nil] at h2
    rwa [h2] at h1
end Go.Proofs.YtknbfhhmjbnemaaDoor.P
end
section
namespace Go.Proofs.YtknbfhhmjbnemaaDoor.P
open Go.RowKit Go.Proofs.YtknbfhhmjbnemaaDoorW.PrintWords Go.Proofs.YtknbfhhmjbnemaaDoorW.PrintLast Go.Proofs.YtknbfhhmjbnemaaDoorW.PrintMore
set_option linter.unusedVariables false
set_option linter.unusedSimpArgs false
set_option maxHeartbeats 16000000 in
set_option maxRecDepth 100000 in
theorem wr_export1 (k : Nat) (ih : WrOk k) (w0 w : World) (b : Nat) (n : S25) (A : Option Addr) (c : Nat) (l t : List UInt8) (hI : WrI w0 w b n A c l) (hn2 : -9223372036854775808 ≤ n.f2 ∧ n.f2 ≤ 9223372036854775807) (hl4 : n.f4.length ≤ 1000000) (ho : n.f0.toList = ([101, 120, 112, 111, 114, 116] : List UInt8)) (hf : (n.f2 == 1) = true) (h : t = [101, 120, 112, 111, 114, 116, 32] ++ n.f1.data.toList ++ [32, 114, 101, 97, 100, 111, 110, 108, 121] ++ [59, 10]) (hlen : l.length + t.length ≤ 1000000000) :
    Calls Tryd.prog 22 #[.pointer (some ⟨b, 0, none⟩), nodeVal n A c] w (WrP w0.heap.size b (l ++ t) w) := by
  have e0 : (n.f0.toList == ([117, 115, 101] : List UInt8)) = false := by rw [ho]; rfl
  have e1 : (n.f0.toList == ([110, 97, 109, 101] : List UInt8)) = false := by rw [ho]; rfl
  have e2 : (n.f0.toList == ([110, 117, 109] : List UInt8)) = false := by rw [ho]; rfl
  have e3 : (n.f0.toList == ([104, 101, 120] : List UInt8)) = false := by rw [ho]; rfl
  have e4 : (n.f0.toList == ([102, 105, 108, 101] : List UInt8)) = false := by rw [ho]; rfl
  have e5 : (n.f0.toList == ([100, 101, 118, 105, 99, 101] : List UInt8)) = false := by rw [ho]; rfl
  have e6 : (n.f0.toList == ([106, 111, 117, 114, 110, 97, 108] : List UInt8)) = false := by rw [ho]; rfl
  have e7 : (n.f0.toList == ([107, 101, 121] : List UInt8)) = false := by rw [ho]; rfl
  have e8 : (n.f0.toList == ([114, 111, 111, 116] : List UInt8)) = false := by rw [ho]; rfl
  have e9 : (n.f0.toList == ([118, 111, 108, 117, 109, 101] : List UInt8)) = false := by rw [ho]; rfl
  have e10 : (n.f0.toList == ([101, 120, 112, 111, 114, 116] : List UInt8)) = true := by rw [ho]; rfl
  clear ho
  have HI := Aside0.mk hI
  have HS0 := Aside0.mk hI.start
  have HN2 := Aside0.mk hn2
  have HLN := Aside0.mk hlen
  have HIH := Aside0.mk ih
  have HT := Aside0.mk h
  have HL4 := Aside0.mk hl4
  clear hI hn2 hlen ih h hl4
  have hmf : ∀ (fn : Fn) (first cap : Array Value) (w : World), (Instr.makeFunc fn first cap).run Tryd.prog w = .ok (.func fn first cap) w := fun _ _ _ _ => rfl
  have hu25 := Tryd.underlying25
  have hu9 := Tryd.underlying9
  have hu69 := Tryd.underlying69
  have eg : Enters Tryd.prog 50 := enters_of Tryd.func50 (by kernel_rfl) rfl
  unfold Enters at eg
  unfold nodeVal
  go_enter Tryd.func22, Tryd.ntmps22
  go_upto_region 1 with (fail)
  generalize World.alloc (World.alloc w _) _ = W0 at *
  generalize hq_ : w.heap.size + 1 = q at *
  generalize w.heap.size = p at *
  clear hq_
  have HS := HS0
  clear HS0
  have p0 := (blk_cell HS.out.pb 0).trans rfl
  have q0 := (blk_cell HS.out.qb 0).trans rfl
  have q1 := (blk_cell HS.out.qb 1).trans rfl
  have q2 := (blk_cell HS.out.qb 2).trans rfl
  have q3 := (blk_cell HS.out.qb 3).trans rfl
  have q4 := (blk_cell HS.out.qb 4).trans rfl
  have HP1 := Aside0.mk (HS.out.put [(⟨#[101, 120, 112, 111, 114, 116, 32]⟩ : ByteArray), n.f1] #[.string (⟨#[101, 120, 112, 111, 114, 116, 32]⟩ : ByteArray), .string n.f1] 2 rfl rfl (by have h1 := HLN.out; rw [HT.out] at h1; simp [catB] at h1 ⊢; omega) (by decide))
  go_upto_region 40 with (go_at_fn 50; (with_reducible refine HP1.out.mono ?_); rintro e w1 ⟨rfl, h1⟩; have H1 := Aside0.mk h1; clear h1)
  clear HP1 HS
  clear p0 q0 q1 q2 q3 q4
  have p0 := (blk_cell H1.out.pb 0).trans rfl
  have q0 := (blk_cell H1.out.qb 0).trans rfl
  have q1 := (blk_cell H1.out.qb 1).trans rfl
  have q2 := (blk_cell H1.out.qb 2).trans rfl
  have q3 := (blk_cell H1.out.qb 3).trans rfl
  have q4 := (blk_cell H1.out.qb 4).trans rfl
  go_upto_region 41 with (fail)
  have HP2 := Aside0.mk (H1.out.put [(⟨#[32, 114, 101, 97, 100, 111, 110, 108, 121]⟩ : ByteArray)] #[.string (⟨#[32, 114, 101, 97, 100, 111, 110, 108, 121]⟩ : ByteArray)] 1 rfl rfl (by have h1 := HLN.out; rw [HT.out] at h1; simp [catB] at h1 ⊢; omega) (by decide))
  go_upto_region 42 with (go_at_fn 50; (with_reducible refine HP2.out.mono ?_); rintro e w1 ⟨rfl, h1⟩; have H2 := Aside0.mk h1; clear h1)
  clear HP2 H1
  clear p0 q0 q1 q2 q3 q4
  have p0 := (blk_cell H2.out.pb 0).trans rfl
  have q0 := (blk_cell H2.out.qb 0).trans rfl
  have q1 := (blk_cell H2.out.qb 1).trans rfl
  have q2 := (blk_cell H2.out.qb 2).trans rfl
  have q3 := (blk_cell H2.out.qb 3).trans rfl
  have q4 := (blk_cell H2.out.qb 4).trans rfl
  have HP3 := Aside0.mk (H2.out.put [(⟨#[59, 10]⟩ : ByteArray)] #[.string (⟨#[59, 10]⟩ : ByteArray)] 1 rfl rfl (by have h1 := HLN.out; rw [HT.out] at h1; simp [catB] at h1 ⊢; omega) (by decide))
  go_wp2_with (go_at_fn 50; (with_reducible refine HP3.out.mono ?_); rintro e w1 ⟨rfl, h1⟩; have H3 := Aside0.mk h1; clear h1)
  refine bodyPost_end (results_none rfl _ _ _) rfl ?_
  have h1 := H3.out.end_
  rw [HT.out]
  simpa [catB] using h1
set_option maxHeartbeats 16000000 in
set_option maxRecDepth 100000 in
theorem wr_export0 (k : Nat) (ih : WrOk k) (w0 w : World) (b : Nat) (n : S25) (A : Option Addr) (c : Nat) (l t : List UInt8) (hI : WrI w0 w b n A c l) (hn2 : -9223372036854775808 ≤ n.f2 ∧ n.f2 ≤ 9223372036854775807) (hl4 : n.f4.length ≤ 1000000) (ho : n.f0.toList = ([101, 120, 112, 111, 114, 116] : List UInt8)) (hf : (n.f2 == 1) = false) (h : t = [101, 120, 112, 111, 114, 116, 32] ++ n.f1.data.toList ++ [] ++ [59, 10]) (hlen : l.length + t.length ≤ 1000000000) :
    Calls Tryd.prog 22 #[.pointer (some ⟨b, 0, none⟩), nodeVal n A c] w (WrP w0.heap.size b (l ++ t) w) := by
  have e0 : (n.f0.toList == ([117, 115, 101] : List UInt8)) = false := by rw [ho]; rfl
  have e1 : (n.f0.toList == ([110, 97, 109, 101] : List UInt8)) = false := by rw [ho]; rfl
  have e2 : (n.f0.toList == ([110, 117, 109] : List UInt8)) = false := by rw [ho]; rfl
  have e3 : (n.f0.toList == ([104, 101, 120] : List UInt8)) = false := by rw [ho]; rfl
  have e4 : (n.f0.toList == ([102, 105, 108, 101] : List UInt8)) = false := by rw [ho]; rfl
  have e5 : (n.f0.toList == ([100, 101, 118, 105, 99, 101] : List UInt8)) = false := by rw [ho]; rfl
  have e6 : (n.f0.toList == ([106, 111, 117, 114, 110, 97, 108] : List UInt8)) = false := by rw [ho]; rfl
  have e7 : (n.f0.toList == ([107, 101, 121] : List UInt8)) = false := by rw [ho]; rfl
  have e8 : (n.f0.toList == ([114, 111, 111, 116] : List UInt8)) = false := by rw [ho]; rfl
  have e9 : (n.f0.toList == ([118, 111, 108, 117, 109, 101] : List UInt8)) = false := by rw [ho]; rfl
  have e10 : (n.f0.toList == ([101, 120, 112, 111, 114, 116] : List UInt8)) = true := by rw [ho]; rfl
  clear ho
  have HI := Aside0.mk hI
  have HS0 := Aside0.mk hI.start
  have HN2 := Aside0.mk hn2
  have HLN := Aside0.mk hlen
  have HIH := Aside0.mk ih
  have HT := Aside0.mk h
  have HL4 := Aside0.mk hl4
  clear hI hn2 hlen ih h hl4
  have hmf : ∀ (fn : Fn) (first cap : Array Value) (w : World), (Instr.makeFunc fn first cap).run Tryd.prog w = .ok (.func fn first cap) w := fun _ _ _ _ => rfl
  have hu25 := Tryd.underlying25
  have hu9 := Tryd.underlying9
  have hu69 := Tryd.underlying69
  have eg : Enters Tryd.prog 50 := enters_of Tryd.func50 (by kernel_rfl) rfl
  unfold Enters at eg
  unfold nodeVal
  go_enter Tryd.func22, Tryd.ntmps22
  go_upto_region 1 with (fail)
  generalize World.alloc (World.alloc w _) _ = W0 at *
  generalize hq_ : w.heap.size + 1 = q at *
  generalize w.heap.size = p at *
  clear hq_
  have HS := HS0
  clear HS0
  have p0 := (blk_cell HS.out.pb 0).trans rfl
  have q0 := (blk_cell HS.out.qb 0).trans rfl
  have q1 := (blk_cell HS.out.qb 1).trans rfl
  have q2 := (blk_cell HS.out.qb 2).trans rfl
  have q3 := (blk_cell HS.out.qb 3).trans rfl
  have q4 := (blk_cell HS.out.qb 4).trans rfl
  have HP1 := Aside0.mk (HS.out.put [(⟨#[101, 120, 112, 111, 114, 116, 32]⟩ : ByteArray), n.f1] #[.string (⟨#[101, 120, 112, 111, 114, 116, 32]⟩ : ByteArray), .string n.f1] 2 rfl rfl (by have h1 := HLN.out; rw [HT.out] at h1; simp [catB] at h1 ⊢; omega) (by decide))
  go_upto_region 40 with (go_at_fn 50; (with_reducible refine HP1.out.mono ?_); rintro e w1 ⟨rfl, h1⟩; have H1 := Aside0.mk h1; clear h1)
  clear HP1 HS
  clear p0 q0 q1 q2 q3 q4
  have p0 := (blk_cell H1.out.pb 0).trans rfl
  have q0 := (blk_cell H1.out.qb 0).trans rfl
  have q1 := (blk_cell H1.out.qb 1).trans rfl
  have q2 := (blk_cell H1.out.qb 2).trans rfl
  have q3 := (blk_cell H1.out.qb 3).trans rfl
  have q4 := (blk_cell H1.out.qb 4).trans rfl
  go_upto_region 42 with (fail)
  have HP3 := Aside0.mk (H1.out.put [(⟨#[59, 10]⟩ : ByteArray)] #[.string (⟨#[59, 10]⟩ : ByteArray)] 1 rfl rfl (by have h1 := HLN.out; rw [HT.out] at h1; simp [catB] at h1 ⊢; omega) (by decide))
  go_wp2_with (go_at_fn 50; (with_reducible refine HP3.out.mono ?_); rintro e w1 ⟨rfl, h1⟩; have H3 := Aside0.mk h1; clear h1)
  refine bodyPost_end (results_none rfl _ _ _) rfl ?_
  have h1 := H3.out.end_
  rw [HT.out]
  simpa [catB] using h1
set_option maxHeartbeats 16000000 in
set_option maxRecDepth 100000 in
theorem wr_root (k : Nat) (ih : WrOk k) (w0 w : World) (b : Nat) (n : S25) (A : Option Addr) (c : Nat) (l t : List UInt8) (hI : WrI w0 w b n A c l) (hn2 : -9223372036854775808 ≤ n.f2 ∧ n.f2 ≤ 9223372036854775807) (hl4 : n.f4.length ≤ 1000000) (ho : n.f0.toList = ([114, 111, 111, 116] : List UInt8)) (tx : List UInt8) (hw : headW (writeT k) n.f4 = some tx) (h : t = n.f0.data.toList ++ [32] ++ n.f1.data.toList ++ [32] ++ tx ++ [59, 10]) (hlen : l.length + t.length ≤ 1000000000) :
    Calls Tryd.prog 22 #[.pointer (some ⟨b, 0, none⟩), nodeVal n A c] w (WrP w0.heap.size b (l ++ t) w) := by
  have e0 : (n.f0.toList == ([117, 115, 101] : List UInt8)) = false := by rw [ho]; rfl
  have e1 : (n.f0.toList == ([110, 97, 109, 101] : List UInt8)) = false := by rw [ho]; rfl
  have e2 : (n.f0.toList == ([110, 117, 109] : List UInt8)) = false := by rw [ho]; rfl
  have e3 : (n.f0.toList == ([104, 101, 120] : List UInt8)) = false := by rw [ho]; rfl
  have e4 : (n.f0.toList == ([102, 105, 108, 101] : List UInt8)) = false := by rw [ho]; rfl
  have e5 : (n.f0.toList == ([100, 101, 118, 105, 99, 101] : List UInt8)) = false := by rw [ho]; rfl
  have e6 : (n.f0.toList == ([106, 111, 117, 114, 110, 97, 108] : List UInt8)) = false := by rw [ho]; rfl
  have e7 : (n.f0.toList == ([107, 101, 121] : List UInt8)) = false := by rw [ho]; rfl
  have e8 : (n.f0.toList == ([114, 111, 111, 116] : List UInt8)) = true := by rw [ho]; rfl
  have e9 : (n.f0.toList == ([118, 111, 108, 117, 109, 101] : List UInt8)) = false := by rw [ho]; rfl
  have e10 : (n.f0.toList == ([101, 120, 112, 111, 114, 116] : List UInt8)) = false := by rw [ho]; rfl
  clear ho
  have HI := Aside0.mk hI
  have HS0 := Aside0.mk hI.start
  have HN2 := Aside0.mk hn2
  have HLN := Aside0.mk hlen
  have HIH := Aside0.mk ih
  have HT := Aside0.mk h
  have HL4 := Aside0.mk hl4
  clear hI hn2 hlen ih h hl4
  have hmf : ∀ (fn : Fn) (first cap : Array Value) (w : World), (Instr.makeFunc fn first cap).run Tryd.prog w = .ok (.func fn first cap) w := fun _ _ _ _ => rfl
  have hu25 := Tryd.underlying25
  have hu9 := Tryd.underlying9
  have hu69 := Tryd.underlying69
  have eg : Enters Tryd.prog 50 := enters_of Tryd.func50 (by kernel_rfl) rfl
  unfold Enters at eg
  unfold nodeVal
  go_enter Tryd.func22, Tryd.ntmps22
  go_upto_region 1 with (fail)
  generalize World.alloc (World.alloc w _) _ = W0 at *
  generalize hq_ : w.heap.size + 1 = q at *
  generalize w.heap.size = p at *
  clear hq_
  have HS := HS0
  clear HS0
  have p0 := (blk_cell HS.out.pb 0).trans rfl
  have q0 := (blk_cell HS.out.qb 0).trans rfl
  have q1 := (blk_cell HS.out.qb 1).trans rfl
  have q2 := (blk_cell HS.out.qb 2).trans rfl
  have q3 := (blk_cell HS.out.qb 3).trans rfl
  have q4 := (blk_cell HS.out.qb 4).trans rfl
  have HW := Aside0.mk hw
  clear hw
  have HP1 := Aside0.mk (HS.out.put [n.f0, (⟨#[32]⟩ : ByteArray), n.f1, (⟨#[32]⟩ : ByteArray)] #[.string n.f0, .string (⟨#[32]⟩ : ByteArray), .string n.f1, .string (⟨#[32]⟩ : ByteArray)] 4 rfl rfl (by have h1 := HLN.out; rw [HT.out] at h1; simp [catB] at h1 ⊢; omega) (by decide))
  go_upto_region 32 with (go_at_fn 50; (with_reducible refine HP1.out.mono ?_); rintro e w1 ⟨rfl, h1⟩; have H1 := Aside0.mk h1; clear h1)
  clear HP1 HS
  clear p0 q0 q1 q2 q3 q4
  generalize hw1_ : w1 = W1 at *; clear hw1_
  have HD := Aside0.mk H1.out.drew
  clear H1
  obtain ⟨x, xs, hxs⟩ : ∃ x xs, n.f4 = x :: xs := by cases h : n.f4 with | nil => (have h1 := HW.out; rw [h] at h1; cases h1) | cons x xs => exact ⟨x, xs, rfl⟩
  have HWx := Aside0.mk (show writeT k x = some tx from by have h1 := HW.out; rw [hxs] at h1; exact h1)
  have hlt0 : 0 < n.f4.length := by rw [hxs]; simp
  have hrd : rd_T25 n.f4 0 = x := by rw [hxs]; rfl
  obtain ⟨ad, A4, c4, rfl, y0, y1, y2, y3, y4, hl4, hC4⟩ := at_T25 HI.out.hC 0 (Int.le_refl _) (by omega)
  rw [hrd] at y0 y1 y2 y3 y4 hl4 hC4
  simp only [Int.toNat_zero, Nat.zero_mul, add0] at y0 y1 y2 y3 y4
  have HX := Aside0.mk hxs
  have HRD := Aside0.mk hrd
  have HL4x := Aside0.mk hl4
  have HC4x := Aside0.mk hC4
  clear hxs hrd hl4 hC4
  have hbd := HI.out.bel.trans HD.out.fr.1
  replace y0 := pw_cell_below hbd y0
  replace y1 := pw_cell_below hbd y1
  replace y2 := pw_cell_below hbd y2
  replace y3 := pw_cell_below hbd y3
  replace y4 := pw_cell_below hbd y4
  have HBD := Aside0.mk hbd
  clear hbd
  have p0 := (blk_cell HD.out.pb 0).trans rfl
  have q4 := (blk_cell HD.out.qb 4).trans rfl
  refine start_ (n := 6) (S := fun w' => w'.cell? ⟨p, 0, none⟩ = some (.pointer (some ⟨b, 0, none⟩)) ∧ w'.cell? ⟨q, 4, none⟩ = some (.slice (some ad) n.f4.length c) ∧ w'.cell? ad = some (.string x.f0) ∧ w'.cell? ⟨ad.block, ad.off + 1, none⟩ = some (.string x.f1) ∧ w'.cell? ⟨ad.block, ad.off + 2, none⟩ = some (.int .i64 x.f2) ∧ w'.cell? ⟨ad.block, ad.off + 3, none⟩ = some (.int .i64 x.f3) ∧ w'.cell? ⟨ad.block, ad.off + 4, none⟩ = some (.slice A4 x.f4.length c4)) (ds := [5]) #[false, false, false, false, false, false] (by kernel_rfl) rfl rfl ?hS (fun hHeld => ?_)
  case hS => exact ⟨p0, q4, y0, y1, y2, y3, y4⟩
  generalize World.drew W1 = Wd at *
  refine pure_ (i := 1) (N := some 97) (v := ?_) (a' := ?_) #[false, true, false, false, false, false] rfl rfl (by kernel_rfl) (fun _ _ _ h => h) (Or.inl ⟨by rfl, ?_⟩) ?_ ?_
  rotate_left
  · intro w'
    go_simp
    with_reducible rfl
  rotate_left
  · simp only [Act.put, List.setIfInBounds_toArray, List.set_cons_zero, List.set_cons_succ, i64_w, i32_w]
    rfl
  refine take_ (i := 0) (N := some 96) (v := ?_) (a' := ?_) #[true, true, false, false, false, false] rfl rfl (by kernel_rfl) (fun _ _ _ h => h) (Or.inl ⟨by rfl, ?_⟩) hHeld ?_ ?_
  rotate_left
  · rintro w' ⟨s0, s1, s2, s3, s4, s5, s6⟩
    go_simp
    with_reducible rfl
  rotate_left
  · simp only [Act.put, List.setIfInBounds_toArray, List.set_cons_zero, List.set_cons_succ, i64_w, i32_w]
    rfl
  refine take_ (i := 2) (N := some 98) (v := ?_) (a' := ?_) #[true, true, true, false, false, false] rfl rfl (by kernel_rfl) (fun _ _ _ h => h) (Or.inl ⟨by rfl, ?_⟩) hHeld ?_ ?_
  rotate_left
  · rintro w' ⟨s0, s1, s2, s3, s4, s5, s6⟩
    go_simp
    with_reducible rfl
  rotate_left
  · simp only [Act.put, List.setIfInBounds_toArray, List.set_cons_zero, List.set_cons_succ, i64_w, i32_w]
    rfl
  refine pure_ (i := 3) (N := some 99) (v := ?_) (a' := ?_) #[true, true, true, true, false, false] rfl rfl (by kernel_rfl) (fun _ _ _ h => h) (Or.inl ⟨by rfl, ?_⟩) ?_ ?_
  rotate_left
  · intro w'
    go_simp
    with_reducible rfl
  rotate_left
  · simp only [Act.put, List.setIfInBounds_toArray, List.set_cons_zero, List.set_cons_succ, i64_w, i32_w]
    rfl
  refine take_ (i := 4) (N := some 100) (v := ?_) (a' := ?_) #[true, true, true, true, true, false] rfl rfl (by kernel_rfl) (fun _ _ _ h => h) (Or.inl ⟨by rfl, ?_⟩) hHeld ?_ ?_
  rotate_left
  · rintro w' ⟨s0, s1, s2, s3, s4, s5, s6⟩
    go_simp
    with_reducible rfl
  rotate_left
  · simp only [Act.put, List.setIfInBounds_toArray, List.set_cons_zero, List.set_cons_succ, i64_w, i32_w]
    rfl
  refine last_ (i := 5) (N := some 101) #[true, true, true, true, true, true] rfl rfl (by kernel_rfl) (by decide) (fun K hK => ?_)
  refine goes_ Tryd.func22 (by kernel_rfl) rfl #[.pointer (some ⟨b, 0, none⟩), nodeVal x A4 c4] (by rfl) rfl rfl (by first | rfl | (simp [Act.eval, nodeVal]; done) | (go_simp; done)) ?_
  refine (HIH.out w0 Wd b x A4 c4 _ tx ⟨HBD.out, HD.out.bld, HL4x.out, HC4x.out, HI.out.tab⟩ HWx.out (by have h1 := HLN.out; rw [HT.out] at h1; simp [catB] at h1 ⊢; omega)).mono ?_
  rintro e w2 ⟨rfl, h1, h2⟩
  refine ⟨_, rfl, ?_⟩
  have H2 := Aside0.mk (HD.out.call h1 h2)
  clear h1 h2
  refine hK.out _ _ ?_
  clear hK K
  refine norm_ (a' := ?_) ?_ ?_
  rotate_left
  · show Act.put _ (some 101) _ = _
    simp only [Act.put, List.setIfInBounds_toArray, List.set_cons_zero, List.set_cons_succ, i64_w, i32_w]
    rfl
  refine done_ (by kernel_rfl) ?_
  clear hHeld p0 q4 y0 y1 y2 y3 y4 HD HBD
  have p0 := (blk_cell H2.out.pb 0).trans rfl
  have q0 := (blk_cell H2.out.qb 0).trans rfl
  have q1 := (blk_cell H2.out.qb 1).trans rfl
  have q2 := (blk_cell H2.out.qb 2).trans rfl
  have q3 := (blk_cell H2.out.qb 3).trans rfl
  have q4 := (blk_cell H2.out.qb 4).trans rfl
  have HP3 := Aside0.mk (H2.out.put [(⟨#[59, 10]⟩ : ByteArray)] #[.string (⟨#[59, 10]⟩ : ByteArray)] 1 rfl rfl (by have h1 := HLN.out; rw [HT.out] at h1; simp [catB] at h1 ⊢; omega) (by decide))
  go_wp2_with (go_at_fn 50; (with_reducible refine HP3.out.mono ?_); rintro e w1 ⟨rfl, h1⟩; have H3 := Aside0.mk h1; clear h1)
  refine bodyPost_end (results_none rfl _ _ _) rfl ?_
  have h1 := H3.out.end_
  rw [HT.out]
  simpa [catB] using h1
set_option maxHeartbeats 16000000 in
set_option maxRecDepth 100000 in
theorem wr_volume (k : Nat) (ih : WrOk k) (w0 w : World) (b : Nat) (n : S25) (A : Option Addr) (c : Nat) (l t : List UInt8) (hI : WrI w0 w b n A c l) (hn2 : -9223372036854775808 ≤ n.f2 ∧ n.f2 ≤ 9223372036854775807) (hl4 : n.f4.length ≤ 1000000) (ho : n.f0.toList = ([118, 111, 108, 117, 109, 101] : List UInt8)) (tx : List UInt8) (hw : headW (writeT k) n.f4 = some tx) (h : t = [118, 111, 108, 117, 109, 101, 32] ++ n.f1.data.toList ++ [32, 61, 32] ++ tx ++ [59, 10]) (hlen : l.length + t.length ≤ 1000000000) :
    Calls Tryd.prog 22 #[.pointer (some ⟨b, 0, none⟩), nodeVal n A c] w (WrP w0.heap.size b (l ++ t) w) := by
  have e0 : (n.f0.toList == ([117, 115, 101] : List UInt8)) = false := by rw [ho]; rfl
  have e1 : (n.f0.toList == ([110, 97, 109, 101] : List UInt8)) = false := by rw [ho]; rfl
  have e2 : (n.f0.toList == ([110, 117, 109] : List UInt8)) = false := by rw [ho]; rfl
  have e3 : (n.f0.toList == ([104, 101, 120] : List UInt8)) = false := by rw [ho]; rfl
  have e4 : (n.f0.toList == ([102, 105, 108, 101] : List UInt8)) = false := by rw [ho]; rfl
  have e5 : (n.f0.toList == ([100, 101, 118, 105, 99, 101] : List UInt8)) = false := by rw [ho]; rfl
  have e6 : (n.f0.toList == ([106, 111, 117, 114, 110, 97, 108] : List UInt8)) = false := by rw [ho]; rfl
  have e7 : (n.f0.toList == ([107, 101, 121] : List UInt8)) = false := by rw [ho]; rfl
  have e8 : (n.f0.toList == ([114, 111, 111, 116] : List UInt8)) = false := by rw [ho]; rfl
  have e9 : (n.f0.toList == ([118, 111, 108, 117, 109, 101] : List UInt8)) = true := by rw [ho]; rfl
  have e10 : (n.f0.toList == ([101, 120, 112, 111, 114, 116] : List UInt8)) = false := by rw [ho]; rfl
  clear ho
  have HI := Aside0.mk hI
  have HS0 := Aside0.mk hI.start
  have HN2 := Aside0.mk hn2
  have HLN := Aside0.mk hlen
  have HIH := Aside0.mk ih
  have HT := Aside0.mk h
  have HL4 := Aside0.mk hl4
  clear hI hn2 hlen ih h hl4
  have hmf : ∀ (fn : Fn) (first cap : Array Value) (w : World), (Instr.makeFunc fn first cap).run Tryd.prog w = .ok (.func fn first cap) w := fun _ _ _ _ => rfl
  have hu25 := Tryd.underlying25
  have hu9 := Tryd.underlying9
  have hu69 := Tryd.underlying69
  have eg : Enters Tryd.prog 50 := enters_of Tryd.func50 (by kernel_rfl) rfl
  unfold Enters at eg
  unfold nodeVal
  go_enter Tryd.func22, Tryd.ntmps22
  go_upto_region 1 with (fail)
  generalize World.alloc (World.alloc w _) _ = W0 at *
  generalize hq_ : w.heap.size + 1 = q at *
  generalize w.heap.size = p at *
  clear hq_
  have HS := HS0
  clear HS0
  have p0 := (blk_cell HS.out.pb 0).trans rfl
  have q0 := (blk_cell HS.out.qb 0).trans rfl
  have q1 := (blk_cell HS.out.qb 1).trans rfl
  have q2 := (blk_cell HS.out.qb 2).trans rfl
  have q3 := (blk_cell HS.out.qb 3).trans rfl
  have q4 := (blk_cell HS.out.qb 4).trans rfl
  have HW := Aside0.mk hw
  clear hw
  have HP1 := Aside0.mk (HS.out.put [(⟨#[118, 111, 108, 117, 109, 101, 32]⟩ : ByteArray), n.f1, (⟨#[32, 61, 32]⟩ : ByteArray)] #[.string (⟨#[118, 111, 108, 117, 109, 101, 32]⟩ : ByteArray), .string n.f1, .string (⟨#[32, 61, 32]⟩ : ByteArray)] 3 rfl rfl (by have h1 := HLN.out; rw [HT.out] at h1; simp [catB] at h1 ⊢; omega) (by decide))
  go_upto_region 36 with (go_at_fn 50; (with_reducible refine HP1.out.mono ?_); rintro e w1 ⟨rfl, h1⟩; have H1 := Aside0.mk h1; clear h1)
  clear HP1 HS
  clear p0 q0 q1 q2 q3 q4
  generalize hw1_ : w1 = W1 at *; clear hw1_
  have HD := Aside0.mk H1.out.drew
  clear H1
  obtain ⟨x, xs, hxs⟩ : ∃ x xs, n.f4 = x :: xs := by cases h : n.f4 with | nil => (have h1 := HW.out; rw [h] at h1; cases h1) | cons x xs => exact ⟨x, xs, rfl⟩
  have HWx := Aside0.mk (show writeT k x = some tx from by have h1 := HW.out; rw [hxs] at h1; exact h1)
  have hlt0 : 0 < n.f4.length := by rw [hxs]; simp
  have hrd : rd_T25 n.f4 0 = x := by rw [hxs]; rfl
  obtain ⟨ad, A4, c4, rfl, y0, y1, y2, y3, y4, hl4, hC4⟩ := at_T25 HI.out.hC 0 (Int.le_refl _) (by omega)
  rw [hrd] at y0 y1 y2 y3 y4 hl4 hC4
  simp only [Int.toNat_zero, Nat.zero_mul, add0] at y0 y1 y2 y3 y4
  have HX := Aside0.mk hxs
  have HRD := Aside0.mk hrd
  have HL4x := Aside0.mk hl4
  have HC4x := Aside0.mk hC4
  clear hxs hrd hl4 hC4
  have hbd := HI.out.bel.trans HD.out.fr.1
  replace y0 := pw_cell_below hbd y0
  replace y1 := pw_cell_below hbd y1
  replace y2 := pw_cell_below hbd y2
  replace y3 := pw_cell_below hbd y3
  replace y4 := pw_cell_below hbd y4
  have HBD := Aside0.mk hbd
  clear hbd
  have p0 := (blk_cell HD.out.pb 0).trans rfl
  have q4 := (blk_cell HD.out.qb 4).trans rfl
  refine start_ (n := 6) (S := fun w' => w'.cell? ⟨p, 0, none⟩ = some (.pointer (some ⟨b, 0, none⟩)) ∧ w'.cell? ⟨q, 4, none⟩ = some (.slice (some ad) n.f4.length c) ∧ w'.cell? ad = some (.string x.f0) ∧ w'.cell? ⟨ad.block, ad.off + 1, none⟩ = some (.string x.f1) ∧ w'.cell? ⟨ad.block, ad.off + 2, none⟩ = some (.int .i64 x.f2) ∧ w'.cell? ⟨ad.block, ad.off + 3, none⟩ = some (.int .i64 x.f3) ∧ w'.cell? ⟨ad.block, ad.off + 4, none⟩ = some (.slice A4 x.f4.length c4)) (ds := [5]) #[false, false, false, false, false, false] (by kernel_rfl) rfl rfl ?hS (fun hHeld => ?_)
  case hS => exact ⟨p0, q4, y0, y1, y2, y3, y4⟩
  generalize World.drew W1 = Wd at *
  refine pure_ (i := 1) (N := some 113) (v := ?_) (a' := ?_) #[false, true, false, false, false, false] rfl rfl (by kernel_rfl) (fun _ _ _ h => h) (Or.inl ⟨by rfl, ?_⟩) ?_ ?_
  rotate_left
  · intro w'
    go_simp
    with_reducible rfl
  rotate_left
  · simp only [Act.put, List.setIfInBounds_toArray, List.set_cons_zero, List.set_cons_succ, i64_w, i32_w]
    rfl
  refine take_ (i := 0) (N := some 112) (v := ?_) (a' := ?_) #[true, true, false, false, false, false] rfl rfl (by kernel_rfl) (fun _ _ _ h => h) (Or.inl ⟨by rfl, ?_⟩) hHeld ?_ ?_
  rotate_left
  · rintro w' ⟨s0, s1, s2, s3, s4, s5, s6⟩
    go_simp
    with_reducible rfl
  rotate_left
  · simp only [Act.put, List.setIfInBounds_toArray, List.set_cons_zero, List.set_cons_succ, i64_w, i32_w]
    rfl
  refine take_ (i := 2) (N := some 114) (v := ?_) (a' := ?_) #[true, true, true, false, false, false] rfl rfl (by kernel_rfl) (fun _ _ _ h => h) (Or.inl ⟨by rfl, ?_⟩) hHeld ?_ ?_
  rotate_left
  · rintro w' ⟨s0, s1, s2, s3, s4, s5, s6⟩
    go_simp
    with_reducible rfl
  rotate_left
  · simp only [Act.put, List.setIfInBounds_toArray, List.set_cons_zero, List.set_cons_succ, i64_w, i32_w]
    rfl
  refine pure_ (i := 3) (N := some 115) (v := ?_) (a' := ?_) #[true, true, true, true, false, false] rfl rfl (by kernel_rfl) (fun _ _ _ h => h) (Or.inl ⟨by rfl, ?_⟩) ?_ ?_
  rotate_left
  · intro w'
    go_simp
    with_reducible rfl
  rotate_left
  · simp only [Act.put, List.setIfInBounds_toArray, List.set_cons_zero, List.set_cons_succ, i64_w, i32_w]
    rfl
  refine take_ (i := 4) (N := some 116) (v := ?_) (a' := ?_) #[true, true, true, true, true, false] rfl rfl (by kernel_rfl) (fun _ _ _ h => h) (Or.inl ⟨by rfl, ?_⟩) hHeld ?_ ?_
  rotate_left
  · rintro w' ⟨s0, s1, s2, s3, s4, s5, s6⟩
    go_simp
    with_reducible rfl
  rotate_left
  · simp only [Act.put, List.setIfInBounds_toArray, List.set_cons_zero, List.set_cons_succ, i64_w, i32_w]
    rfl
  refine last_ (i := 5) (N := some 117) #[true, true, true, true, true, true] rfl rfl (by kernel_rfl) (by decide) (fun K hK => ?_)
  refine goes_ Tryd.func22 (by kernel_rfl) rfl #[.pointer (some ⟨b, 0, none⟩), nodeVal x A4 c4] (by rfl) rfl rfl (by first | rfl | (simp [Act.eval, nodeVal]; done) | (go_simp; done)) ?_
  refine (HIH.out w0 Wd b x A4 c4 _ tx ⟨HBD.out, HD.out.bld, HL4x.out, HC4x.out, HI.out.tab⟩ HWx.out (by have h1 := HLN.out; rw [HT.out] at h1; simp [catB] at h1 ⊢; omega)).mono ?_
  rintro e w2 ⟨rfl, h1, h2⟩
  refine ⟨_, rfl, ?_⟩
  have H2 := Aside0.mk (HD.out.call h1 h2)
  clear h1 h2
  refine hK.out _ _ ?_
  clear hK K
  refine norm_ (a' := ?_) ?_ ?_
  rotate_left
  · show Act.put _ (some 117) _ = _
    simp only [Act.put, List.setIfInBounds_toArray, List.set_cons_zero, List.set_cons_succ, i64_w, i32_w]
    rfl
  refine done_ (by kernel_rfl) ?_
  clear hHeld p0 q4 y0 y1 y2 y3 y4 HD HBD
  have p0 := (blk_cell H2.out.pb 0).trans rfl
  have q0 := (blk_cell H2.out.qb 0).trans rfl
  have q1 := (blk_cell H2.out.qb 1).trans rfl
  have q2 := (blk_cell H2.out.qb 2).trans rfl
  have q3 := (blk_cell H2.out.qb 3).trans rfl
  have q4 := (blk_cell H2.out.qb 4).trans rfl
  have HP3 := Aside0.mk (H2.out.put [(⟨#[59, 10]⟩ : ByteArray)] #[.string (⟨#[59, 10]⟩ : ByteArray)] 1 rfl rfl (by have h1 := HLN.out; rw [HT.out] at h1; simp [catB] at h1 ⊢; omega) (by decide))
  go_wp2_with (go_at_fn 50; (with_reducible refine HP3.out.mono ?_); rintro e w1 ⟨rfl, h1⟩; have H3 := Aside0.mk h1; clear h1)
  refine bodyPost_end (results_none rfl _ _ _) rfl ?_
  have h1 := H3.out.end_
  rw [HT.out]
  simpa [catB] using h1
set_option maxHeartbeats 16000000 in
set_option maxRecDepth 100000 in
theorem wr_target (k : Nat) (ih : WrOk k) (w0 w : World) (b : Nat) (n : S25) (A : Option Addr) (c : Nat) (l t : List UInt8) (hI : WrI w0 w b n A c l) (hn2 : -9223372036854775808 ≤ n.f2 ∧ n.f2 ≤ 9223372036854775807) (hl4 : n.f4.length ≤ 1000000) (hn0 : ¬ n.f0.toList = ([117, 115, 101] : List UInt8)) (hn1 : ¬ n.f0.toList = ([110, 97, 109, 101] : List UInt8)) (hn2 : ¬ n.f0.toList = ([110, 117, 109] : List UInt8)) (hn3 : ¬ n.f0.toList = ([104, 101, 120] : List UInt8)) (hn4 : ¬ n.f0.toList = ([102, 105, 108, 101] : List UInt8)) (hn5 : ¬ n.f0.toList = ([100, 101, 118, 105, 99, 101] : List UInt8)) (hn6 : ¬ n.f0.toList = ([106, 111, 117, 114, 110, 97, 108] : List UInt8)) (hn7 : ¬ n.f0.toList = ([107, 101, 121] : List UInt8)) (hn8 : ¬ n.f0.toList = ([114, 111, 111, 116] : List UInt8)) (hn9 : ¬ n.f0.toList = ([118, 111, 108, 117, 109, 101] : List UInt8)) (hn10 : ¬ n.f0.toList = ([101, 120, 112, 111, 114, 116] : List UInt8)) (tx0 : List UInt8) (hs : sepW (writeT k) true n.f4 = some tx0) (h : t = n.f0.data.toList ++ [40] ++ tx0 ++ [41]) (hlen : l.length + t.length ≤ 1000000000) :
    Calls Tryd.prog 22 #[.pointer (some ⟨b, 0, none⟩), nodeVal n A c] w (WrP w0.heap.size b (l ++ t) w) := by
  have e0 : (n.f0.toList == ([117, 115, 101] : List UInt8)) = false := beq_eq_false_iff_ne.2 hn0
  have e1 : (n.f0.toList == ([110, 97, 109, 101] : List UInt8)) = false := beq_eq_false_iff_ne.2 hn1
  have e2 : (n.f0.toList == ([110, 117, 109] : List UInt8)) = false := beq_eq_false_iff_ne.2 hn2
  have e3 : (n.f0.toList == ([104, 101, 120] : List UInt8)) = false := beq_eq_false_iff_ne.2 hn3
  have e4 : (n.f0.toList == ([102, 105, 108, 101] : List UInt8)) = false := beq_eq_false_iff_ne.2 hn4
  have e5 : (n.f0.toList == ([100, 101, 118, 105, 99, 101] : List UInt8)) = false := beq_eq_false_iff_ne.2 hn5
  have e6 : (n.f0.toList == ([106, 111, 117, 114, 110, 97, 108] : List UInt8)) = false := beq_eq_false_iff_ne.2 hn6
  have e7 : (n.f0.toList == ([107, 101, 121] : List UInt8)) = false := beq_eq_false_iff_ne.2 hn7
  have e8 : (n.f0.toList == ([114, 111, 111, 116] : List UInt8)) = false := beq_eq_false_iff_ne.2 hn8
  have e9 : (n.f0.toList == ([118, 111, 108, 117, 109, 101] : List UInt8)) = false := beq_eq_false_iff_ne.2 hn9
  have e10 : (n.f0.toList == ([101, 120, 112, 111, 114, 116] : List UInt8)) = false := beq_eq_false_iff_ne.2 hn10
  clear hn0 hn1 hn2 hn3 hn4 hn5 hn6 hn7 hn8 hn9 hn10
  have HI := Aside0.mk hI
  have HS0 := Aside0.mk hI.start
  have HN2 := Aside0.mk hn2
  have HLN := Aside0.mk hlen
  have HIH := Aside0.mk ih
  have HT := Aside0.mk h
  have HL4 := Aside0.mk hl4
  clear hI hn2 hlen ih h hl4
  have hmf : ∀ (fn : Fn) (first cap : Array Value) (w : World), (Instr.makeFunc fn first cap).run Tryd.prog w = .ok (.func fn first cap) w := fun _ _ _ _ => rfl
  have hu25 := Tryd.underlying25
  have hu9 := Tryd.underlying9
  have hu69 := Tryd.underlying69
  have eg : Enters Tryd.prog 50 := enters_of Tryd.func50 (by kernel_rfl) rfl
  unfold Enters at eg
  unfold nodeVal
  go_enter Tryd.func22, Tryd.ntmps22
  go_upto_region 1 with (fail)
  generalize World.alloc (World.alloc w _) _ = W0 at *
  generalize hq_ : w.heap.size + 1 = q at *
  generalize w.heap.size = p at *
  clear hq_
  have HS := HS0
  clear HS0
  have p0 := (blk_cell HS.out.pb 0).trans rfl
  have q0 := (blk_cell HS.out.qb 0).trans rfl
  have q1 := (blk_cell HS.out.qb 1).trans rfl
  have q2 := (blk_cell HS.out.qb 2).trans rfl
  have q3 := (blk_cell HS.out.qb 3).trans rfl
  have q4 := (blk_cell HS.out.qb 4).trans rfl
  have HSP := Aside0.mk hs
  clear hs
  have HP1 := Aside0.mk (HS.out.put [n.f0, (⟨#[40]⟩ : ByteArray)] #[.string n.f0, .string (⟨#[40]⟩ : ByteArray)] 2 rfl rfl (by have h1 := HLN.out; rw [HT.out] at h1; simp [catB] at h1 ⊢; omega) (by decide))
  go_upto_region 18 with (go_at_fn 50; (with_reducible refine HP1.out.mono ?_); rintro e w1 ⟨rfl, h1⟩; have H1 := Aside0.mk h1; clear h1)
  clear HP1 HS
  clear p0 q0 q1 q2 q3 q4
  generalize hl_ : l ++ catB [n.f0, (⟨#[40]⟩ : ByteArray)] = l1 at H1
  have HL1 := Aside0.mk hl_
  clear hl_
  have p0 := (blk_cell H1.out.pb 0).trans rfl
  have q0 := (blk_cell H1.out.qb 0).trans rfl
  have q1 := (blk_cell H1.out.qb 1).trans rfl
  have q2 := (blk_cell H1.out.qb 2).trans rfl
  have q3 := (blk_cell H1.out.qb 3).trans rfl
  have q4 := (blk_cell H1.out.qb 4).trans rfl
  go_wp2_with (fail)
  go_loopw [56] (fun i wr => ∃ j : Nat, j ≤ n.f4.length ∧ i = .int .i64 j ∧ Aside0 (SepS (writeT k) w0.heap.size b p q n A c l1 tx0 w wr j)) (fun i _ => n.f4.length - (intOf i).toNat)
  case atStart => exact ⟨0, Nat.zero_le _, rfl, ⟨[], tx0, by simpa using H1.out, HSP.out, rfl⟩⟩
  case round =>
    clear p0 q0 q1 q2 q3 q4
    clear H1
    obtain ⟨j, hj, rfl, HC⟩ := hrel
    obtain ⟨dn, u, hS, hu, hdu⟩ := HC.out
    have HS := Aside0.mk hS
    have HDU := Aside0.mk hdu
    clear hS hdu HC
    have HLT := Aside0.mk (show l1.length + tx0.length + 1 ≤ 1000000000 from by have h1 := HLN.out; rw [HT.out] at h1; rw [← HL1.out]; simp [catB] at h1 ⊢; omega)
    have p0 := (blk_cell HS.out.pb 0).trans rfl
    have q0 := (blk_cell HS.out.qb 0).trans rfl
    have q1 := (blk_cell HS.out.qb 1).trans rfl
    have q2 := (blk_cell HS.out.qb 2).trans rfl
    have q3 := (blk_cell HS.out.qb 3).trans rfl
    have q4 := (blk_cell HS.out.qb 4).trans rfl
    by_cases hlt : j < n.f4.length
    · skip
      obtain ⟨tx, u', htx, hu', hue⟩ := sep_inv hu hlt
      have HTX := Aside0.mk htx
      have HU := Aside0.mk hu'
      have HUE := Aside0.mk hue
      clear htx hu' hue hu
      obtain ⟨ad, A4, c4, hA, y0, y1, y2, y3, y4, hl4, hC4⟩ := at_T25 HI.out.hC (j : Int) (by omega) (by omega)
      simp only [Int.toNat_natCast] at y0 y1 y2 y3 y4
      generalize hrd : rd_T25 n.f4 (j : Int) = x at *
      clear hrd
      have HL4x := Aside0.mk hl4
      have HC4x := Aside0.mk hC4
      clear hl4 hC4
      have hbd := HI.out.bel.trans HS.out.fr.1
      replace y0 := pw_cell_below hbd y0
      replace y1 := pw_cell_below hbd y1
      replace y2 := pw_cell_below hbd y2
      replace y3 := pw_cell_below hbd y3
      replace y4 := pw_cell_below hbd y4
      clear hbd
      subst hA
      have pl : (0 ≤ (j : Int)) = True := eq_true (by omega)
      have ql : ((j : Int) < (n.f4.length : Int)) = True := eq_true (by omega)
      have ql2 : (j < n.f4.length) = True := eq_true hlt
      have hl4 := HL4.out
      have hj6 : (j : Int) ≤ 1000000 := by omega
      go_upto_region 21 with (fail)
      generalize hW : World.alloc wr _ = W1
      have HS1 := Aside0.mk (show WrS w0.heap.size b p q n (some ad) c (l1 ++ dn) w W1 from by rw [← hW]; exact HS.out.alloc _)
      have NB := Aside0.mk (show W1.heap[wr.heap.size]? = some (.cells #[.string x.f0, .string x.f1, .int .i64 x.f2, .int .i64 x.f3, .slice A4 x.f4.length c4] 25 (0, 0)) from by rw [← hW]; exact blk_new _ _)
      clear hW y0 y1 y2 y3 y4 pl ql ql2
      clear p0 q0 q1 q2 q3 q4
      by_cases hj0 : j = 0
      · skip
        have d0 : decide ((j : Int) > 0) = false := decide_eq_false (by omega)
        have d0' : decide (0 < (j : Int)) = false := decide_eq_false (by omega)
        have d0n : decide (0 < j) = false := decide_eq_false (by omega)
        have HJ0 := Aside0.mk (show (if decide (j = 0) = true then ([] : List UInt8) else [44, 32]) = [] from by rw [if_pos (decide_eq_true hj0)])
        have HJZ := Aside0.mk hj0
        clear hj0
        have hcall := HIH.out w0 W1 b x A4 c4 (l1 ++ dn) tx ⟨HI.out.bel.trans HS1.out.fr.1, HS1.out.bld, HL4x.out, HC4x.out, HI.out.tab⟩ HTX.out (by have h1 := HLT.out; rw [← HDU.out, HUE.out, HJ0.out] at h1; simp at h1 ⊢; omega)
        unfold nodeVal at hcall
        have HCALL := Aside0.mk hcall
        clear hcall
        have p0 := (blk_cell HS1.out.pb 0).trans rfl
        have q0 := (blk_cell HS1.out.qb 0).trans rfl
        have q1 := (blk_cell HS1.out.qb 1).trans rfl
        have q2 := (blk_cell HS1.out.qb 2).trans rfl
        have q3 := (blk_cell HS1.out.qb 3).trans rfl
        have q4 := (blk_cell HS1.out.qb 4).trans rfl
        have z0 := (blk_cell NB.out 0).trans rfl
        have z1 := (blk_cell NB.out 1).trans rfl
        have z2 := (blk_cell NB.out 2).trans rfl
        have z3 := (blk_cell NB.out 3).trans rfl
        have z4 := (blk_cell NB.out 4).trans rfl
        go_wp2_with (go_at_call 22; (with_reducible refine HCALL.out.mono ?_); rintro e w2 ⟨rfl, h1, h2⟩; have H2 := Aside0.mk (HS1.out.call h1 h2); clear h1 h2)
        go_roundw
        case rel => exact ⟨j + 1, by omega, by go_num, ⟨dn ++ tx, u', by simpa [List.append_assoc] using H2.out, by rw [show decide (j + 1 = 0) = false by simp]; exact HU.out, by rw [← HDU.out, HUE.out, HJ0.out]; simp [List.append_assoc]⟩⟩
        case measure => simp [intOf]; omega
      have d0 : decide ((j : Int) > 0) = true := decide_eq_true (by omega)
      have d0' : decide (0 < (j : Int)) = true := decide_eq_true (by omega)
      have d0n : decide (0 < j) = true := decide_eq_true (by omega)
      have HJ0 := Aside0.mk (show (if decide (j = 0) = true then ([] : List UInt8) else [44, 32]) = [44, 32] from by rw [if_neg (by simpa using hj0)])
      clear hj0
      have p0 := (blk_cell HS1.out.pb 0).trans rfl
      have q0 := (blk_cell HS1.out.qb 0).trans rfl
      have q1 := (blk_cell HS1.out.qb 1).trans rfl
      have q2 := (blk_cell HS1.out.qb 2).trans rfl
      have q3 := (blk_cell HS1.out.qb 3).trans rfl
      have q4 := (blk_cell HS1.out.qb 4).trans rfl
      have HP2 := Aside0.mk (HS1.out.put2 [(⟨#[44, 32]⟩ : ByteArray)] #[.string (⟨#[44, 32]⟩ : ByteArray)] 1 rfl rfl (by have h1 := HLT.out; rw [← HDU.out, HUE.out, HJ0.out] at h1; simp [catB] at h1 ⊢; omega) (by decide))
      have NBZ := Aside0.mk (fun (w' : World) (h : Fr w0.heap.size b W1 w') => h.blk NB.out (fun e => by obtain ⟨cs, hc⟩ := HS1.out.bld.typ; exact blk_ne NB.out hc (by decide) e) (by decide))
      go_upto_region 23 with (go_at_fn 50; (with_reducible refine HP2.out.mono ?_); rintro e w1 ⟨rfl, h1, hf1⟩; have H1 := Aside0.mk h1; have NB1 := Aside0.mk (NBZ.out _ hf1); clear h1 hf1)
      clear NB NBZ
      have NB := NB1
      clear NB1
      clear p0 q0 q1 q2 q3 q4
      have H1b := Aside0.mk (show WrS w0.heap.size b p q n (some ad) c (l1 ++ (dn ++ [44, 32])) w w1 from by have h1 := H1.out; simpa [catB, List.append_assoc] using h1)
      clear H1
      have hcall := HIH.out w0 w1 b x A4 c4 (l1 ++ (dn ++ [44, 32])) tx ⟨HI.out.bel.trans H1b.out.fr.1, H1b.out.bld, HL4x.out, HC4x.out, HI.out.tab⟩ HTX.out (by have h1 := HLT.out; rw [← HDU.out, HUE.out, HJ0.out] at h1; simp at h1 ⊢; omega)
      unfold nodeVal at hcall
      have HCALL := Aside0.mk hcall
      clear hcall
      have p0 := (blk_cell H1b.out.pb 0).trans rfl
      have q0 := (blk_cell H1b.out.qb 0).trans rfl
      have q1 := (blk_cell H1b.out.qb 1).trans rfl
      have q2 := (blk_cell H1b.out.qb 2).trans rfl
      have q3 := (blk_cell H1b.out.qb 3).trans rfl
      have q4 := (blk_cell H1b.out.qb 4).trans rfl
      have z0 := (blk_cell NB.out 0).trans rfl
      have z1 := (blk_cell NB.out 1).trans rfl
      have z2 := (blk_cell NB.out 2).trans rfl
      have z3 := (blk_cell NB.out 3).trans rfl
      have z4 := (blk_cell NB.out 4).trans rfl
      go_wp2_with (go_at_call 22; (with_reducible refine HCALL.out.mono ?_); rintro e w2 ⟨rfl, h1, h2⟩; have H2 := Aside0.mk (H1b.out.call h1 h2); clear h1 h2)
      go_roundw
      case rel => exact ⟨j + 1, by omega, by go_num, ⟨dn ++ [44, 32] ++ tx, u', by simpa [List.append_assoc] using H2.out, by rw [show decide (j + 1 = 0) = false by simp]; exact HU.out, by rw [← HDU.out, HUE.out, HJ0.out]; simp [List.append_assoc]⟩⟩
      case measure => simp [intOf]; omega
    have hje : j = n.f4.length := by omega
    subst hje
    rw [List.drop_eq_nil_of_le (Nat.le_refl _)] at hu
    cases hu
    have h2 := HDU.out
    rw [List.append_nil] at h2
    have HS9 := Aside0.mk (show WrS w0.heap.size b p q n A c (l1 ++ tx0) w wr from by rw [← h2]; exact HS.out)
    clear h2
    have HP9 := Aside0.mk (HS9.out.put [(⟨#[41]⟩ : ByteArray)] #[.string (⟨#[41]⟩ : ByteArray)] 1 rfl rfl (by have h1 := HLT.out; simp [catB] at h1 ⊢; omega) (by decide))
    go_wp2_with (go_at_fn 50; (with_reducible refine HP9.out.mono ?_); rintro e w1 ⟨rfl, h1⟩; have H9 := Aside0.mk h1; clear h1)
    refine bodyPost_end (results_none rfl _ _ _) rfl ?_
    have h1 := H9.out.end_
    rw [HT.out]
    rw [← HL1.out] at h1
    simpa [catB, List.append_assoc] using h1
end Go.Proofs.YtknbfhhmjbnemaaDoor.P
end
