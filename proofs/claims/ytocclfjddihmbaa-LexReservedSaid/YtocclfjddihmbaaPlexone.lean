/- Proved here: what the functions named below compute (or, in a text Law.., that the law holds), at every argument that the theorems' own premises allow. Written by a program of this session over the kit's printer; Lean checks it. -/
import Derived.Test.YtocclfjddihmbaaP0
import Derived.Test.YtocclfjddihmbaaPlexfigure
import Derived.Test.YtocclfjddihmbaaPlexhex
import Derived.Test.YtocclfjddihmbaaPlexletter
import Derived.Shelf.Abstract
namespace Go.Proofs.Ytocclfjddihmbaa.P
open Go.RowKit Go.Proofs.YtocclfjddihmbaaW.PrintWords Go.Proofs.YtocclfjddihmbaaW.PrintLast Go.Proofs.YtocclfjddihmbaaW.PrintMore
attribute [local go_sem] max2_int min2_int max_two min_two max_three min_three max_four min_four   -- for this text's walks alone
set_option linter.unusedVariables false
set_option linter.unusedSimpArgs false

/-! ### lex_one: function 37 -/
-- IMPORTS Derived.Shelf.Abstract
/-- Only block g may have changed. -/
structure Alone (w w' : World) (g : Nat) : Prop where
  keep : KeepBut w w' g none
  os : ∀ B, B ≤ g → Below B w w'
theorem Alone.refl (w : World) (g : Nat) : Alone w w g := ⟨KeepBut.refl _ _ _, fun _ _ => Below.refl _ _⟩
theorem Alone.set {w w1 : World} {g : Nat} (h : Alone w w1 g) (j : Nat) (u : Value) : Alone w (w1.setCell ⟨g, j, none⟩ u) g :=
  ⟨h.keep.set_ j u, fun B hB => (h.os B hB).setCell hB u⟩
theorem Alone.drewN {w w1 : World} {g : Nat} (h : Alone w w1 g) (n : Nat) : Alone w (w1.drewN n) g :=
  ⟨keep_drewN h.keep n, fun B hB => pw_below_drewN (h.os B hB) n⟩
theorem Alone.drew {w w1 : World} {g : Nat} (h : Alone w w1 g) : Alone w w1.drew g :=
  ⟨keep_drew h.keep, fun B hB => below_drew (h.os B hB)⟩
theorem Alone.blk {w w1 : World} {g g' : Nat} {o : Obj} (h : Alone w w1 g) (hb : w.heap[g']? = some o) (hg : g' ≠ g) : w1.heap[g']? = some o := h.keep.blk hb hg (by simp)

def lexEnd (p : Int → Bool) (s : ByteArray) : Nat → Nat → Nat
  | 0, k => k
  | f + 1, k => if k < s.size ∧ p (bt s k) = true then lexEnd p s f (k + 1) else k
theorem lexEnd_le (p : Int → Bool) (s : ByteArray) : ∀ f k, k ≤ s.size → k ≤ lexEnd p s f k ∧ lexEnd p s f k ≤ s.size
  | 0, k, h => ⟨Nat.le_refl _, h⟩
  | f + 1, k, h => by
    unfold lexEnd
    split
    · have := lexEnd_le p s f (k + 1) (by omega)
      omega
    · exact ⟨Nat.le_refl _, h⟩

def callP (g : Nat) (p : Int → Bool) : Prop := ∀ (c : Int) (w : World), Calls Try.prog g #[.int .u8 c] w fun e w' => e = .returned (.bool (p c)) ∧ Drawn0 w w'

set_option maxHeartbeats 1000000 in
set_option maxRecDepth 100000 in
theorem take_calls (g : Nat) (p : Int → Bool) (eg : Enters Try.prog g) (hp : callP g p) (s : ByteArray) (k bk bs : Nat) (w : World) (hk : k ≤ s.size) (hs : s.size ≤ 9223372036854775807)
    (hbk : w.heap[bk]? = some (.cells #[.int .i64 k] 3 (0, 0))) (hbs : w.heap[bs]? = some (.cells #[.string s] 9 (0, 0))) :
    Calls Try.prog 47 #[.func (.func g) #[] #[], .pointer (some ⟨bk, 0, none⟩), .pointer (some ⟨bs, 0, none⟩)] w fun e w' =>
      e = .returned (.string (s.extract k (lexEnd p s (s.size - k) k))) ∧ w'.heap[bk]? = some (.cells #[.int .i64 (lexEnd p s (s.size - k) k : Nat)] 3 (0, 0)) ∧ Alone w w' bk := by
  have hne : bs ≠ bk := blk_ne hbs hbk (by decide)
  have HP := Aside0.mk hp
  unfold Enters at eg
  clear hp
  have hc1 : w.cell? ⟨bk, 0, none⟩ = some (.int .i64 k) := (blk_cell hbk 0).trans rfl
  go_enter Try.func47, Try.ntmps47
  go_wp2
  clear hc1
  go_loopg [] (s.size - k) (fun kx wr => ∃ j : Nat, k ≤ j ∧ j ≤ s.size ∧ s.size - j ≤ kx ∧ Aside0 (wr.heap[bk]? = some (.cells #[.int .i64 j] 3 (0, 0))) ∧ Aside0 (Alone w wr bk) ∧ Aside0 (lexEnd p s (s.size - j) j = lexEnd p s (s.size - k) k))
  case atStart => exact ⟨k, Nat.le_refl _, hk, Nat.le_refl _, ⟨hbk⟩, ⟨Alone.refl _ _⟩, ⟨rfl⟩⟩
  case round =>
    obtain ⟨j, hj, hjs, hg, HB, HA, HE⟩ := hrel
    have hc1 : wr.cell? ⟨bk, 0, none⟩ = some (.int .i64 j) := (blk_cell HB.out 0).trans rfl
    have hc2 : wr.cell? ⟨bs, 0, none⟩ = some (.string s) := (blk_cell (HA.out.blk hbs hne) 0).trans rfl
    have hf1 : wr.frozen? ⟨bk, 0, none⟩ = false := blk_frozen HB.out 0
    by_cases hlt : j < s.size
    · have hd : decide ((j : Int) < (s.size : Int)) = true := by simpa using hlt
      have hd2 : decide (j < s.size) = true := by simpa using hlt
      have hb := bt_at s j (by simpa using hlt)
      simp only [Int.toNat_natCast] at hb
      have HC := HP.out (bt s j)
      cases hpj : p (bt s j)
      · rw [hpj] at HC
        have HC' := Aside0.mk HC
        clear HC
        have HPJ := Aside0.mk hpj
        clear hpj
        go_wp2_with (go_at_fn g; refine (HC'.out _).mono ?_; rintro e w' ⟨rfl, ⟨nd, rfl⟩⟩)
        go_ret
        have hE : j = lexEnd p s (s.size - k) k := by
          rw [← HE.out]
          cases hq : s.size - j with
          | zero => rfl
          | succ m => unfold lexEnd; rw [if_neg (by rw [HPJ.out]; simp)]
        rw [← hE]
        exact ⟨rfl, HB.out, HA.out.drewN nd⟩
      · rw [hpj] at HC
        have HC' := Aside0.mk HC
        clear HC
        have HPJ := Aside0.mk hpj
        clear hpj
        go_wp2_with (go_at_fn g; refine (HC'.out _).mono ?_; rintro e w' ⟨rfl, ⟨nd, rfl⟩⟩)
        go_roundg (s.size - (j + 1))
        case rel => exact ⟨j + 1, by omega, by omega, Nat.le_refl _, ⟨(blk_set (w := wr.drewN nd) HB.out 0 _).trans (by go_num)⟩, ⟨(HA.out.drewN nd).set 0 _⟩, ⟨by
          rw [← HE.out]
          obtain ⟨m, hm⟩ : ∃ m, s.size - j = m + 1 := ⟨s.size - j - 1, by omega⟩
          rw [hm, show s.size - (j + 1) = m by omega]
          conv => rhs; unfold lexEnd
          rw [if_pos ⟨hlt, HPJ.out⟩]⟩⟩
        case measure => omega
    · have hd : decide ((j : Int) < (s.size : Int)) = false := by simpa using hlt
      have hd2 : decide (j < s.size) = false := by simpa using hlt
      go_wp2
      go_ret
      have hE : j = lexEnd p s (s.size - k) k := by
        rw [← HE.out, show s.size - j = 0 by omega]
        rfl
      rw [← hE]
      exact ⟨rfl, HB.out, HA.out⟩

def pLetter (c : Int) : Bool := decide (97 ≤ c) && decide (c ≤ 122)
def pFigure (c : Int) : Bool := decide (48 ≤ c) && decide (c ≤ 57)
def pHex (c : Int) : Bool := pFigure c || (decide (97 ≤ c) && decide (c ≤ 102))
def pWord (c : Int) : Bool := pLetter c || pFigure c || (c == 95)
theorem letter_some (c : Int) : lex_letter.f c = some (pLetter c) := by
  unfold lex_letter.f pLetter
  split
  · rename_i h; simp [show 97 ≤ c from h]
  · rename_i h; simp [show ¬ 97 ≤ c from h]
theorem figure_some (c : Int) : lex_figure.f c = some (pFigure c) := by
  unfold lex_figure.f pFigure
  split
  · rename_i h; simp [show 48 ≤ c from h]
  · rename_i h; simp [show ¬ 48 ≤ c from h]
theorem hex_some (c : Int) : lex_hex.f c = some (pHex c) := by
  unfold lex_hex.f pHex
  rw [figure_some]
  simp only [Option.bind_some]
  split
  · rename_i h; simp [h]
  · rename_i h
    simp only [h, Bool.false_or]
    split
    · rename_i h2; simp [show 97 ≤ c from h2]
    · rename_i h2; simp [show ¬ 97 ≤ c from h2]
theorem letter_calls (c : Int) (w : World) : Calls Try.prog 49 #[.int .u8 c] w fun e w' => e = .returned (.bool (pLetter c)) ∧ Drawn0 w w' := lex_letter.calls c _ w (letter_some c)
theorem figure_calls : callP 51 pFigure := fun c w => lex_figure.calls c _ w (figure_some c)
theorem hex_calls : callP 52 pHex := fun c w => lex_hex.calls c _ w (hex_some c)

set_option maxHeartbeats 1000000 in
theorem word_calls : callP 50 pWord := by
  intro c w
  have HL := letter_calls c
  have HF := figure_calls c
  unfold pWord
  cases hl : pLetter c
  · rw [hl] at HL
    cases hf : pFigure c
    · rw [hf] at HF
      have HL' := Aside0.mk HL
      have HF' := Aside0.mk HF
      clear HL HF hl hf
      go_enter Try.func50, Try.ntmps50
      go_wp2_with (first | (go_at_call 49; refine (HL'.out _).mono ?_; rintro e w' ⟨rfl, ⟨nd, rfl⟩⟩) | (go_at_call 51; refine (HF'.out _).mono ?_; rintro e w' ⟨rfl, ⟨nd2, rfl⟩⟩))
      go_ret
      exact ⟨by simp, by repeat (first | exact Drawn0.refl _ | apply Drawn0.step)⟩
    · rw [hf] at HF
      have HL' := Aside0.mk HL
      have HF' := Aside0.mk HF
      clear HL HF hl hf
      go_enter Try.func50, Try.ntmps50
      go_wp2_with (first | (go_at_call 49; refine (HL'.out _).mono ?_; rintro e w' ⟨rfl, ⟨nd, rfl⟩⟩) | (go_at_call 51; refine (HF'.out _).mono ?_; rintro e w' ⟨rfl, ⟨nd2, rfl⟩⟩))
      go_ret
      exact ⟨by simp, by repeat (first | exact Drawn0.refl _ | apply Drawn0.step)⟩
  · rw [hl] at HL
    have HL' := Aside0.mk HL
    clear HL HF hl
    go_enter Try.func50, Try.ntmps50
    go_wp2_with (first | (go_at_call 49; refine (HL'.out _).mono ?_; rintro e w' ⟨rfl, ⟨nd, rfl⟩⟩))
    go_ret
    exact ⟨by simp, by repeat (first | exact Drawn0.refl _ | apply Drawn0.step)⟩

def pGoes (s : ByteArray) (k : Nat) : Bool := decide (k < s.size) && (pLetter (bt s k) || (bt s k == 95))

set_option maxHeartbeats 1000000 in
theorem goes_calls (s : ByteArray) (k bk bs : Nat) (w : World) (hs : s.size ≤ 9223372036854775807)
    (hbk : w.heap[bk]? = some (.cells #[.int .i64 k] 3 (0, 0))) (hbs : w.heap[bs]? = some (.cells #[.string s] 9 (0, 0))) :
    Calls Try.prog 48 #[.pointer (some ⟨bk, 0, none⟩), .pointer (some ⟨bs, 0, none⟩)] w fun e w' => e = .returned (.bool (pGoes s k)) ∧ Drawn0 w w' := by
  have hc1 : w.cell? ⟨bk, 0, none⟩ = some (.int .i64 k) := (blk_cell hbk 0).trans rfl
  have hc2 : w.cell? ⟨bs, 0, none⟩ = some (.string s) := (blk_cell hbs 0).trans rfl
  clear hbk hbs
  by_cases hlt : k < s.size
  · have hd : decide ((k : Int) < (s.size : Int)) = true := by simpa using hlt
    have hd2 : decide (k < s.size) = true := by simpa using hlt
    have hb := bt_at s k (by simpa using hlt)
    simp only [Int.toNat_natCast] at hb
    have HL := letter_calls (bt s k)
    unfold pGoes
    rw [hd2]
    cases hl : pLetter (bt s k)
    · rw [hl] at HL
      have HL' := Aside0.mk HL
      clear HL hl
      go_enter Try.func48, Try.ntmps48
      go_wp2_with (first | (go_at_call 49; refine (HL'.out _).mono ?_; rintro e w' ⟨rfl, ⟨nd, rfl⟩⟩))
      go_ret
      exact ⟨by simp, by repeat (first | exact Drawn0.refl _ | apply Drawn0.step)⟩
    · rw [hl] at HL
      have HL' := Aside0.mk HL
      clear HL hl
      go_enter Try.func48, Try.ntmps48
      go_wp2_with (first | (go_at_call 49; refine (HL'.out _).mono ?_; rintro e w' ⟨rfl, ⟨nd, rfl⟩⟩))
      go_ret
      exact ⟨by simp, by repeat (first | exact Drawn0.refl _ | apply Drawn0.step)⟩
  · have hd : decide ((k : Int) < (s.size : Int)) = false := by simpa using hlt
    have hd2 : decide (k < s.size) = false := by simpa using hlt
    unfold pGoes
    rw [hd2]
    go_enter Try.func48, Try.ntmps48
    go_wp2
    go_ret
    exact ⟨by simp, by repeat (first | exact Drawn0.refl _ | apply Drawn0.step)⟩

def lexNum (l : List Int) : Int := l.foldl (fun n b => 10 * mn n 1099511627776 + (b - 48)) 0

def lex_one.f (a0 : ByteArray) (a1 : Int) : Option (Int × ByteArray × Int × Int × Int × Int × Int) :=
  if 0 ≤ a1 ∧ a1 < (a0.size : Int) ∧ a0.size ≤ 140737488351232 then
    if pLetter (bt a0 a1) = true then
      if a1.toNat + 16 < lexEnd pWord a0 (a0.size - a1.toNat) a1.toNat then some (0, a0.extract a1.toNat (lexEnd pWord a0 (a0.size - a1.toNat) a1.toNat), 0, a1, (lexEnd pWord a0 (a0.size - a1.toNat) a1.toNat : Nat), 102, a1)
      else some (0, a0.extract a1.toNat (lexEnd pWord a0 (a0.size - a1.toNat) a1.toNat), 0, a1, (lexEnd pWord a0 (a0.size - a1.toNat) a1.toNat : Nat), 0, -1)
    else if pFigure (bt a0 a1) = true then
      if a1.toNat + 9 < lexEnd pFigure a0 (a0.size - a1.toNat) a1.toNat then some (1, ⟨#[]⟩, lexNum (bytesOf (a0.extract a1.toNat (lexEnd pFigure a0 (a0.size - a1.toNat) a1.toNat))), a1, (lexEnd pFigure a0 (a0.size - a1.toNat) a1.toNat : Nat), 102, a1)
      else if pGoes a0 (lexEnd pFigure a0 (a0.size - a1.toNat) a1.toNat) = true then some (1, ⟨#[]⟩, lexNum (bytesOf (a0.extract a1.toNat (lexEnd pFigure a0 (a0.size - a1.toNat) a1.toNat))), a1, (lexEnd pFigure a0 (a0.size - a1.toNat) a1.toNat : Nat), 101, (lexEnd pFigure a0 (a0.size - a1.toNat) a1.toNat : Nat))
      else some (1, ⟨#[]⟩, lexNum (bytesOf (a0.extract a1.toNat (lexEnd pFigure a0 (a0.size - a1.toNat) a1.toNat))), a1, (lexEnd pFigure a0 (a0.size - a1.toNat) a1.toNat : Nat), 0, -1)
    else if bt a0 a1 = 36 then
      if lexEnd pHex a0 (a0.size - (a1.toNat + 1)) (a1.toNat + 1) = a1.toNat + 1 then some (2, ⟨#[]⟩, 0, a1, a1 + 1, 101, a1 + 1)
      else if a1.toNat + 129 < lexEnd pHex a0 (a0.size - (a1.toNat + 1)) (a1.toNat + 1) then some (2, a0.extract (a1.toNat + 1) (lexEnd pHex a0 (a0.size - (a1.toNat + 1)) (a1.toNat + 1)), 0, a1, (lexEnd pHex a0 (a0.size - (a1.toNat + 1)) (a1.toNat + 1) : Nat), 102, a1)
      else if pGoes a0 (lexEnd pHex a0 (a0.size - (a1.toNat + 1)) (a1.toNat + 1)) = true then some (2, a0.extract (a1.toNat + 1) (lexEnd pHex a0 (a0.size - (a1.toNat + 1)) (a1.toNat + 1)), 0, a1, (lexEnd pHex a0 (a0.size - (a1.toNat + 1)) (a1.toNat + 1) : Nat), 101, (lexEnd pHex a0 (a0.size - (a1.toNat + 1)) (a1.toNat + 1) : Nat))
      else some (2, a0.extract (a1.toNat + 1) (lexEnd pHex a0 (a0.size - (a1.toNat + 1)) (a1.toNat + 1)), 0, a1, (lexEnd pHex a0 (a0.size - (a1.toNat + 1)) (a1.toNat + 1) : Nat), 0, -1)
    else if bt a0 a1 = 40 ∨ bt a0 a1 = 41 ∨ bt a0 a1 = 44 ∨ bt a0 a1 = 61 ∨ bt a0 a1 = 59 then some (3, a0.extract a1.toNat (a1.toNat + 1), 0, a1, a1 + 1, 0, -1)
    else some (3, ⟨#[]⟩, 0, a1, a1, 101, a1)
  else none


theorem alloc3_a (w : World) (a b c : Obj) : (((w.alloc a).alloc b).alloc c).heap[w.heap.size]? = some a :=
  (blk_alloc (blk_alloc (blk_new w a) b) c)
theorem alloc3_b (w : World) (a b c : Obj) : (((w.alloc a).alloc b).alloc c).heap[w.heap.size + 1]? = some b := by
  have h := blk_alloc (blk_new (w.alloc a) b) c
  rwa [World.size_alloc] at h
theorem alloc3_c (w : World) (a b c : Obj) : (((w.alloc a).alloc b).alloc c).heap[w.heap.size + 1 + 1]? = some c := by
  have h := blk_new ((w.alloc a).alloc b) c
  rwa [World.size_alloc, World.size_alloc] at h
theorem alloc3_below (w : World) (a b c : Obj) : Below w.heap.size w (((w.alloc a).alloc b).alloc c) := below_alloc (below_alloc (below_alloc (Below.refl _ _) _) _) _

/-- take, its result and the place behind it under names. -/
theorem take_named (g : Nat) (p : Int → Bool) (eg : Enters Try.prog g) (hp : callP g p) (s : ByteArray) (k : Nat) (S : ByteArray) (K : Nat) (hK : lexEnd p s (s.size - k) k = K) (hS : s.extract k K = S) (bk bs : Nat) (w : World) (hk : k ≤ s.size) (hs : s.size ≤ 9223372036854775807)
    (hbk : w.heap[bk]? = some (.cells #[.int .i64 k] 3 (0, 0))) (hbs : w.heap[bs]? = some (.cells #[.string s] 9 (0, 0))) :
    Calls Try.prog 47 #[.func (.func g) #[] #[], .pointer (some ⟨bk, 0, none⟩), .pointer (some ⟨bs, 0, none⟩)] w fun e w' =>
      e = .returned (.string S) ∧ Aside0 (w'.heap[bk]? = some (.cells #[.int .i64 K] 3 (0, 0))) ∧ Aside0 (Alone w w' bk) := by
  refine (take_calls g p eg hp s k bk bs w hk hs hbk hbs).mono ?_
  rintro e w' ⟨rfl, h1, h2⟩
  subst hK hS
  exact ⟨rfl, ⟨h1⟩, ⟨h2⟩⟩

theorem results70 (tmps : Array Value) (w : World) (t k : Nat) (a b c d : Value) (K : Int) (h4 : (tmps[4]?).getD undef = .pointer (some ⟨t, 0, none⟩)) (h5 : (tmps[5]?).getD undef = .pointer (some ⟨k, 0, none⟩))
    (ht : w.heap[t]? = some (.cells #[a, b, c, d] 41 (0, 0))) (hk : w.heap[k]? = some (.cells #[.int .i64 K] 3 (0, 0))) :
    (results Try.f37 tmps).run Try.prog w = .ok (.tuple #[.agg #[a, b, c, d], .int .i64 K, (tmps[6]?).getD undef, (tmps[7]?).getD undef]) w := by
  have hc : w.cell? ⟨k, 0, none⟩ = some (.int .i64 K) := (blk_cell hk 0).trans rfl
  have h0 : w.cell? ⟨t, 0, none⟩ = some a := (blk_cell ht 0).trans rfl
  have h1 : w.cell? ⟨t, 1, none⟩ = some b := (blk_cell ht 1).trans rfl
  have h2 : w.cell? ⟨t, 2, none⟩ = some c := (blk_cell ht 2).trans rfl
  have h3 : w.cell? ⟨t, 3, none⟩ = some d := (blk_cell ht 3).trans rfl
  simp [results, Try.results37, go_sem, h4, h5, hc, h0, h1, h2, h3]

def OneEnd (w : World) (r1 : Int) (r2 : ByteArray) (r3 r4 r5 r6 r7 : Int) (e : Ending) (w' : World) : Prop :=
  e = .returned (.tuple #[.agg #[.int .i64 r1, .string r2, .int .i64 r3, .int .i64 r4], .int .i64 r5, .int .i64 r6, .int .i64 r7]) ∧ Below w.heap.size w w'


/-- What holds behind the switch. -/
def OneMid (w : World) (r1 : Int) (r2 : ByteArray) (r3 r4 r5 : Int) (wc : World) : Prop :=
  wc.heap[w.heap.size + 1]? = some (.cells #[.int .i64 r1, .string r2, .int .i64 r3, .int .i64 r4] 41 (0, 0)) ∧ wc.heap[w.heap.size + 1 + 1]? = some (.cells #[.int .i64 r5] 3 (0, 0)) ∧ Below w.heap.size w wc

theorem lexEnd_all (p : Int → Bool) (s : ByteArray) : ∀ f k j, k ≤ j → j < lexEnd p s f k → p (bt s j) = true
  | 0, k, j, h1, h2 => by unfold lexEnd at h2; omega
  | f + 1, k, j, h1, h2 => by
    unfold lexEnd at h2
    split at h2
    · rename_i h
      rcases Nat.eq_or_lt_of_le h1 with rfl | h3
      · exact h.2
      · exact lexEnd_all p s f (k + 1) j h3 h2
    · omega
theorem bt_extract (s : ByteArray) (i K j : Nat) (hK : K ≤ s.size) (hj : i + j < K) : bt (s.extract i K) j = bt s ((i + j : Nat) : Int) := by
  unfold bt
  simp only [Int.toNat_natCast]
  have h1 : j < (s.extract i K).size := by rw [ByteArray.size_extract]; omega
  have h2 : i + j < s.size := by omega
  rw [dif_pos h1, dif_pos h2]
  congr 2
  exact ByteArray.getElem_extract ..
theorem ReadsInt.far_ {w : World} {k : IntKind} {n g : Nat} {xs : List Int} (h : ReadsInt w k (some ⟨g, 0, none⟩) n xs) {p : Addr} (hne : g ≠ p.block) (v : Value) : ReadsInt (w.setCell p v) k (some ⟨g, 0, none⟩) n xs :=
  ⟨h.1, h.2.1, fun hn => by
    obtain ⟨ad, e, hc⟩ := h.2.2 hn
    injection e with e
    subst e
    refine ⟨_, rfl, fun j hj => ?_⟩
    have := hc j hj
    rw [add_plain] at this ⊢
    exact (World.cell?_setCell_other _ _ _ _ (fun e => hne (by rw [e]))).trans this⟩
theorem lexNum_range (l : List Int) (h : ∀ x ∈ l, 48 ≤ x ∧ x ≤ 57) : 0 ≤ lexNum l ∧ lexNum l ≤ 10995116277769 := by
  unfold lexNum
  suffices H : ∀ (l : List Int) (n : Int), (∀ x ∈ l, 48 ≤ x ∧ x ≤ 57) → 0 ≤ n → n ≤ 10995116277769 → 0 ≤ l.foldl (fun n b => 10 * mn n 1099511627776 + (b - 48)) n ∧ l.foldl (fun n b => 10 * mn n 1099511627776 + (b - 48)) n ≤ 10995116277769 from H l 0 h (by omega) (by omega)
  intro l
  induction l with
  | nil => intro n _ h0 h1; exact ⟨h0, h1⟩
  | cons x l ih =>
    intro n hx h0 h1
    have hx0 := hx x List.mem_cons_self
    rw [List.foldl_cons]
    refine ih _ (fun y hy => hx y (List.mem_cons_of_mem _ hy)) ?_ ?_
    · unfold mn; split <;> omega
    · unfold mn; split <;> omega
theorem lexNum_snoc (l : List Int) (b : Int) : lexNum (l ++ [b]) = 10 * mn (lexNum l) 1099511627776 + (b - 48) := by
  unfold lexNum
  rw [List.foldl_append]
  rfl
theorem bytesOf_get (s : ByteArray) (j : Nat) (hj : j < s.size) : (bytesOf s)[j]? = some (bt s j) := by
  have h := rd_bytesOf s j
  unfold rd at h
  rw [Int.toNat_natCast, List.getD_eq_getElem?_getD] at h
  have hl : j < (bytesOf s).length := by rw [bytesOf_length]; exact hj
  rw [List.getElem?_eq_getElem hl] at h ⊢
  rw [← h]
  rfl
theorem bytesOf_take (s : ByteArray) (j : Nat) (hj : j < s.size) : (bytesOf s).take (j + 1) = (bytesOf s).take j ++ [bt s j] := by
  have hl : j < (bytesOf s).length := by rw [bytesOf_length]; exact hj
  rw [List.take_add_one, bytesOf_get s j hj]
  rfl

set_option maxHeartbeats 4000000 in
set_option maxRecDepth 100000 in
theorem lex_one.calls (a0 : ByteArray) (a1 : Int) (r1 : Int) (r2 : ByteArray) (r3 : Int) (r4 : Int) (r5 : Int) (r6 : Int) (r7 : Int) (w : World) (h : lex_one.f a0 a1 = some (r1, r2, r3, r4, r5, r6, r7)) :
    Calls Try.prog 37 #[.string a0, .int .i64 a1] w fun e w' => e = .returned (.tuple #[.agg #[.int .i64 r1, .string r2, .int .i64 r3, .int .i64 r4], .int .i64 r5, .int .i64 r6, .int .i64 r7]) ∧ Below w.heap.size w w' := by
  have H0 := h
  clear h
  unfold lex_one.f at H0
  split at H0
  case isFalse => exact absurd H0 (by simp)
  case isTrue hg =>
  obtain ⟨hi0, hi1, hs⟩ := hg
  obtain ⟨i, rfl⟩ := Int.eq_ofNat_of_zero_le hi0
  simp only [Int.toNat_natCast] at H0
  have hi : i < a0.size := by omega
  have H := Aside0.mk H0
  clear H0 hi0 hi1
  have hb := bt_at a0 i (by simpa using hi)
  simp only [Int.toNat_natCast] at hb
  have hd : decide ((i : Int) < (a0.size : Int)) = true := by simpa using hi
  have hu41 := Try.underlying41
  have HL := letter_calls (bt a0 i)
  have HF := figure_calls (bt a0 i)
  have HL' := Aside0.mk HL
  have HF' := Aside0.mk HF
  clear HL HF
  go_enter Try.func37, Try.ntmps37
  go_upto_block 0 with (fail)
  go_cut [6, 7] (fun v6 v7 wc => v6 = .int .i64 r6 ∧ v7 = .int .i64 r7 ∧ Aside0 (OneMid w r1 r2 r3 r4 r5 wc))
  case first =>
    cases hl : pLetter (bt a0 i)
    · rw [hl] at HL' H
      simp only [Bool.false_eq_true, if_false] at H
      clear hl
      cases hf : pFigure (bt a0 i)
      · rw [hf] at HF' H
        simp only [Bool.false_eq_true, if_false] at H
        clear hf
        by_cases h36 : bt a0 i = 36
        · have hq36 : (bt a0 i == 36) = true := by simpa using h36
          rw [if_pos h36] at H
          clear h36
          generalize hK : lexEnd pHex a0 (a0.size - (i + 1)) (i + 1) = K at H
          generalize hS : a0.extract (i + 1) K = S at H
          have hKs : i + 1 ≤ K ∧ K ≤ a0.size := by have := lexEnd_le pHex a0 (a0.size - (i + 1)) (i + 1) (by omega); omega
          obtain ⟨hK1, hK2⟩ := hKs
          have hSz : S.size = K - (i + 1) := by rw [← hS, ByteArray.size_extract]; omega
          have HT := take_named 52 pHex (enters_of Try.func52 (by kernel_rfl) rfl) hex_calls a0 (i + 1) S K hK hS
          have HT' := Aside0.mk HT
          have HSz := Aside0.mk hSz
          clear HT hS hK hSz
          have hfk : ∀ (W : World) (x y z : Value), True := fun _ _ _ _ => trivial
          clear hfk
          by_cases hem : K = i + 1
          · have hS0 : S = ⟨#[]⟩ := by
              have h0 : S.size = 0 := by rw [HSz.out, hem]; omega
              cases S with | mk d => simp only [ByteArray.size] at h0; rw [Array.eq_empty_of_size_eq_zero h0]
            have hr6 := H.out
            rw [if_pos hem] at hr6
            simp only [Option.some.injEq, Prod.mk.injEq] at hr6
            obtain ⟨rfl, rfl, rfl, rfl, rfl, rfl, rfl⟩ := hr6
            clear H HSz
            subst hS0
            have HKe := Aside0.mk hem
            clear hem
            go_wp2_with (first | (go_at_call 49; refine (HL'.out _).mono ?_; rintro e w' ⟨rfl, ⟨nd, rfl⟩⟩) | (go_at_call 51; refine (HF'.out _).mono ?_; rintro e w' ⟨rfl, ⟨nd2, rfl⟩⟩) | (go_at_call 47; refine (HT'.out _ _ _ (by omega) (by omega) ((blk_set (blk_far (blk_drewN (alloc3_c _ _ _ _) _) (by dsimp only; omega) _) 0 _).trans (by go_num)) (blk_far (blk_far (blk_drewN (alloc3_a _ _ _ _) _) (by dsimp only; omega) _) (by dsimp only; omega) _)).mono ?_; rintro e w1 ⟨rfl, HK1, HA1⟩; have HT1 := Aside0.mk (HA1.out.blk (blk_far (blk_set (blk_drewN (alloc3_b _ _ _ _) _) 0 _) (by dsimp only; omega) _) (by omega)); have HS1 := Aside0.mk (HA1.out.blk (blk_far (blk_far (blk_drewN (alloc3_a _ _ _ _) _) (by dsimp only; omega) _) (by dsimp only; omega) _) (by omega)); have HB1 := Aside0.mk ((((pw_below_drewN (alloc3_below _ _ _ _) _).setCell (p := ⟨w.heap.size + 1, 0, none⟩) (by dsimp only; omega) _).setCell (p := ⟨w.heap.size + 1 + 1, 0, none⟩) (by dsimp only; omega) _).trans (HA1.out.os _ (by omega))); have hc1 := (blk_cell HT1.out 1).trans rfl; have hf1 := blk_frozen HT1.out 1; have hck := (blk_cell HK1.out 0).trans rfl) | (go_at_call 48; refine (HG'.out _ (blk_far HK1.out (by dsimp only; omega) _) (blk_far HS1.out (by dsimp only; omega) _)).mono ?_; rintro e w' ⟨rfl, ⟨nd3, rfl⟩⟩))
            go_quiet (fail)
            go_wp2
            go_meet
            case rel => exact ⟨rfl, by rw [HKe.out]; go_num, ⟨blk_drewN (blk_set HT1.out 1 _) _, (blk_drewN (blk_far HK1.out (by dsimp only; omega) _) _).trans (by rw [HKe.out]; go_num), pw_below_drewN (HB1.out.setCell (by dsimp only; omega) _) _⟩⟩
          · have hne : ¬ S.toList = [] := by
              intro h0
              rw [ByteArray.toList_eq] at h0
              have h1 := congrArg List.length h0
              rw [Array.length_toList] at h1
              have h2 : S.size = 0 := h1
              rw [HSz.out] at h2
              omega
            have hne2 : S.toList.isEmpty = false := by simpa using hne
            have hr6 := H.out
            rw [if_neg hem] at hr6
            by_cases hlong : i + 129 < K
            · have hl1 : decide ((128 : Int) < (S.size : Int)) = true := by rw [HSz.out]; simp; omega
              have hl2 : decide (128 < S.size) = true := by rw [HSz.out]; simp; omega
              rw [if_pos hlong] at hr6
              simp only [Option.some.injEq, Prod.mk.injEq] at hr6
              obtain ⟨rfl, rfl, rfl, rfl, rfl, rfl, rfl⟩ := hr6
              clear H
              go_wp2_with (first | (go_at_call 49; refine (HL'.out _).mono ?_; rintro e w' ⟨rfl, ⟨nd, rfl⟩⟩) | (go_at_call 51; refine (HF'.out _).mono ?_; rintro e w' ⟨rfl, ⟨nd2, rfl⟩⟩) | (go_at_call 47; refine (HT'.out _ _ _ (by omega) (by omega) ((blk_set (blk_far (blk_drewN (alloc3_c _ _ _ _) _) (by dsimp only; omega) _) 0 _).trans (by go_num)) (blk_far (blk_far (blk_drewN (alloc3_a _ _ _ _) _) (by dsimp only; omega) _) (by dsimp only; omega) _)).mono ?_; rintro e w1 ⟨rfl, HK1, HA1⟩; have HT1 := Aside0.mk (HA1.out.blk (blk_far (blk_set (blk_drewN (alloc3_b _ _ _ _) _) 0 _) (by dsimp only; omega) _) (by omega)); have HS1 := Aside0.mk (HA1.out.blk (blk_far (blk_far (blk_drewN (alloc3_a _ _ _ _) _) (by dsimp only; omega) _) (by dsimp only; omega) _) (by omega)); have HB1 := Aside0.mk ((((pw_below_drewN (alloc3_below _ _ _ _) _).setCell (p := ⟨w.heap.size + 1, 0, none⟩) (by dsimp only; omega) _).setCell (p := ⟨w.heap.size + 1 + 1, 0, none⟩) (by dsimp only; omega) _).trans (HA1.out.os _ (by omega))); have hc1 := (blk_cell HT1.out 1).trans rfl; have hf1 := blk_frozen HT1.out 1; have hck := (blk_cell HK1.out 0).trans rfl) | (go_at_call 48; refine (HG'.out _ (blk_far HK1.out (by dsimp only; omega) _) (blk_far HS1.out (by dsimp only; omega) _)).mono ?_; rintro e w' ⟨rfl, ⟨nd3, rfl⟩⟩))
              go_meet
              case rel => exact ⟨rfl, rfl, ⟨blk_set HT1.out 1 _, blk_far HK1.out (by dsimp only; omega) _, HB1.out.setCell (by dsimp only; omega) _⟩⟩
            · have hl1 : decide ((128 : Int) < (S.size : Int)) = false := by rw [HSz.out]; simp; omega
              have hl2 : decide (128 < S.size) = false := by rw [HSz.out]; simp; omega
              rw [if_neg hlong] at hr6
              have HG := fun W h1 h2 => goes_calls a0 K (w.heap.size + 1 + 1) w.heap.size W (by omega) h1 h2
              cases hgo : pGoes a0 K
              · rw [hgo] at HG hr6
                simp only [Bool.false_eq_true, if_false, Option.some.injEq, Prod.mk.injEq] at hr6
                obtain ⟨rfl, rfl, rfl, rfl, rfl, rfl, rfl⟩ := hr6
                have HG' := Aside0.mk HG
                clear H hgo HG
                go_wp2_with (first | (go_at_call 49; refine (HL'.out _).mono ?_; rintro e w' ⟨rfl, ⟨nd, rfl⟩⟩) | (go_at_call 51; refine (HF'.out _).mono ?_; rintro e w' ⟨rfl, ⟨nd2, rfl⟩⟩) | (go_at_call 47; refine (HT'.out _ _ _ (by omega) (by omega) ((blk_set (blk_far (blk_drewN (alloc3_c _ _ _ _) _) (by dsimp only; omega) _) 0 _).trans (by go_num)) (blk_far (blk_far (blk_drewN (alloc3_a _ _ _ _) _) (by dsimp only; omega) _) (by dsimp only; omega) _)).mono ?_; rintro e w1 ⟨rfl, HK1, HA1⟩; have HT1 := Aside0.mk (HA1.out.blk (blk_far (blk_set (blk_drewN (alloc3_b _ _ _ _) _) 0 _) (by dsimp only; omega) _) (by omega)); have HS1 := Aside0.mk (HA1.out.blk (blk_far (blk_far (blk_drewN (alloc3_a _ _ _ _) _) (by dsimp only; omega) _) (by dsimp only; omega) _) (by omega)); have HB1 := Aside0.mk ((((pw_below_drewN (alloc3_below _ _ _ _) _).setCell (p := ⟨w.heap.size + 1, 0, none⟩) (by dsimp only; omega) _).setCell (p := ⟨w.heap.size + 1 + 1, 0, none⟩) (by dsimp only; omega) _).trans (HA1.out.os _ (by omega))); have hc1 := (blk_cell HT1.out 1).trans rfl; have hf1 := blk_frozen HT1.out 1; have hck := (blk_cell HK1.out 0).trans rfl) | (go_at_call 48; refine (HG'.out _ (blk_far HK1.out (by dsimp only; omega) _) (blk_far HS1.out (by dsimp only; omega) _)).mono ?_; rintro e w' ⟨rfl, ⟨nd3, rfl⟩⟩))
                go_meet
                case rel => exact ⟨rfl, rfl, ⟨blk_drewN (blk_set HT1.out 1 _) _, blk_drewN (blk_far HK1.out (by dsimp only; omega) _) _, pw_below_drewN (HB1.out.setCell (by dsimp only; omega) _) _⟩⟩
              · rw [hgo] at HG hr6
                simp only [if_true, Option.some.injEq, Prod.mk.injEq] at hr6
                obtain ⟨rfl, rfl, rfl, rfl, rfl, rfl, rfl⟩ := hr6
                have HG' := Aside0.mk HG
                clear H hgo HG
                go_wp2_with (first | (go_at_call 49; refine (HL'.out _).mono ?_; rintro e w' ⟨rfl, ⟨nd, rfl⟩⟩) | (go_at_call 51; refine (HF'.out _).mono ?_; rintro e w' ⟨rfl, ⟨nd2, rfl⟩⟩) | (go_at_call 47; refine (HT'.out _ _ _ (by omega) (by omega) ((blk_set (blk_far (blk_drewN (alloc3_c _ _ _ _) _) (by dsimp only; omega) _) 0 _).trans (by go_num)) (blk_far (blk_far (blk_drewN (alloc3_a _ _ _ _) _) (by dsimp only; omega) _) (by dsimp only; omega) _)).mono ?_; rintro e w1 ⟨rfl, HK1, HA1⟩; have HT1 := Aside0.mk (HA1.out.blk (blk_far (blk_set (blk_drewN (alloc3_b _ _ _ _) _) 0 _) (by dsimp only; omega) _) (by omega)); have HS1 := Aside0.mk (HA1.out.blk (blk_far (blk_far (blk_drewN (alloc3_a _ _ _ _) _) (by dsimp only; omega) _) (by dsimp only; omega) _) (by omega)); have HB1 := Aside0.mk ((((pw_below_drewN (alloc3_below _ _ _ _) _).setCell (p := ⟨w.heap.size + 1, 0, none⟩) (by dsimp only; omega) _).setCell (p := ⟨w.heap.size + 1 + 1, 0, none⟩) (by dsimp only; omega) _).trans (HA1.out.os _ (by omega))); have hc1 := (blk_cell HT1.out 1).trans rfl; have hf1 := blk_frozen HT1.out 1; have hck := (blk_cell HK1.out 0).trans rfl) | (go_at_call 48; refine (HG'.out _ (blk_far HK1.out (by dsimp only; omega) _) (blk_far HS1.out (by dsimp only; omega) _)).mono ?_; rintro e w' ⟨rfl, ⟨nd3, rfl⟩⟩))
                go_quiet (fail)
                go_wp2
                go_meet
                case rel => exact ⟨rfl, rfl, ⟨blk_drewN (blk_drewN (blk_set HT1.out 1 _) _) _, blk_drewN (blk_drewN (blk_far HK1.out (by dsimp only; omega) _) _) _, pw_below_drewN (pw_below_drewN (HB1.out.setCell (by dsimp only; omega) _) _) _⟩⟩
        · have hq36 : (bt a0 i == 36) = false := by simpa using h36
          rw [if_neg h36] at H
          clear h36
          by_cases hsg : bt a0 i = 40 ∨ bt a0 i = 41 ∨ bt a0 i = 44 ∨ bt a0 i = 61 ∨ bt a0 i = 59
          · have hr6 := H.out
            rw [if_pos hsg] at hr6
            simp only [Option.some.injEq, Prod.mk.injEq] at hr6
            obtain ⟨rfl, rfl, rfl, rfl, rfl, rfl, rfl⟩ := hr6
            clear H
            have hsl : ∀ W : World, (Instr.slice 9 (.string a0) (some (.int .i64 i)) (some (.int .i64 ((i : Int) + 1))) none).run Try.prog W = .ok (.string (a0.extract i (i + 1))) W := by
              intro W
              have h := run_slice_string (P := Try.prog) (w := W) 9 a0 .i64 .i64 (i : Int) ((i : Int) + 1) Try.underlying9 (by omega) (by omega) (by omega)
              rw [h, show ((i : Int) + 1).toNat = i + 1 by omega, Int.toNat_natCast]
            rcases hsg with g | g | g | g | g
            · have q40 : (bt a0 i == 40) = true := by rw [g]; rfl
              clear g
              go_wp2_with (first | (go_at_call 49; refine (HL'.out _).mono ?_; rintro e w' ⟨rfl, ⟨nd, rfl⟩⟩) | (go_at_call 51; refine (HF'.out _).mono ?_; rintro e w' ⟨rfl, ⟨nd2, rfl⟩⟩))
              go_meet
              case rel => exact ⟨rfl, rfl, ⟨blk_far (blk_set (blk_set (blk_drewN (alloc3_b _ _ _ _) _) 0 _) 1 _) (by dsimp only; omega) _, blk_set (blk_far (blk_far (blk_drewN (alloc3_c _ _ _ _) _) (by dsimp only; omega) _) (by dsimp only; omega) _) 0 _, (((pw_below_drewN (alloc3_below _ _ _ _) _).setCell (by dsimp only; omega) _).setCell (by dsimp only; omega) _).setCell (by dsimp only; omega) _⟩⟩
            · have q40 : (bt a0 i == 40) = false := by rw [g]; rfl
              have q41 : (bt a0 i == 41) = true := by rw [g]; rfl
              clear g
              go_wp2_with (first | (go_at_call 49; refine (HL'.out _).mono ?_; rintro e w' ⟨rfl, ⟨nd, rfl⟩⟩) | (go_at_call 51; refine (HF'.out _).mono ?_; rintro e w' ⟨rfl, ⟨nd2, rfl⟩⟩))
              go_meet
              case rel => exact ⟨rfl, rfl, ⟨blk_far (blk_set (blk_set (blk_drewN (alloc3_b _ _ _ _) _) 0 _) 1 _) (by dsimp only; omega) _, blk_set (blk_far (blk_far (blk_drewN (alloc3_c _ _ _ _) _) (by dsimp only; omega) _) (by dsimp only; omega) _) 0 _, (((pw_below_drewN (alloc3_below _ _ _ _) _).setCell (by dsimp only; omega) _).setCell (by dsimp only; omega) _).setCell (by dsimp only; omega) _⟩⟩
            · have q40 : (bt a0 i == 40) = false := by rw [g]; rfl
              have q41 : (bt a0 i == 41) = false := by rw [g]; rfl
              have q44 : (bt a0 i == 44) = true := by rw [g]; rfl
              clear g
              go_wp2_with (first | (go_at_call 49; refine (HL'.out _).mono ?_; rintro e w' ⟨rfl, ⟨nd, rfl⟩⟩) | (go_at_call 51; refine (HF'.out _).mono ?_; rintro e w' ⟨rfl, ⟨nd2, rfl⟩⟩))
              go_meet
              case rel => exact ⟨rfl, rfl, ⟨blk_far (blk_set (blk_set (blk_drewN (alloc3_b _ _ _ _) _) 0 _) 1 _) (by dsimp only; omega) _, blk_set (blk_far (blk_far (blk_drewN (alloc3_c _ _ _ _) _) (by dsimp only; omega) _) (by dsimp only; omega) _) 0 _, (((pw_below_drewN (alloc3_below _ _ _ _) _).setCell (by dsimp only; omega) _).setCell (by dsimp only; omega) _).setCell (by dsimp only; omega) _⟩⟩
            · have q40 : (bt a0 i == 40) = false := by rw [g]; rfl
              have q41 : (bt a0 i == 41) = false := by rw [g]; rfl
              have q44 : (bt a0 i == 44) = false := by rw [g]; rfl
              have q61 : (bt a0 i == 61) = true := by rw [g]; rfl
              clear g
              go_wp2_with (first | (go_at_call 49; refine (HL'.out _).mono ?_; rintro e w' ⟨rfl, ⟨nd, rfl⟩⟩) | (go_at_call 51; refine (HF'.out _).mono ?_; rintro e w' ⟨rfl, ⟨nd2, rfl⟩⟩))
              go_meet
              case rel => exact ⟨rfl, rfl, ⟨blk_far (blk_set (blk_set (blk_drewN (alloc3_b _ _ _ _) _) 0 _) 1 _) (by dsimp only; omega) _, blk_set (blk_far (blk_far (blk_drewN (alloc3_c _ _ _ _) _) (by dsimp only; omega) _) (by dsimp only; omega) _) 0 _, (((pw_below_drewN (alloc3_below _ _ _ _) _).setCell (by dsimp only; omega) _).setCell (by dsimp only; omega) _).setCell (by dsimp only; omega) _⟩⟩
            · have q40 : (bt a0 i == 40) = false := by rw [g]; rfl
              have q41 : (bt a0 i == 41) = false := by rw [g]; rfl
              have q44 : (bt a0 i == 44) = false := by rw [g]; rfl
              have q61 : (bt a0 i == 61) = false := by rw [g]; rfl
              have q59 : (bt a0 i == 59) = true := by rw [g]; rfl
              clear g
              go_wp2_with (first | (go_at_call 49; refine (HL'.out _).mono ?_; rintro e w' ⟨rfl, ⟨nd, rfl⟩⟩) | (go_at_call 51; refine (HF'.out _).mono ?_; rintro e w' ⟨rfl, ⟨nd2, rfl⟩⟩))
              go_meet
              case rel => exact ⟨rfl, rfl, ⟨blk_far (blk_set (blk_set (blk_drewN (alloc3_b _ _ _ _) _) 0 _) 1 _) (by dsimp only; omega) _, blk_set (blk_far (blk_far (blk_drewN (alloc3_c _ _ _ _) _) (by dsimp only; omega) _) (by dsimp only; omega) _) 0 _, (((pw_below_drewN (alloc3_below _ _ _ _) _).setCell (by dsimp only; omega) _).setCell (by dsimp only; omega) _).setCell (by dsimp only; omega) _⟩⟩
          · have hr6 := H.out
            rw [if_neg hsg] at hr6
            simp only [Option.some.injEq, Prod.mk.injEq] at hr6
            obtain ⟨rfl, rfl, rfl, rfl, rfl, rfl, rfl⟩ := hr6
            clear H
            simp only [not_or] at hsg
            obtain ⟨g1, g2, g3, g4, g5⟩ := hsg
            have q1 : (bt a0 i == 40) = false := by simpa using g1
            have q2 : (bt a0 i == 41) = false := by simpa using g2
            have q3 : (bt a0 i == 44) = false := by simpa using g3
            have q4 : (bt a0 i == 61) = false := by simpa using g4
            have q5 : (bt a0 i == 59) = false := by simpa using g5
            clear g1 g2 g3 g4 g5
            go_wp2_with (first | (go_at_call 49; refine (HL'.out _).mono ?_; rintro e w' ⟨rfl, ⟨nd, rfl⟩⟩) | (go_at_call 51; refine (HF'.out _).mono ?_; rintro e w' ⟨rfl, ⟨nd2, rfl⟩⟩))
            go_meet
            case rel => exact ⟨rfl, rfl, ⟨blk_set (blk_drewN (alloc3_b _ _ _ _) _) 0 _, blk_far (blk_drewN (alloc3_c _ _ _ _) _) (by dsimp only; omega) _, (pw_below_drewN (alloc3_below _ _ _ _) _).setCell (by dsimp only; omega) _⟩⟩
      · rw [hf] at HF' H
        simp only [if_true] at H
        clear hf
        have hall := lexEnd_all pFigure a0 (a0.size - i) i
        generalize hK : lexEnd pFigure a0 (a0.size - i) i = K at H hall
        have hKs : i ≤ K ∧ K ≤ a0.size := by have := lexEnd_le pFigure a0 (a0.size - i) i (by omega); omega
        have hdig : ∀ j, j < (a0.extract i K).size → 48 ≤ bt (a0.extract i K) j ∧ bt (a0.extract i K) j ≤ 57 := by
          intro j hj
          rw [ByteArray.size_extract] at hj
          rw [bt_extract a0 i K j hKs.2 (by omega)]
          have := hall (i + j) (by omega) (by omega)
          simpa [pFigure] using this
        clear hall
        generalize hS : a0.extract i K = S at H hdig
        obtain ⟨hK1, hK2⟩ := hKs
        have hSz : S.size = K - i := by rw [← hS, ByteArray.size_extract]; omega
        have HT := take_named 51 pFigure (enters_of Try.func51 (by kernel_rfl) rfl) figure_calls a0 i S K hK hS
        have HT' := Aside0.mk HT
        have HSz := Aside0.mk hSz
        have HD := Aside0.mk hdig
        have hS9 : S.size ≤ 140737488351232 := by omega
        clear HT hS hK hSz hdig
        have kc := print_bytes (P := Try.prog) 9 64 5 Try.underlying9 Try.underlying64 Try.underlying5 S
        go_wp2_with (first | (go_at_call 49; refine (HL'.out _).mono ?_; rintro e w' ⟨rfl, ⟨nd, rfl⟩⟩) | (go_at_call 51; refine (HF'.out _).mono ?_; rintro e w' ⟨rfl, ⟨nd2, rfl⟩⟩) | (go_at_call 47; refine (HT'.out _ _ _ (by omega) (by omega) (blk_far (blk_drewN (alloc3_c _ _ _ _) _) (by simp) _) (blk_far (blk_drewN (alloc3_a _ _ _ _) _) (by simp) _)).mono ?_; rintro e w1 ⟨rfl, HK1, HA1⟩; have HT1 := Aside0.mk (HA1.out.blk (blk_set (blk_drewN (alloc3_b _ _ _ _) _) 0 _) (by omega)); have HB1 := Aside0.mk (((pw_below_drewN (alloc3_below _ _ _ _) _).setCell (p := ⟨w.heap.size + 1, 0, none⟩) (by simp) _).trans (HA1.out.os _ (by omega)))))
        have HS1 := Aside0.mk (HA1.out.blk (blk_far (blk_drewN (alloc3_a _ _ _ _) _) (by simp) _) (by omega))
        have hsz1 : w.heap.size + 1 + 1 < w1.heap.size := blk_lt HK1.out
        have HR1 := Aside0.mk (bytes_reads w1 5 S (by omega))
        clear kc HT' HA1
        go_loopg [58] S.size (fun kx v58 wr => ∃ j : Nat, j ≤ S.size ∧ S.size - j ≤ kx ∧ v58 = .int .i64 j ∧ Aside0 (OneMid w 1 ⟨#[]⟩ (lexNum ((bytesOf S).take j)) i K wr) ∧ Aside0 (ReadsInt wr .u8 (some ⟨w1.heap.size, 0, none⟩) S.size (bytesOf S)) ∧ Aside0 (wr.heap[w.heap.size]? = some (.cells #[.string a0] 9 (0, 0))))
        case atStart => exact ⟨0, Nat.zero_le _, Nat.le_refl _, rfl, ⟨⟨(Lib.bytesWorld_at_old _ _ _ _ (by omega)).trans HT1.out, (Lib.bytesWorld_at_old _ _ _ _ (by omega)).trans HK1.out, bytes_below HB1.out (by omega) _ _⟩⟩, HR1, ⟨(Lib.bytesWorld_at_old _ _ _ _ (by omega)).trans HS1.out⟩⟩
        case round =>
          obtain ⟨j, hj, hgj, rfl, HM, HR, HS0⟩ := hrel
          clear HL' HF'
          by_cases hlt : j < S.size
          · have hlt1 : decide ((j : Int) < (S.size : Int)) = true := by simpa using hlt
            have hlt2 : decide (j < S.size) = true := by simpa using hlt
            have hcb : wr.cell? ⟨w1.heap.size, j, none⟩ = some (.int .u8 (bt S j)) := by
              obtain ⟨ad, e1, hc⟩ := HR.out.at_ j (by omega) (by omega)
              injection e1 with e1
              subst e1
              rw [Int.toNat_natCast, add_plain, rd_bytesOf] at hc
              exact hc
            obtain ⟨hb1, hb2⟩ := HD.out j hlt
            have hsn := lexNum_snoc ((bytesOf S).take j) (bt S j)
            rw [← bytesOf_take S j hlt] at hsn
            have hN := lexNum_range ((bytesOf S).take j) (by
              intro x hx
              obtain ⟨q, hq, rfl⟩ := List.mem_iff_getElem.1 (List.mem_of_mem_take hx)
              have hq' : q < S.size := by rw [bytesOf_length] at hq; exact hq
              have := bytesOf_get S q hq'
              rw [List.getElem?_eq_getElem hq] at this
              injection this with this
              rw [this]
              exact HD.out q hq')
            have HSN := Aside0.mk hsn
            clear hsn
            generalize lexNum ((bytesOf S).take j) = N at HM HSN hN
            generalize bt S j = b at hcb hb1 hb2 HSN
            obtain ⟨hN1, hN2⟩ := hN
            have hcN : wr.cell? ⟨w.heap.size + 1, 2, none⟩ = some (.int .i64 N) := (blk_cell HM.out.1 2).trans rfl
            have hfN : wr.frozen? ⟨w.heap.size + 1, 2, none⟩ = false := blk_frozen HM.out.1 2
            go_wp2
            all_goals
              go_roundg (S.size - (j + 1))
              case rel => exact ⟨j + 1, by omega, Nat.le_refl _, by go_num, ⟨(blk_set HM.out.1 2 _).trans (by rw [HSN.out]; unfold mn; first | (rw [if_neg (by omega)]; rfl) | (rw [if_pos (by omega)]; rfl)), blk_far HM.out.2.1 (by simp) _, HM.out.2.2.setCell (by simp) _⟩, ⟨ReadsInt.far_ HR.out (by simp; omega) _⟩, ⟨blk_far HS0.out (by simp) _⟩⟩
              case measure => omega
          · have hlt1 : decide ((j : Int) < (S.size : Int)) = false := by simpa using hlt
            have hlt2 : decide (j < S.size) = false := by simpa using hlt
            obtain rfl : j = S.size := by omega
            have hfull : (bytesOf S).take S.size = bytesOf S := List.take_of_length_le (by rw [bytesOf_length]; exact Nat.le_refl _)
            rw [hfull] at HM
            clear hfull
            generalize lexNum (bytesOf S) = N at HM H
            have hck : wr.cell? ⟨w.heap.size + 1 + 1, 0, none⟩ = some (.int .i64 K) := (blk_cell HM.out.2.1 0).trans rfl
            by_cases hlong : i + 9 < K
            · have hq : decide ((9 : Int) < (K : Int) - (i : Int)) = true := by simp; omega
              have hr6 := H.out
              rw [if_pos hlong] at hr6
              simp only [Option.some.injEq, Prod.mk.injEq] at hr6
              obtain ⟨rfl, rfl, rfl, rfl, rfl, rfl, rfl⟩ := hr6
              clear H
              go_wp2_with (fail)
              go_meet
              case rel => exact ⟨rfl, rfl, HM⟩
            · have hq : decide ((9 : Int) < (K : Int) - (i : Int)) = false := by simp; omega
              have hr6 := H.out
              rw [if_neg hlong] at hr6
              have HG := goes_calls a0 K (w.heap.size + 1 + 1) w.heap.size wr (by omega) HM.out.2.1 HS0.out
              cases hgo : pGoes a0 K
              · rw [hgo] at HG hr6
                simp only [Bool.false_eq_true, if_false, Option.some.injEq, Prod.mk.injEq] at hr6
                obtain ⟨rfl, rfl, rfl, rfl, rfl, rfl, rfl⟩ := hr6
                have HG' := Aside0.mk HG
                clear H hgo HG
                go_wp2_with (go_at_call 48; refine HG'.out.mono ?_; rintro e w' ⟨rfl, ⟨nd, rfl⟩⟩)
                go_meet
                case rel => exact ⟨rfl, rfl, ⟨blk_drewN HM.out.1 _, blk_drewN HM.out.2.1 _, pw_below_drewN HM.out.2.2 _⟩⟩
              · rw [hgo] at HG hr6
                simp only [if_true, Option.some.injEq, Prod.mk.injEq] at hr6
                obtain ⟨rfl, rfl, rfl, rfl, rfl, rfl, rfl⟩ := hr6
                have HG' := Aside0.mk HG
                clear H hgo HG
                go_wp2_with (go_at_call 48; refine HG'.out.mono ?_; rintro e w' ⟨rfl, ⟨nd, rfl⟩⟩)
                go_quiet (fail)
                go_wp2
                go_meet
                case rel => exact ⟨rfl, rfl, ⟨blk_drewN (blk_drewN HM.out.1 _) _, blk_drewN (blk_drewN HM.out.2.1 _) _, pw_below_drewN (pw_below_drewN HM.out.2.2 _) _⟩⟩
    · rw [hl] at HL' H
      simp only [if_true] at H
      clear hl HF'
      generalize hK : lexEnd pWord a0 (a0.size - i) i = K at H
      generalize hS : a0.extract i K = S at H
      have hKs : i ≤ K ∧ K ≤ a0.size := by have := lexEnd_le pWord a0 (a0.size - i) i (by omega); omega
      obtain ⟨hK1, hK2⟩ := hKs
      have hSz : S.size = K - i := by rw [← hS, ByteArray.size_extract]; omega
      have HT := take_named 50 pWord (enters_of Try.func50 (by kernel_rfl) rfl) word_calls a0 i S K hK hS
      have HT' := Aside0.mk HT
      have HSz := Aside0.mk hSz
      clear HT hS hK hSz
      by_cases hlong : i + 16 < K
      · have hl1 : decide ((16 : Int) < (S.size : Int)) = true := by rw [HSz.out]; simp; omega
        have hl2 : decide (16 < S.size) = true := by rw [HSz.out]; simp; omega
        have hr6 := H.out
        rw [if_pos hlong] at hr6
        simp only [Option.some.injEq, Prod.mk.injEq] at hr6
        obtain ⟨rfl, rfl, rfl, rfl, rfl, rfl, rfl⟩ := hr6
        clear H
        go_wp2_with (first | (go_at_call 49; refine (HL'.out _).mono ?_; rintro e w' ⟨rfl, ⟨nd, rfl⟩⟩) | (go_at_call 47; refine (HT'.out _ _ _ (by omega) (by omega) (blk_drewN (alloc3_c _ _ _ _) _) (blk_drewN (alloc3_a _ _ _ _) _)).mono ?_; rintro e w1 ⟨rfl, HK1, HA1⟩; have HT1 := Aside0.mk (HA1.out.blk (blk_drewN (alloc3_b _ _ _ _) _) (by omega)); have hc1 := (blk_cell HT1.out 1).trans rfl; have hf1 := blk_frozen HT1.out 1))
        go_meet
        case rel => exact ⟨rfl, rfl, ⟨blk_set HT1.out 1 _, blk_far HK1.out (by simp) _, ((pw_below_drewN (alloc3_below _ _ _ _) _).trans (HA1.out.os _ (by omega))).setCell (by simp) _⟩⟩
      · have hl1 : decide ((16 : Int) < (S.size : Int)) = false := by rw [HSz.out]; simp; omega
        have hl2 : decide (16 < S.size) = false := by rw [HSz.out]; simp; omega
        have hr6 := H.out
        rw [if_neg hlong] at hr6
        simp only [Option.some.injEq, Prod.mk.injEq] at hr6
        obtain ⟨rfl, rfl, rfl, rfl, rfl, rfl, rfl⟩ := hr6
        clear H
        go_wp2_with (first | (go_at_call 49; refine (HL'.out _).mono ?_; rintro e w' ⟨rfl, ⟨nd, rfl⟩⟩) | (go_at_call 47; refine (HT'.out _ _ _ (by omega) (by omega) (blk_drewN (alloc3_c _ _ _ _) _) (blk_drewN (alloc3_a _ _ _ _) _)).mono ?_; rintro e w1 ⟨rfl, HK1, HA1⟩; have HT1 := Aside0.mk (HA1.out.blk (blk_drewN (alloc3_b _ _ _ _) _) (by omega)); have hc1 := (blk_cell HT1.out 1).trans rfl; have hf1 := blk_frozen HT1.out 1))
        go_meet
        case rel => exact ⟨rfl, rfl, ⟨blk_set HT1.out 1 _, blk_far HK1.out (by simp) _, ((pw_below_drewN (alloc3_below _ _ _ _) _).trans (HA1.out.os _ (by omega))).setCell (by simp) _⟩⟩
  case rest =>
    clear H
    obtain ⟨rfl, rfl, HM⟩ := hcut
    have hk : wc.cell? ⟨w.heap.size + 1 + 1, 0, none⟩ = some _ := (blk_cell HM.out.2.1 0).trans rfl
    have h0 : wc.cell? ⟨w.heap.size + 1, 0, none⟩ = some _ := (blk_cell HM.out.1 0).trans rfl
    have h1 : wc.cell? ⟨w.heap.size + 1, 1, none⟩ = some _ := (blk_cell HM.out.1 1).trans rfl
    have h2 : wc.cell? ⟨w.heap.size + 1, 2, none⟩ = some _ := (blk_cell HM.out.1 2).trans rfl
    have h3 : wc.cell? ⟨w.heap.size + 1, 3, none⟩ = some _ := (blk_cell HM.out.1 3).trans rfl
    have fk : wc.frozen? ⟨w.heap.size + 1 + 1, 0, none⟩ = false := blk_frozen HM.out.2.1 0
    have f0 : wc.frozen? ⟨w.heap.size + 1, 0, none⟩ = false := blk_frozen HM.out.1 0
    have f1 : wc.frozen? ⟨w.heap.size + 1, 1, none⟩ = false := blk_frozen HM.out.1 1
    have f2 : wc.frozen? ⟨w.heap.size + 1, 2, none⟩ = false := blk_frozen HM.out.1 2
    have f3 : wc.frozen? ⟨w.heap.size + 1, 3, none⟩ = false := blk_frozen HM.out.1 3
    clear HL' HF' hb hd
    go_wp2
    go_region
    go_wp2
    refine bodyPost_ret (v := .tuple #[.agg #[.int .i64 r1, .string r2, .int .i64 r3, .int .i64 r4], .int .i64 r5, .int .i64 r6, .int .i64 r7]) ?hres rfl ?_
    case hres => exact results70 _ _ _ _ _ _ _ _ _ rfl rfl (blk_drew (blk_far (blk_set (blk_set (blk_set (blk_set HM.out.1 0 _) 1 _) 2 _) 3 _) (by simp) _)) (blk_drew (blk_set (blk_far (blk_far (blk_far (blk_far HM.out.2.1 (by simp) _) (by simp) _) (by simp) _) (by simp) _) 0 _))
    exact ⟨rfl, below_drew (((((HM.out.2.2.setCell (by simp) _).setCell (by simp) _).setCell (by simp) _).setCell (by simp) _).setCell (by simp; omega) _)⟩

end Go.Proofs.Ytocclfjddihmbaa.P
