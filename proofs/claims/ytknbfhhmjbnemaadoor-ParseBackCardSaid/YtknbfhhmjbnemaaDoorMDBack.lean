/- Proved here, for the claim of parseBack_holds: that the law holds: the texts of this work, one behind the other, laid by a program of this session. Conditions: none beside the statement's own. -/
import Derived.Test.YtknbfhhmjbnemaaDoorMD5
import Derived.Test.YtknbfhhmjbnemaaDoorMD6
import Derived.Test.YtknbfhhmjbnemaaDoorTie
import Derived.Test.YtknbfhhmjbnemaaDoorCards
import Derived.SevenTiedAt
section
namespace Go.Proofs.YtknbfhhmjbnemaaDoor.P
open Go.RowKit Go.Proofs.YtknbfhhmjbnemaaDoorW.PrintWords Go.Proofs.YtknbfhhmjbnemaaDoorW.PrintLast Go.Proofs.YtknbfhhmjbnemaaDoorW.PrintMore Go.Proofs.YtknbfhhmjbnemaaDoor.Pure
set_option linter.unusedVariables false
set_option linter.unusedSimpArgs false

/-! texts that are read as tokens -/
abbrev Ek := Int × ByteArray × Int
def Hd (l : List Int) : Prop := ∀ c t, l = c :: t → stops c
inductive Lx : List Int → List Ek → Prop
  | nil : Lx [] []
  | blank {c : Int} {l : List Int} {E : List Ek} (hc : isBlank c = true) (h : Lx l E) : Lx (c :: l) E
  | tok {k n : Int} {s : ByteArray} {l : List Int} {E : List Ek} (hg : GoodK k (bytesOf s) n) (hs : k = 3 ∨ Hd l) (h : Lx l E) : Lx (txt k (bytesOf s) n ++ l) ((k, s, n) :: E)
theorem oneL_hd {k n : Int} {s l : List Int} (hg : GoodK k s n) (hs : k = 3 ∨ Hd l) : oneL (txt k s n ++ l) = oneL (txt k s n) := by
  by_cases h3 : k = 3
  · subst h3
    rcases hg with ⟨h, _⟩ | ⟨h, _⟩ | ⟨h, _⟩ | ⟨_, ⟨c, rfl, hc⟩, rfl⟩
    · cases h
    · cases h
    · cases h
    · have e1 : txt 3 [c] 0 = [c] := rfl
      rw [e1]
      rcases hc with rfl | rfl | rfl | rfl | rfl <;> (simp only [List.cons_append, oneL]; simp [pLetter, pFigure])
  · have hd : Hd l := hs.resolve_left h3
    obtain ⟨⟨c, t, hcu, hb, h47⟩, _⟩ := good_head hg
    cases l with
    | nil => rw [List.append_nil]
    | cons x b => exact oneL_stop x (hd x b rfl) b _ (by rw [hcu]; simp)
theorem lx_scan {l : List Int} {E : List Ek} (h : Lx l E) : ∀ (cnt f total : Nat), cnt + E.length ≤ 500 → l.length < f → ∃ T, scanF f cnt (skipS false l) total = .ok T ∧ T.map er = E := by
  induction h with
  | nil =>
    intro cnt f total hc hf
    obtain ⟨f, rfl⟩ : ∃ m, f = m + 1 := ⟨f - 1, by omega⟩
    exact ⟨[], rfl, rfl⟩
  | @blank c l E hc h ih =>
    intro cnt f total hE hf
    rw [show skipS false (c :: l) = skipS false l by simp [skipS, hc]]
    exact ih cnt f total hE (by simp at hf; omega)
  | @tok k n s l E hg hs h ih =>
    intro cnt f total hE hf
    obtain ⟨f, rfl⟩ : ∃ m, f = m + 1 := ⟨f - 1, by omega⟩
    obtain ⟨⟨c, u, hcu, hb, h47⟩, _⟩ := good_head hg
    obtain ⟨o1, o2, o3, o4, o5⟩ := good_one hg
    have hone := oneL_hd hg hs
    have hskip : skipS false (txt k (bytesOf s) n ++ l) = txt k (bytesOf s) n ++ l := by
      rw [hcu]
      simp only [List.cons_append, skipS]
      rw [if_neg (by rw [hb]; decide), if_neg (by intro h; exact h47 h.1)]
    have hlen : 1 ≤ (txt k (bytesOf s) n).length := by rw [hcu]; simp
    simp only [List.length_append, List.length_cons] at hf hE
    obtain ⟨T, hT, hTE⟩ := ih (cnt + 1) f total (by omega) (by omega)
    rw [hskip, scanF_step, if_neg (by rw [hcu]; simp), if_neg (by omega), hone, if_pos o5, o4, List.drop_left, hT]
    refine ⟨_, rfl, ?_⟩
    rw [List.map_cons, hTE]
    unfold tokOf er
    rw [o1, o2, o3, strOfNums_bytesOf]
theorem lx_scan0 {l : List Int} {E : List Ek} (h : Lx l E) (hl : l.length ≤ 2000) (hE : E.length ≤ 500) : ∃ T, scan l = .ok T ∧ T.map er = E := by
  unfold scan
  rw [if_neg (by omega)]
  exact lx_scan h 0 _ _ (by omega) (by omega)
/-- A text that is read as these tokens, whatever stands behind it (GenH: what ends a word). -/
def Gen0 (t : List Int) (E : List Ek) : Prop := ∀ l E', Lx l E' → Lx (t ++ l) (E ++ E')
def GenH (t : List Int) (E : List Ek) : Prop := ∀ l E', Lx l E' → Hd l → Lx (t ++ l) (E ++ E')
theorem Gen0.H {t : List Int} {E : List Ek} (h : Gen0 t E) : GenH t E := fun l E' hl _ => h l E' hl
theorem Gen0.nil : Gen0 [] [] := fun l E' h => h
theorem Gen0.app {t u : List Int} {E F : List Ek} (h : Gen0 t E) (h1 : Gen0 u F) : Gen0 (t ++ u) (E ++ F) := fun l E' hl => by rw [List.append_assoc, List.append_assoc]; exact h _ _ (h1 _ _ hl)
theorem Gen0.appH {t u : List Int} {E F : List Ek} (h : Gen0 t E) (h1 : GenH u F) : GenH (t ++ u) (E ++ F) := fun l E' hl hd => by rw [List.append_assoc, List.append_assoc]; exact h _ _ (h1 _ _ hl hd)
theorem GenH.app {t u : List Int} {E F : List Ek} (h : GenH t E) (c : Int) (hc : stops c) (h1 : Gen0 (c :: u) F) : Gen0 (t ++ c :: u) (E ++ F) := fun l E' hl => by rw [List.append_assoc, List.append_assoc]; exact h _ _ (h1 _ _ hl) (fun x t e => by cases e; exact hc)
theorem GenH.appH {t u : List Int} {E F : List Ek} (h : GenH t E) (c : Int) (hc : stops c) (h1 : GenH (c :: u) F) : GenH (t ++ c :: u) (E ++ F) := fun l E' hl hd => by rw [List.append_assoc, List.append_assoc]; exact h _ _ (h1 _ _ hl hd) (fun x t e => by cases e; exact hc)
theorem Gen0.blank {t : List Int} {E : List Ek} (c : Int) (hc : isBlank c = true) (h : Gen0 t E) : Gen0 (c :: t) E := fun l E' hl => Lx.blank hc (h l E' hl)
theorem GenH.blank {t : List Int} {E : List Ek} (c : Int) (hc : isBlank c = true) (h : GenH t E) : GenH (c :: t) E := fun l E' hl hd => Lx.blank hc (h l E' hl hd)
theorem Gen0.punct (c : Int) (hc : c = 40 ∨ c = 41 ∨ c = 44 ∨ c = 61 ∨ c = 59) {t : List Int} {E : List Ek} (h : Gen0 t E) : Gen0 (c :: t) ((3, strOfNums [c], 0) :: E) := fun l E' hl => by
  have hb : bytesOf (strOfNums [c]) = [c] := bytesOf_strOfNums _ (fun x hx => by cases List.mem_singleton.1 hx; omega)
  have := Lx.tok (k := 3) (n := 0) (s := strOfNums [c]) (by rw [hb]; exact .inr (.inr (.inr ⟨rfl, ⟨c, rfl, hc⟩, rfl⟩))) (.inl rfl) (h l E' hl)
  rw [hb] at this
  exact this
theorem GenH.punct (c : Int) (hc : c = 40 ∨ c = 41 ∨ c = 44 ∨ c = 61 ∨ c = 59) {t : List Int} {E : List Ek} (h : GenH t E) : GenH (c :: t) ((3, strOfNums [c], 0) :: E) := fun l E' hl hd => by
  have hb : bytesOf (strOfNums [c]) = [c] := bytesOf_strOfNums _ (fun x hx => by cases List.mem_singleton.1 hx; omega)
  have := Lx.tok (k := 3) (n := 0) (s := strOfNums [c]) (by rw [hb]; exact .inr (.inr (.inr ⟨rfl, ⟨c, rfl, hc⟩, rfl⟩))) (.inl rfl) (h l E' hl hd)
  rw [hb] at this
  exact this
theorem GenH.tok {k n : Int} {s : ByteArray} (hg : GoodK k (bytesOf s) n) : GenH (txt k (bytesOf s) n) [(k, s, n)] := fun l E' hl hd => Lx.tok hg (.inr hd) hl
theorem GenH.lx {t : List Int} {E : List Ek} (h : GenH t E) : Lx t E := by
  have := h [] [] Lx.nil (fun c t e => by cases e)
  rw [List.append_nil, List.append_nil] at this
  exact this
theorem Gen0.lx {t : List Int} {E : List Ek} (h : Gen0 t E) : Lx t E := h.H.lx
end Go.Proofs.YtknbfhhmjbnemaaDoor.P
end
section
namespace Go.Proofs.YtknbfhhmjbnemaaDoor.P
open Go.RowKit Go.Proofs.YtknbfhhmjbnemaaDoorW.PrintWords Go.Proofs.YtknbfhhmjbnemaaDoorW.PrintLast Go.Proofs.YtknbfhhmjbnemaaDoorW.PrintMore Go.Proofs.YtknbfhhmjbnemaaDoor.Pure
set_option linter.unusedVariables false
set_option linter.unusedSimpArgs false

/-! leaves: what is written of them is read as their tokens, and they are right -/
def toI (l : List UInt8) : List Int := l.map fun b => (b.toNat : Int)
theorem toI_app (a b : List UInt8) : toI (a ++ b) = toI a ++ toI b := List.map_append
theorem toI_cons (a : UInt8) (b : List UInt8) : toI (a :: b) = (a.toNat : Int) :: toI b := rfl
theorem toI_bytes (s : ByteArray) : toI s.data.toList = bytesOf s := rfl
theorem lit_of {w : ByteArray} {l : List UInt8} (h : w.toList = l) : w = ⟨l.toArray⟩ := by
  rw [ByteArray.toList_eq] at h
  apply byteArray_ext
  rw [h]
theorem dec_digits : ∀ (d n : Nat), n ≠ 0 → n < 10 ^ d → toI (Lib.decDigits n) = digF d n
  | 0, n, h0, h => by simp at h; omega
  | d + 1, n, h0, h => by
    rw [digF_succ d n h0]
    rw [Lib.decDigits]
    by_cases h1 : n < 10
    · rw [dif_pos h1, show n / 10 = 0 by omega, show n % 10 = n by omega]
      have : digF d 0 = [] := by cases d <;> simp [digF]
      rw [this, toI_cons]
      have : (UInt8.ofNat (48 + n)).toNat = 48 + n := by rw [UInt8.toNat_ofNat_of_lt' (by simp [UInt8.size]; omega)]
      rw [this]
      rfl
    · rw [dif_neg h1, toI_app, dec_digits d (n / 10) (by omega) (by rw [Nat.pow_succ] at h; omega), toI_cons]
      have : (UInt8.ofNat (48 + n % 10)).toNat = 48 + n % 10 := by rw [UInt8.toNat_ofNat_of_lt' (by simp [UInt8.size]; omega)]
      rw [this]
      rfl
theorem itoa_digL (n : Int) (h0 : 0 ≤ n) (h1 : n < 1000000000) : toI (Lib.itoa n) = digL n.toNat := by
  unfold Lib.itoa
  rw [if_neg (by omega)]
  unfold digL
  by_cases hz : n.toNat = 0
  · rw [if_pos hz, hz]
    have : Lib.decDigits 0 = [48] := by rw [Lib.decDigits, dif_pos (by decide)]; rfl
    rw [this]
    rfl
  · rw [if_neg hz]
    exact dec_digits 9 _ hz (by omega)
def Wt (n : S25) (E : List Ek) : Prop := ∃ t j0, (∀ j, j0 ≤ j → writeT j n = some t) ∧ GenH (toI t) E ∧ t.length ≤ 200 * E.length
def Rl (n : S25) (op : ByteArray) : Prop := ∃ K, ∀ k, K ≤ k → parse_leaf.f k n.f0 n.f1 n.f2 n.f3 n.f4 op = some true
def Rx (n : S25) (nest : Int) : Prop := ∃ K, ∀ k, K ≤ k → parse_expr.f k n.f0 n.f1 n.f2 n.f3 n.f4 nest = some true
theorem toI_len (l : List UInt8) : (toI l).length = l.length := by unfold toI; rw [List.length_map]
theorem one_scan {t : List Int} {k n : Int} {s : ByteArray} (h : Lx t [(k, s, n)]) (hl : t.length ≤ 2000) : ∃ u : S60, scan t = .ok [u] ∧ u.f0 = k ∧ u.f1 = s := by
  obtain ⟨T, hT, hE⟩ := lx_scan0 h hl (by simp)
  cases T with
  | nil => cases hE
  | cons u U =>
    cases U with
    | cons v V => simp at hE
    | nil =>
      simp only [List.map_cons, List.map_nil, List.cons.injEq, and_true] at hE
      unfold er at hE
      simp only [Prod.mk.injEq] at hE
      exact ⟨u, hT, hE.1, hE.2.1⟩
theorem name_ok {t : S60} (hg : GoodTok t) (h0 : t.f0 = 0) (hr : presv t.f1 = some false) : ∀ k, 5000 ≤ k → parse_name.f k t.f1 = some true := by
  intro k hk
  have hg' := hg
  unfold GoodTok at hg
  have hlx := (GenH.tok hg).lx
  have htx : txt t.f0 (bytesOf t.f1) t.f2 = bytesOf t.f1 := by rw [h0]; rfl
  obtain ⟨u, hu, hu0, hu1⟩ := one_scan hlx (by have := (good_head hg).2; omega)
  rw [htx] at hu
  unfold parse_name.f
  rw [scan_run t.f1 k hk, hu]
  unfold presv at hr
  have hb : rd_T60 [u] 0 = u := rfl
  simp only [told, Option.bind_some]
  rw [if_pos trivial, if_pos (by rfl), if_pos (by simp), hb, if_pos (by rw [hu0]; exact h0), if_pos (by rw [hu1]), hr]
  rfl
theorem hex_ok {t : S60} (hg : GoodTok t) (h0 : t.f0 = 2) : ∀ k, 5000 ≤ k → parse_hex.f k t.f1 = some true := by
  intro k hk
  unfold GoodTok at hg
  have hlx := (GenH.tok hg).lx
  have htx : txt t.f0 (bytesOf t.f1) t.f2 = 36 :: bytesOf t.f1 := by rw [h0]; rfl
  have hl := (good_head hg).2
  obtain ⟨u, hu, hu0, hu1⟩ := one_scan hlx (by omega)
  rw [htx] at hu hl
  have hsz : t.f1.size ≤ 200 := by rw [List.length_cons, bytesOf_length] at hl; omega
  have hcat : bytesOf ((⟨#[36]⟩ : ByteArray) ++ t.f1) = 36 :: bytesOf t.f1 := by rw [bytesOf_append]; rfl
  unfold parse_hex.f
  rw [if_pos (by omega), scan_run _ k hk, hcat, hu]
  have hb : rd_T60 [u] 0 = u := rfl
  simp only [told, Option.bind_some]
  rw [if_pos trivial, if_pos (by rfl), if_pos (by simp), hb, if_pos (by rw [hu0]; exact h0), hu1]
  simp
abbrev NUM : ByteArray := ⟨#[110, 117, 109]⟩
abbrev NAME : ByteArray := ⟨#[110, 97, 109, 101]⟩
abbrev USE : ByteArray := ⟨#[117, 115, 101]⟩
theorem good_num {t : S60} (hg : GoodTok t) (h0 : t.f0 = 1) : bytesOf t.f1 = [] ∧ 0 ≤ t.f2 ∧ t.f2 < 1000000000 := by
  unfold GoodTok at hg
  rw [h0] at hg
  rcases hg with ⟨_, h⟩ | ⟨h, _⟩ | ⟨h, _⟩ | ⟨h, _⟩
  · exact h
  all_goals cases h
theorem wt_num {t : S60} (hg : GoodTok t) (h0 : t.f0 = 1) : Wt (pnumN t) [er t] ∧ Rl (pnumN t) NUM := by
  obtain ⟨hs, hn0, hn1⟩ := good_num hg h0
  have hit := itoa_digL t.f2 hn0 hn1
  refine ⟨⟨Lib.itoa t.f2, 1, fun j hj => ?_, ?_, ?_⟩, 5000, fun k hk => ?_⟩
  · obtain ⟨j, rfl⟩ : ∃ m, j = m + 1 := ⟨j - 1, by omega⟩
    unfold pnumN
    simp only [writeT]
    rw [if_pos (by refine ⟨?_, by omega, by omega⟩; simp), if_neg (by simp only [ByteArray.toList_eq]; decide), if_pos (by simp only [ByteArray.toList_eq])]
  · have := GenH.tok (k := t.f0) (n := t.f2) (s := t.f1) hg
    rw [h0, show txt 1 (bytesOf t.f1) t.f2 = digL t.f2.toNat from rfl, ← hit] at this
    unfold er
    rw [h0]
    exact this
  · have := (digL_len t.f2.toNat).2
    rw [← hit, toI_len] at this
    simp
    omega
  · obtain ⟨k, rfl⟩ : ∃ m, k = m + 1 := ⟨k - 1, by omega⟩
    unfold pnumN parse_leaf.f
    rw [if_pos rfl, parse_leaf.j0]
    rw [if_neg (by simp), if_pos (by rw [ByteArray.toList_eq]), if_pos (by rw [ByteArray.toList_eq])]
    unfold parse_number.f
    rw [if_pos (show t.f2 ≥ 0 from hn0), Option.bind_some, decide_eq_true (show t.f2 ≤ 999999999 by omega)]
theorem wt_name {t : S60} (hg : GoodTok t) (h0 : t.f0 = 0) (hr : presv t.f1 = some false) : Wt (pnameN t) [er t] ∧ Rl (pnameN t) NAME ∧ ∀ p nest, nest ≤ 12 → Wt ⟨USE, t.f1, 0, p, []⟩ [er t] ∧ Rx ⟨USE, t.f1, 0, p, []⟩ nest := by
  have hn := name_ok hg h0 hr
  have hG : GenH (toI t.f1.data.toList) [er t] := by
    have := GenH.tok (k := t.f0) (n := t.f2) (s := t.f1) hg
    rw [h0, show txt 0 (bytesOf t.f1) t.f2 = bytesOf t.f1 from rfl] at this
    unfold er
    rw [h0]
    exact this
  have hl : t.f1.data.toList.length ≤ 200 * [er t].length := by
    have := (good_head hg).2
    rw [h0, show txt 0 (bytesOf t.f1) t.f2 = bytesOf t.f1 from rfl, bytesOf_length] at this
    have e : t.f1.data.toList.length = t.f1.size := rfl
    rw [e]
    simp
    omega
  have wt : ∀ op p, op = USE ∨ op = NAME → Wt ⟨op, t.f1, 0, p, []⟩ [er t] := by
    intro op p hop
    refine ⟨_, 1, fun j hj => ?_, hG, hl⟩
    obtain ⟨j, rfl⟩ : ∃ m, j = m + 1 := ⟨j - 1, by omega⟩
    simp only [writeT]
    rw [if_pos (by refine ⟨?_, by omega, by omega⟩; simp), if_pos (by rcases hop with rfl | rfl <;> simp only [ByteArray.toList_eq] <;> decide)]
  have rl : ∀ op p, op = USE ∨ op = NAME → Rl ⟨op, t.f1, 0, p, []⟩ op := by
    intro op p hop
    refine ⟨5001, fun k hk => ?_⟩
    obtain ⟨k, rfl⟩ : ∃ m, k = m + 1 := ⟨k - 1, by omega⟩
    unfold parse_leaf.f
    rw [if_pos rfl, parse_leaf.j0]
    rw [if_neg (by simp), if_neg (by rcases hop with rfl | rfl <;> simp only [ByteArray.toList_eq] <;> decide), if_pos rfl, hn k (by omega)]
    rfl
  refine ⟨wt _ _ (.inr rfl), rl _ _ (.inr rfl), fun p nest hnest => ⟨wt _ _ (.inl rfl), ?_⟩⟩
  obtain ⟨K, hK⟩ := rl USE p (.inl rfl)
  refine ⟨K + 2, fun k hk => ?_⟩
  obtain ⟨k, rfl⟩ : ∃ m, k = m + 2 := ⟨k - 2, by omega⟩
  rw [parse_expr.f, if_neg (by omega), parse_expr.j0, if_pos (by simp), if_pos hnest, hK k (by omega)]
  rfl
theorem wt_hex {t : S60} (hg : GoodTok t) (h0 : t.f0 = 2) : Wt (phexN t) [er t] := by
  refine ⟨36 :: t.f1.data.toList, 1, fun j hj => ?_, ?_, ?_⟩
  · obtain ⟨j, rfl⟩ : ∃ m, j = m + 1 := ⟨j - 1, by omega⟩
    unfold phexN
    simp only [writeT]
    rw [if_pos (by refine ⟨?_, by omega, by omega⟩; simp), if_neg (by simp only [ByteArray.toList_eq]; decide), if_neg (by simp only [ByteArray.toList_eq]; decide), if_pos (by simp only [ByteArray.toList_eq])]
  · have := GenH.tok (k := t.f0) (n := t.f2) (s := t.f1) hg
    rw [h0, show txt 2 (bytesOf t.f1) t.f2 = 36 :: bytesOf t.f1 from rfl] at this
    unfold er
    rw [h0]
    exact this
  · have := (good_head hg).2
    rw [h0, show txt 2 (bytesOf t.f1) t.f2 = 36 :: bytesOf t.f1 from rfl, List.length_cons, bytesOf_length] at this
    have e : t.f1.data.toList.length = t.f1.size := rfl
    rw [List.length_cons, e]
    simp
    omega
end Go.Proofs.YtknbfhhmjbnemaaDoor.P
end
section
namespace Go.Proofs.YtknbfhhmjbnemaaDoor.P
open Go.RowKit Go.Proofs.YtknbfhhmjbnemaaDoorW.PrintWords Go.Proofs.YtknbfhhmjbnemaaDoorW.PrintLast Go.Proofs.YtknbfhhmjbnemaaDoorW.PrintMore Go.Proofs.YtknbfhhmjbnemaaDoor.Pure
set_option linter.unusedVariables false
set_option linter.unusedSimpArgs false

/-! what an expression's tokens are: inversions of the parser's words -/
def Goods (T : List S60) : Prop := ∀ t ∈ T, GoodTok t
abbrev pu (c : Int) : Ek := (3, strOfNums [c], 0)
theorem Goods.tail {t : S60} {T : List S60} (h : Goods (t :: T)) : Goods T := fun x hx => h x (List.mem_cons_of_mem _ hx)
theorem must_inv {T T' : List S60} {en : Int} {u : Unit} {s : ByteArray} (c : Int) (hc : c = 40 ∨ c = 41 ∨ c = 44 ∨ c = 61 ∨ c = 59) (hs : s = strOfNums [c]) (h : gmust s T en = some (.ok (u, T'))) (hg : Goods T) : T.map er = pu c :: T'.map er ∧ Goods T' := by
  unfold gmust pmust at h
  split at h
  case isFalse => cases h
  rename_i hp
  cases T with
  | nil => cases hp
  | cons t T =>
    cases h
    unfold pis at hp
    simp only [Bool.and_eq_true, Bool.or_eq_true, beq_iff_eq] at hp
    have ht := hg t List.mem_cons_self
    have h1 : t.f1 = s := by apply byteArray_ext; have := hp.2; rw [ByteArray.toList_eq, ByteArray.toList_eq] at this; exact this
    have hb : bytesOf t.f1 = [c] := by rw [h1, hs]; exact bytesOf_strOfNums _ (fun x hx => by cases List.mem_singleton.1 hx; omega)
    refine ⟨?_, hg.tail⟩
    unfold GoodTok at ht
    rw [hb] at ht
    show er t :: _ = _
    unfold er pu
    rw [h1, hs]
    rcases ht with ⟨h, h2, _⟩ | ⟨h, _⟩ | ⟨h, ⟨c', t', e, hl⟩, _⟩ | ⟨h, _, h2⟩
    · cases h2
    · rw [h] at hp; rcases hp.1 with h | h <;> cases h
    · cases e
      rcases hc with rfl | rfl | rfl | rfl | rfl <;> cases hl
    · rw [h, h2]
      rfl
theorem of_inv {T T' : List S60} {en k : Int} {t : S60} (h : gof k T en = some (.ok (t, T'))) (hg : Goods T) : T.map er = er t :: T'.map er ∧ Goods T' ∧ GoodTok t ∧ t.f0 = k ∧ (k = 0 → presv t.f1 = some false) := by
  unfold gof pof ptake at h
  cases T with
  | nil => cases h
  | cons u T =>
    simp only at h
    cases hm : pmay k u with
    | none => rw [hm] at h; cases h
    | some b =>
      rw [hm] at h
      cases b with
      | false => cases h
      | true =>
        cases h
        unfold pmay at hm
        split at hm
        case isFalse => cases hm
        rename_i h0
        refine ⟨rfl, hg.tail, hg t List.mem_cons_self, h0, fun hk => ?_⟩
        rw [if_pos hk] at hm
        cases hp : presv t.f1 with
        | none => rw [hp] at hm; cases hm
        | some b => rw [hp] at hm; cases b; rfl; cases hm
theorem bd_inv {α β : Type} {g : G α} {h : α → G β} {T : List S60} {en : Int} {b : β} {T' : List S60} (e : bd g h T en = some (.ok (b, T'))) : ∃ a T1, g T en = some (.ok (a, T1)) ∧ h a T1 en = some (.ok (b, T')) := by
  rcases pbd_inv e with ⟨_, _, he⟩ | ⟨a, T1, h1, h2⟩
  · cases he
  · exact ⟨a, T1, h1, h2⟩
/-- Parts behind the first: a comma ahead of each. -/
inductive LW : List S25 → List Ek → Prop
  | nil : LW [] []
  | cons {x : S25} {M : List S25} {Ex EM : List Ek} (h : Wt x Ex) (h1 : LW M EM) : LW (x :: M) (pu 44 :: (Ex ++ EM))
theorem LW.snoc {M : List S25} {EM : List Ek} (h : LW M EM) {x : S25} {Ex : List Ek} (hx : Wt x Ex) : LW (M ++ [x]) (EM ++ pu 44 :: Ex) := by
  induction h with
  | nil => have := LW.cons hx LW.nil; rw [List.append_nil] at this; exact this
  | @cons y M Ey EM hy h1 ih => rw [List.cons_append, List.cons_append, List.append_assoc]; exact LW.cons hy ih
def GenS (t : List Int) (E : List Ek) : Prop := GenH t E ∧ ∀ l, Hd l → Hd (t ++ l)
theorem stops44 : stops 44 := by unfold stops; decide
theorem stops40 : stops 40 := by unfold stops; decide
theorem stops41 : stops 41 := by unfold stops; decide
theorem stops59 : stops 59 := by unfold stops; decide
theorem GenH.appS {t u : List Int} {E F : List Ek} (h : GenH t E) (h1 : GenS u F) : GenH (t ++ u) (E ++ F) := fun l E' hl hd => by rw [List.append_assoc, List.append_assoc]; exact h _ _ (h1.1 _ _ hl hd) (h1.2 l hd)
theorem LW.out {M : List S25} {EM : List Ek} (h : LW M EM) : ∃ t j0, (∀ j, j0 ≤ j → sepW (writeT j) false M = some t) ∧ GenS (toI t) EM ∧ t.length ≤ 200 * EM.length := by
  induction h with
  | nil => exact ⟨[], 0, fun j _ => rfl, ⟨fun l E' h _ => h, fun l h => h⟩, by simp⟩
  | @cons x M Ex EM hx h1 ih =>
    obtain ⟨t, j0, ht, hG, hl⟩ := hx
    obtain ⟨u, j1, hu, hS, hm⟩ := ih
    refine ⟨[44, 32] ++ t ++ u, j0 + j1, fun j hj => ?_, ⟨?_, ?_⟩, ?_⟩
    · rw [sepW, ht j (by omega), Option.bind_some, hu j (by omega)]
      rfl
    · rw [List.append_assoc, toI_app, toI_app]
      exact GenH.punct 44 (by decide) (GenH.blank 32 (by decide) (hG.appS hS))
    · intro l hl c t' e
      rw [List.append_assoc] at e
      cases e
      exact stops44
    · simp only [List.length_append, List.length_cons, List.length_nil] at hl hm ⊢
      omega
/-- The words of targets. -/
def TW (w : ByteArray) : Prop := w = ⟨#[108, 105, 110, 101, 97, 114]⟩ ∨ w = ⟨#[99, 111, 110, 99, 97, 116]⟩ ∨ w = ⟨#[109, 105, 114, 114, 111, 114]⟩ ∨ w = ⟨#[115, 110, 97, 112, 115, 104, 111, 116]⟩ ∨ w = ⟨#[99, 114, 121, 112, 116]⟩ ∨ w = ⟨#[105, 110, 116, 101, 103, 114, 105, 116, 121]⟩ ∨ w = ⟨#[118, 101, 114, 105, 116, 121]⟩
theorem target_inv {w : ByteArray} (h : ptarget w = true) : TW w := by
  unfold ptarget parse_target.f at h
  unfold TW
  repeat' split at h
  all_goals first
    | (rename_i h1; have h2 := lit_of h1; subst h2; simp; done)
    | (cases h; done)
theorem wt_T {w : ByteArray} (hw : TW w) {t : S60} (hg : GoodTok t) (h0 : t.f0 = 0) (h1 : t.f1 = w) (p : Int) {x : S25} {M : List S25} {Ex EM : List Ek} (hx : Wt x Ex) (hM : LW M EM) (hl : (x :: M).length ≤ 1000000) :
    Wt ⟨w, ⟨#[]⟩, 0, p, x :: M⟩ (er t :: pu 40 :: (Ex ++ EM ++ [pu 41])) := by
  obtain ⟨tx, j0, htx, hG, hlx⟩ := hx
  obtain ⟨u, j1, hu, hS, hm⟩ := hM.out
  refine ⟨w.data.toList ++ [40] ++ (tx ++ u) ++ [41], j0 + j1 + 1, fun j hj => ?_, ?_, ?_⟩
  · obtain ⟨j, rfl⟩ : ∃ m, j = m + 1 := ⟨j - 1, by omega⟩
    have hs : sepW (writeT j) true (x :: M) = some (tx ++ u) := by
      rw [sepW, htx j (by omega), Option.bind_some, hu j (by omega)]
      rfl
    simp only [writeT, hs]
    rw [if_pos (by refine ⟨hl, by omega, by omega⟩)]
    rcases hw with rfl | rfl | rfl | rfl | rfl | rfl | rfl <;> (simp only [ByteArray.toList_eq]; rfl)
  · have := GenH.tok (k := t.f0) (n := t.f2) (s := t.f1) hg
    rw [h0, show txt 0 (bytesOf t.f1) t.f2 = bytesOf t.f1 from rfl] at this
    have e : er t = (0, t.f1, t.f2) := by unfold er; rw [h0]
    rw [e]
    have h2 : Gen0 (toI ([41] : List UInt8)) [pu 41] := Gen0.punct 41 (by decide) Gen0.nil
    have h3 : GenH (toI (tx ++ u)) (Ex ++ EM) := by rw [toI_app]; exact hG.appS hS
    have h4 : Gen0 (toI (tx ++ u) ++ toI [41]) (Ex ++ EM ++ [pu 41]) := h3.app 41 stops41 h2
    have h5 : Gen0 (40 :: (toI (tx ++ u) ++ toI [41])) (pu 40 :: (Ex ++ EM ++ [pu 41])) := Gen0.punct 40 (by decide) h4
    have h6 := this.app 40 stops40 h5
    have e2 : toI (t.f1.data.toList ++ [40] ++ (tx ++ u) ++ [41]) = bytesOf t.f1 ++ 40 :: (toI (tx ++ u) ++ toI [41]) := by
      rw [toI_app, toI_app, toI_app, toI_bytes, List.append_assoc, List.append_assoc]
      rfl
    rw [← h1, e2]
    exact h6.H
  · have := (good_head hg).2
    rw [h0, show txt 0 (bytesOf t.f1) t.f2 = bytesOf t.f1 from rfl, bytesOf_length, h1] at this
    have e : w.data.toList.length = w.size := rfl
    simp only [List.length_append, List.length_cons, List.length_nil, e] at hlx hm ⊢
    omega
end Go.Proofs.YtknbfhhmjbnemaaDoor.P
end
section
namespace Go.Proofs.YtknbfhhmjbnemaaDoor.P
open Go.RowKit Go.Proofs.YtknbfhhmjbnemaaDoorW.PrintWords Go.Proofs.YtknbfhhmjbnemaaDoorW.PrintLast Go.Proofs.YtknbfhhmjbnemaaDoorW.PrintMore Go.Proofs.YtknbfhhmjbnemaaDoor.Pure
set_option linter.unusedVariables false
set_option linter.unusedSimpArgs false

/-! expressions that were read are right, and their text is their tokens -/
theorem rx_all {L : List S25} {nest : Int} : ∀ (n : Nat), (∀ i, i < n → Rx (rd_T25 L (i : Int)) nest) → ∃ K, ∀ i, i < n → ∀ k, K ≤ k → parse_expr.f k (rd_T25 L (i : Int)).f0 (rd_T25 L (i : Int)).f1 (rd_T25 L (i : Int)).f2 (rd_T25 L (i : Int)).f3 (rd_T25 L (i : Int)).f4 nest = some true
  | 0, _ => ⟨0, fun i h => by omega⟩
  | n + 1, h => by
    obtain ⟨K, hK⟩ := rx_all n (fun i hi => h i (by omega))
    obtain ⟨K1, hK1⟩ := h n (by omega)
    refine ⟨K + K1, fun i hi k hk => ?_⟩
    by_cases hn : i = n
    · subst hn; exact hK1 k (by omega)
    · exact hK i (by omega) k (by omega)
theorem rx_loop {L : List S25} {nest : Int} (n : Nat) (hn : n ≤ L.length) (hL : L.length ≤ 1000000) (h0 : 0 ≤ nest ∧ nest ≤ 12) (a b : ByteArray) (c d : Int) (K : Nat) (hK : ∀ i, i < n → ∀ k, K ≤ k → parse_expr.f k (rd_T25 L (i : Int)).f0 (rd_T25 L (i : Int)).f1 (rd_T25 L (i : Int)).f2 (rd_T25 L (i : Int)).f3 (rd_T25 L (i : Int)).f4 (nest + 1) = some true) :
    ∀ (m i k : Nat), i + m = n → K + m < k → parse_expr.l0 k nest (n : Int) true (i : Int) a b c d L = some true
  | 0, i, k, hi, hk => by
    obtain ⟨k, rfl⟩ : ∃ q, k = q + 1 := ⟨k - 1, by omega⟩
    rw [parse_expr.l0, if_pos rfl, if_neg (by omega)]
  | m + 1, i, k, hi, hk => by
    obtain ⟨k, rfl⟩ : ∃ q, k = q + 1 := ⟨k - 1, by omega⟩
    have w1 : wrap64 (nest + 1) = nest + 1 := by unfold wrap64; omega
    have w2 : wrap64 ((i : Int) + 1) = ((i + 1 : Nat) : Int) := by unfold wrap64; omega
    rw [parse_expr.l0, if_pos rfl, if_pos (by omega), if_pos (by omega), if_pos (by omega), w1, hK i (by omega) k (by omega), Option.bind_some, w2]
    exact rx_loop n hn hL h0 a b c d K hK m (i + 1) k (by omega) (by omega)
theorem rx_j3 {L : List S25} {nest : Int} (n : Nat) (hn : n ≤ L.length) (hL : L.length ≤ 1000000) (h0 : 0 ≤ nest ∧ nest ≤ 12) (h : ∀ i, i < n → Rx (rd_T25 L (i : Int)) (nest + 1)) :
    ∃ K, ∀ a b c d k, K ≤ k → parse_expr.j3 k nest (n : Int) true a b c d L = some true := by
  obtain ⟨K, hK⟩ := rx_all n h
  refine ⟨K + n + 2, fun a b c d k hk => ?_⟩
  obtain ⟨k, rfl⟩ : ∃ q, k = q + 1 := ⟨k - 1, by omega⟩
  rw [parse_expr.j3]
  exact rx_loop n hn hL h0 a b c d K hK n 0 k (by omega) (by omega)
theorem rx_head {w : ByteArray} {L : List S25} {nest p : Int} (hw : TW w) (hnest : nest ≤ 12) (hL : L ≠ []) (k : Nat) : parse_expr.f (k + 2) w ⟨#[]⟩ 0 p L nest = parse_expr.j1 k nest false w ⟨#[]⟩ 0 p L := by
  rw [parse_expr.f, if_neg (by omega), parse_expr.j0]
  have e : (w.toList == ([117, 115, 101] : List UInt8)) = false := by rcases hw with rfl | rfl | rfl | rfl | rfl | rfl | rfl <;> (simp only [ByteArray.toList_eq]; decide)
  have e1 : ((L.length : Int) == 0) = false := by
    cases L with
    | nil => exact absurd rfl hL
    | cons x M => rw [List.length_cons, beq_eq_false_iff_ne]; omega
  rw [e, if_neg (by simp), if_pos rfl, if_pos (by simp only [ByteArray.toList_eq]), e1]
section
variable {nest p : Int} (h0 : 0 ≤ nest) (hn : nest ≤ 12) {x : S25} (hx : Rx x (nest + 1))
include h0 hn hx
theorem rx_linear {y z : S25} (hy : Rl y NUM) (hz : Rl z NUM) : Rx ⟨⟨#[108, 105, 110, 101, 97, 114]⟩, ⟨#[]⟩, 0, p, [x, y, z]⟩ nest := by
  obtain ⟨K1, hK1⟩ := hy
  obtain ⟨K2, hK2⟩ := hz
  obtain ⟨K3, hK3⟩ := rx_j3 (L := [x, y, z]) 1 (by simp) (by simp) ⟨h0, hn⟩ (fun i hi => by
    obtain rfl : i = 0 := by omega
    exact hx)
  refine ⟨K1 + K2 + K3 + 3, fun k hk => ?_⟩
  obtain ⟨k, rfl⟩ : ∃ q, k = q + 3 := ⟨k - 3, by omega⟩
  rw [rx_head (.inl rfl) hn (by simp), parse_expr.j1, if_neg (by simp), if_pos (by simp only [ByteArray.toList_eq]), if_pos (by rfl), if_pos (by simp)]
  rw [show rd_T25 [x, y, z] 1 = y from rfl, show rd_T25 [x, y, z] 2 = z from rfl]
  rw [hK1 k (by omega), Option.bind_some, if_pos rfl, if_pos (by simp), hK2 k (by omega), Option.bind_some]
  exact hK3 _ _ _ _ k (by omega)
theorem rx_snap {y z : S25} (hy : Rx y (nest + 1)) (hz : Rl z NUM) : Rx ⟨⟨#[115, 110, 97, 112, 115, 104, 111, 116]⟩, ⟨#[]⟩, 0, p, [x, y, z]⟩ nest := by
  obtain ⟨K2, hK2⟩ := hz
  obtain ⟨K3, hK3⟩ := rx_j3 (L := [x, y, z]) 2 (by simp) (by simp) ⟨h0, hn⟩ (fun i hi => by
    rcases (by omega : i = 0 ∨ i = 1) with rfl | rfl
    · exact hx
    · exact hy)
  refine ⟨K2 + K3 + 3, fun k hk => ?_⟩
  obtain ⟨k, rfl⟩ : ∃ q, k = q + 3 := ⟨k - 3, by omega⟩
  rw [rx_head (.inr (.inr (.inr (.inl rfl)))) hn (by simp), parse_expr.j1, if_neg (by simp), if_neg (by simp only [ByteArray.toList_eq]; decide), if_pos (by simp only [ByteArray.toList_eq]), if_pos (by rfl), if_pos (by simp)]
  rw [show rd_T25 [x, y, z] 2 = z from rfl]
  rw [hK2 k (by omega), Option.bind_some]
  exact hK3 _ _ _ _ k (by omega)
theorem rx_named {w : ByteArray} (hw : w = ⟨#[99, 114, 121, 112, 116]⟩ ∨ w = ⟨#[105, 110, 116, 101, 103, 114, 105, 116, 121]⟩ ∨ w = ⟨#[118, 101, 114, 105, 116, 121]⟩) {z : S25} (hz : Rl z NAME) : Rx ⟨w, ⟨#[]⟩, 0, p, [x, z]⟩ nest := by
  obtain ⟨K2, hK2⟩ := hz
  obtain ⟨K3, hK3⟩ := rx_j3 (L := [x, z]) 1 (by simp) (by simp) ⟨h0, hn⟩ (fun i hi => by
    obtain rfl : i = 0 := by omega
    exact hx)
  refine ⟨K2 + K3 + 4, fun k hk => ?_⟩
  obtain ⟨k, rfl⟩ : ∃ q, k = q + 4 := ⟨k - 4, by omega⟩
  have hj2 : parse_expr.j2 (k + 1) nest 1 true w true w ⟨#[]⟩ 0 p [x, z] = some true := by
    rw [parse_expr.j2, if_pos rfl, if_pos (by rfl), if_pos (by simp), show rd_T25 [x, z] 1 = z from rfl, hK2 k (by omega), Option.bind_some]
    exact hK3 _ _ _ _ k (by omega)
  rcases hw with rfl | rfl | rfl
  · rw [rx_head (.inr (.inr (.inr (.inr (.inl rfl))))) hn (by simp), parse_expr.j1, if_neg (by simp), if_neg (by simp only [ByteArray.toList_eq]; decide), if_neg (by simp only [ByteArray.toList_eq]; decide), if_pos (by simp only [ByteArray.toList_eq])]
    rw [show ((⟨#[99, 114, 121, 112, 116]⟩ : ByteArray).toList == ([99, 114, 121, 112, 116] : List UInt8)) = true by simp only [ByteArray.toList_eq]; rfl]
    exact hj2
  · rw [rx_head (.inr (.inr (.inr (.inr (.inr (.inl rfl)))))) hn (by simp), parse_expr.j1, if_neg (by simp), if_neg (by simp only [ByteArray.toList_eq]; decide), if_neg (by simp only [ByteArray.toList_eq]; decide), if_neg (by simp only [ByteArray.toList_eq]; decide), if_pos (by simp only [ByteArray.toList_eq])]
    rw [show ((⟨#[105, 110, 116, 101, 103, 114, 105, 116, 121]⟩ : ByteArray).toList == ([105, 110, 116, 101, 103, 114, 105, 116, 121] : List UInt8)) = true by simp only [ByteArray.toList_eq]; rfl]
    exact hj2
  · rw [rx_head (.inr (.inr (.inr (.inr (.inr (.inr rfl)))))) hn (by simp), parse_expr.j1, if_neg (by simp), if_neg (by simp only [ByteArray.toList_eq]; decide), if_neg (by simp only [ByteArray.toList_eq]; decide), if_neg (by simp only [ByteArray.toList_eq]; decide), if_neg (by simp only [ByteArray.toList_eq]; decide)]
    rw [show ((⟨#[118, 101, 114, 105, 116, 121]⟩ : ByteArray).toList == ([118, 101, 114, 105, 116, 121] : List UInt8)) = true by simp only [ByteArray.toList_eq]; rfl]
    exact hj2
theorem rx_many {w : ByteArray} (hw : w = ⟨#[99, 111, 110, 99, 97, 116]⟩ ∨ w = ⟨#[109, 105, 114, 114, 111, 114]⟩) {M : List S25} (hM : ∀ y ∈ M, Rx y (nest + 1)) (hl : (x :: M).length ≤ 1000000) : Rx ⟨w, ⟨#[]⟩, 0, p, x :: M⟩ nest := by
  obtain ⟨K3, hK3⟩ := rx_j3 (L := x :: M) (x :: M).length (Nat.le_refl _) hl ⟨h0, hn⟩ (fun i hi => by
    have := rd_mem hi
    rcases List.mem_cons.1 this with e | e
    · rw [e]; exact hx
    · exact hM _ e)
  refine ⟨K3 + 4, fun k hk => ?_⟩
  obtain ⟨k, rfl⟩ : ∃ q, k = q + 4 := ⟨k - 4, by omega⟩
  rcases hw with rfl | rfl
  · rw [rx_head (.inr (.inl rfl)) hn (by simp), parse_expr.j1, if_neg (by simp), if_neg (by simp only [ByteArray.toList_eq]; decide), if_neg (by simp only [ByteArray.toList_eq]; decide), if_neg (by simp only [ByteArray.toList_eq]; decide), if_neg (by simp only [ByteArray.toList_eq]; decide)]
    rw [parse_expr.j2, if_neg (by simp only [ByteArray.toList_eq]; decide), if_pos (by simp only [ByteArray.toList_eq])]
    exact hK3 _ _ _ _ k (by omega)
  · rw [rx_head (.inr (.inr (.inl rfl))) hn (by simp), parse_expr.j1, if_neg (by simp), if_neg (by simp only [ByteArray.toList_eq]; decide), if_neg (by simp only [ByteArray.toList_eq]; decide), if_neg (by simp only [ByteArray.toList_eq]; decide), if_neg (by simp only [ByteArray.toList_eq]; decide)]
    rw [parse_expr.j2, if_neg (by simp only [ByteArray.toList_eq]; decide), if_neg (by simp only [ByteArray.toList_eq]; decide), if_pos (by simp only [ByteArray.toList_eq])]
    exact hK3 _ _ _ _ k (by omega)
end
end Go.Proofs.YtknbfhhmjbnemaaDoor.P
end
section
namespace Go.Proofs.YtknbfhhmjbnemaaDoor.P
open Go.RowKit Go.Proofs.YtknbfhhmjbnemaaDoorW.PrintWords Go.Proofs.YtknbfhhmjbnemaaDoorW.PrintLast Go.Proofs.YtknbfhhmjbnemaaDoorW.PrintMore Go.Proofs.YtknbfhhmjbnemaaDoor.Pure
set_option linter.unusedVariables false
set_option linter.unusedSimpArgs false

def XOk (k : Nat) : Prop := ∀ nest T en n T', 0 ≤ nest → gexpr k nest T en = some (.ok (n, T')) → Goods T → ∃ E, T.map er = E ++ T'.map er ∧ Goods T' ∧ Wt n E ∧ Rx n nest
def XsOk (k : Nat) : Prop := ∀ nest acc T en L T', 0 ≤ nest → gexprs k nest acc T en = some (.ok (L, T')) → Goods T → ∃ M EM, L = acc ++ M ∧ T.map er = EM ++ T'.map er ∧ Goods T' ∧ LW M EM ∧ (∀ y ∈ M, Rx y (nest + 1)) ∧ L.length ≤ 1000000
theorem xs_step (k : Nat) (hX : XOk k) (hXs : XsOk k) : XsOk (k + 1) := by
  intro nest acc T en L T' h0 h hg
  rw [gexprs_eq] at h
  split at h
  case isFalse => cases h
  rename_i hacc
  split at h
  · rename_i hp
    obtain ⟨hm, hg1⟩ := must_inv (T := T) (T' := T.tail) (en := en) (u := ()) (s := CM) 44 (by decide) (by decide +kernel) (by unfold gmust pmust; rw [if_pos hp]) hg
    obtain ⟨a, T1, h1, h2⟩ := bd_inv h
    obtain ⟨E, e1, g1, wa, ra⟩ := hX _ _ _ _ _ (by omega) h1 hg1
    obtain ⟨M, EM, e2, e3, g2, hL, hR, hl⟩ := hXs _ _ _ _ _ _ h0 h2 g1
    refine ⟨a :: M, _, ?_, ?_, g2, LW.cons wa hL, ?_, hl⟩
    · rw [e2]; simp
    · rw [hm, e1, e3]; simp
    · intro y hy
      rcases List.mem_cons.1 hy with e | e
      · rw [e]; exact ra
      · exact hR y e
  · cases h
    exact ⟨[], [], (List.append_nil _).symm, rfl, hg, LW.nil, (fun y hy => by cases hy), hacc⟩
theorem br_ok (k : Nat) (hX : XOk k) (hXs : XsOk k) {w : ByteArray} (hw : TW w) {nest : Int} (h0 : 0 ≤ nest) (hn : nest ≤ 12) {first : S25} (hf : Rx first (nest + 1)) {T T' : List S60} {en : Int} {L : List S25} (h : gbr k w nest first T en = some (.ok (L, T'))) (hg : Goods T) :
    ∃ M EM, L = first :: M ∧ T.map er = EM ++ T'.map er ∧ Goods T' ∧ LW M EM ∧ L.length ≤ 1000000 ∧ ∀ p, Rx ⟨w, ⟨#[]⟩, 0, p, L⟩ nest := by
  unfold gbr at h
  have comma : ∀ {T T' : List S60} {u : Unit}, gmust CM T en = some (.ok (u, T')) → Goods T → T.map er = pu 44 :: T'.map er ∧ Goods T' := fun h hg => must_inv 44 (by decide) (by decide +kernel) h hg
  by_cases c1 : w.toList = ([108, 105, 110, 101, 97, 114] : List UInt8)
  · rw [gite_pos c1] at h
    obtain ⟨u1, T1, h1, h⟩ := bd_inv h
    obtain ⟨a, T2, h2, h⟩ := bd_inv h
    obtain ⟨u3, T3, h3, h⟩ := bd_inv h
    obtain ⟨b, T4, h4, h⟩ := bd_inv h
    cases h
    obtain ⟨e1, g1⟩ := comma h1 hg
    obtain ⟨e2, g2, ga, ka, _⟩ := of_inv h2 g1
    obtain ⟨e3, g3⟩ := comma h3 g2
    obtain ⟨e4, g4, gb, kb, _⟩ := of_inv h4 g3
    obtain ⟨wa, ra⟩ := wt_num ga ka
    obtain ⟨wb, rb⟩ := wt_num gb kb
    have hw2 := lit_of c1
    refine ⟨[pnumN a, pnumN b], _, rfl, ?_, g4, LW.cons wa (LW.cons wb LW.nil), by simp, fun p => ?_⟩
    · rw [e1, e2, e3, e4]; simp
    · rw [hw2]
      exact rx_linear h0 hn hf ra rb
  rw [gite_neg c1] at h
  by_cases c2 : w.toList = ([115, 110, 97, 112, 115, 104, 111, 116] : List UInt8)
  · rw [gite_pos c2] at h
    obtain ⟨u1, T1, h1, h⟩ := bd_inv h
    obtain ⟨a, T2, h2, h⟩ := bd_inv h
    obtain ⟨u3, T3, h3, h⟩ := bd_inv h
    obtain ⟨b, T4, h4, h⟩ := bd_inv h
    cases h
    obtain ⟨e1, g1⟩ := comma h1 hg
    obtain ⟨Ea, e2, g2, wa, ra⟩ := hX _ _ _ _ _ (by omega) h2 g1
    obtain ⟨e3, g3⟩ := comma h3 g2
    obtain ⟨e4, g4, gb, kb, _⟩ := of_inv h4 g3
    obtain ⟨wb, rb⟩ := wt_num gb kb
    have hw2 := lit_of c2
    refine ⟨[a, pnumN b], _, rfl, ?_, g4, LW.cons wa (LW.cons wb LW.nil), by simp, fun p => ?_⟩
    · rw [e1, e2, e3, e4]; simp
    · rw [hw2]
      exact rx_snap h0 hn hf ra rb
  rw [gite_neg c2] at h
  by_cases c3 : w.toList = ([99, 114, 121, 112, 116] : List UInt8) ∨ w.toList = ([105, 110, 116, 101, 103, 114, 105, 116, 121] : List UInt8) ∨ w.toList = ([118, 101, 114, 105, 116, 121] : List UInt8)
  · rw [gite_pos c3] at h
    obtain ⟨u1, T1, h1, h⟩ := bd_inv h
    obtain ⟨a, T2, h2, h⟩ := bd_inv h
    cases h
    obtain ⟨e1, g1⟩ := comma h1 hg
    obtain ⟨e2, g2, ga, ka, hr⟩ := of_inv h2 g1
    obtain ⟨wa, ra, _⟩ := wt_name ga ka (hr rfl)
    have hw2 : w = ⟨#[99, 114, 121, 112, 116]⟩ ∨ w = ⟨#[105, 110, 116, 101, 103, 114, 105, 116, 121]⟩ ∨ w = ⟨#[118, 101, 114, 105, 116, 121]⟩ := by
      rcases c3 with c | c | c
      · exact .inl (lit_of c)
      · exact .inr (.inl (lit_of c))
      · exact .inr (.inr (lit_of c))
    refine ⟨[pnameN a], _, rfl, ?_, g2, LW.cons wa LW.nil, by simp, fun p => rx_named h0 hn hf hw2 ra⟩
    rw [e1, e2]; simp
  rw [gite_neg c3] at h
  obtain ⟨M, EM, e1, e2, g, hL, hR, hl⟩ := hXs _ _ _ _ _ _ h0 h hg
  have hw2 : w = ⟨#[99, 111, 110, 99, 97, 116]⟩ ∨ w = ⟨#[109, 105, 114, 114, 111, 114]⟩ := by
    rcases hw with rfl | rfl | rfl | rfl | rfl | rfl | rfl
    · exact absurd (by simp only [ByteArray.toList_eq]) c1
    · exact .inl rfl
    · exact .inr rfl
    · exact absurd (by simp only [ByteArray.toList_eq]) c2
    · exact absurd (.inl (by simp only [ByteArray.toList_eq])) c3
    · exact absurd (.inr (.inl (by simp only [ByteArray.toList_eq]))) c3
    · exact absurd (.inr (.inr (by simp only [ByteArray.toList_eq]))) c3
  have e3 : L = first :: M := e1
  exact ⟨M, EM, e3, e2, g, hL, hl, fun p => by rw [e3]; exact rx_many h0 hn hf hw2 hR (by rw [← e3]; exact hl)⟩
theorem x_step (k : Nat) (hX : XOk k) (hXs : XsOk k) : XOk (k + 1) := by
  intro nest T en n T' h0 h hg
  by_cases hn0 : nest < 0 ∨ nest > 100
  · unfold gexpr at h; rw [pexpr, if_pos hn0] at h; cases h
  by_cases hn : nest > 12
  · unfold gexpr at h; rw [pexpr, if_neg hn0, if_pos hn] at h; cases h
  have use : ∀ {T : List S60}, guse T en = some (.ok (n, T')) → Goods T → ∃ E, T.map er = E ++ T'.map er ∧ Goods T' ∧ Wt n E ∧ Rx n nest := by
    intro T h hg
    unfold guse at h
    obtain ⟨a, T1, h1, h⟩ := bd_inv h
    cases h
    obtain ⟨e1, g1, ga, ka, hr⟩ := of_inv h1 hg
    obtain ⟨_, _, hu⟩ := wt_name ga ka (hr rfl)
    obtain ⟨wu, ru⟩ := hu a.f3 nest (by omega)
    exact ⟨[er a], e1, g1, wu, ru⟩
  cases T with
  | nil =>
    rw [gexpr_nil k nest hn0 hn] at h
    exact use h hg
  | cons t T =>
    rw [gexpr_cons k nest hn0 hn] at h
    split at h
    case isFalse => exact use h hg
    rename_i hc
    simp only [Bool.and_eq_true, beq_iff_eq] at hc
    have hw := target_inv hc.2
    have ht := hg t List.mem_cons_self
    unfold gT at h
    obtain ⟨u1, T1, h1, h⟩ := bd_inv h
    obtain ⟨first, T2, h2, h⟩ := bd_inv h
    obtain ⟨L, T3, h3, h⟩ := bd_inv h
    obtain ⟨u4, T4, h4, h⟩ := bd_inv h
    cases h
    obtain ⟨e1, g1⟩ := must_inv 40 (by decide) (by decide +kernel) h1 hg.tail
    obtain ⟨E1, e2, g2, w1, r1⟩ := hX _ _ _ _ _ (by omega) h2 g1
    obtain ⟨M, EM, eL, e3, g3, hL, hl, hR⟩ := br_ok k hX hXs hw h0 (by omega) r1 h3 g2
    obtain ⟨e4, g4⟩ := must_inv 41 (by decide) (by decide +kernel) h4 g3
    refine ⟨er t :: pu 40 :: (E1 ++ EM ++ [pu 41]), ?_, g4, ?_, hR _⟩
    · rw [List.map_cons, e1, e2, e3, e4]; simp
    · rw [eL]
      exact wt_T hw ht hc.1 rfl _ w1 hL (by rw [← eL]; exact hl)
theorem x_all : ∀ k, XOk k ∧ XsOk k
  | 0 => by
    constructor
    · intro nest T en n T' _ h _
      rw [gexpr_zero] at h
      cases h
    · intro nest acc T en L T' _ h _
      rw [gexprs_zero] at h
      cases h
  | k + 1 => by
    obtain ⟨h1, h2⟩ := x_all k
    exact ⟨x_step k h1 h2, xs_step k h1 h2⟩
end Go.Proofs.YtknbfhhmjbnemaaDoor.P
end
section
namespace Go.Proofs.YtknbfhhmjbnemaaDoor.P
open Go.RowKit Go.Proofs.YtknbfhhmjbnemaaDoorW.PrintWords Go.Proofs.YtknbfhhmjbnemaaDoorW.PrintLast Go.Proofs.YtknbfhhmjbnemaaDoorW.PrintMore Go.Proofs.YtknbfhhmjbnemaaDoor.Pure
set_option linter.unusedVariables false
set_option linter.unusedSimpArgs false

/-! statements that were read are right, and their text is their tokens -/
def St (n : S25) (E : List Ek) : Prop := ∃ t j0, (∀ j, j0 ≤ j → writeT j n = some t) ∧ Gen0 (toI t) E ∧ t.length ≤ 200 * E.length
def Rs (n : S25) : Prop := ∃ K, ∀ k, K ≤ k → parse_statement.f k n.f0 n.f1 n.f2 n.f3 n.f4 = some true
theorem gen_word {t : S60} (hg : GoodTok t) (h0 : t.f0 = 0) : GenH (bytesOf t.f1) [er t] ∧ t.f1.data.toList.length ≤ 129 := by
  have := GenH.tok (k := t.f0) (n := t.f2) (s := t.f1) hg
  rw [h0, show txt 0 (bytesOf t.f1) t.f2 = bytesOf t.f1 from rfl] at this
  have e : er t = (0, t.f1, t.f2) := by unfold er; rw [h0]
  have h2 := (good_head hg).2
  rw [h0, show txt 0 (bytesOf t.f1) t.f2 = bytesOf t.f1 from rfl, bytesOf_length] at h2
  exact ⟨by rw [e]; exact this, h2⟩
theorem gen_end : Gen0 (toI ([59, 10] : List UInt8)) [pu 59] := Gen0.punct 59 (by decide) (Gen0.blank 10 (by decide) Gen0.nil)
/-- word, blank, name, what follows. -/
theorem gen_two {t nm : S60} (ht : GoodTok t) (h0 : t.f0 = 0) (hn : GoodTok nm) (hn0 : nm.f0 = 0) {c : Int} (hc : stops c) {u : List Int} {E : List Ek} (h : Gen0 (c :: u) E) : Gen0 (bytesOf t.f1 ++ 32 :: (bytesOf nm.f1 ++ c :: u)) (er t :: er nm :: E) := by
  have h1 := (gen_word hn hn0).1.app c hc h
  exact (gen_word ht h0).1.app 32 stops32 (Gen0.blank 32 (by decide) h1)
section
variable {t nm : S60} (ht : GoodTok t) (h0 : t.f0 = 0) (hn : GoodTok nm) (hn0 : nm.f0 = 0) (hr : presv nm.f1 = some false) (p : Int)
include ht h0 hn hn0 hr
theorem st_num {a : S60} (hw : t.f1 = ⟨#[100, 101, 118, 105, 99, 101]⟩ ∨ t.f1 = ⟨#[106, 111, 117, 114, 110, 97, 108]⟩) (ha : GoodTok a) (ha0 : a.f0 = 1) :
    St ⟨t.f1, nm.f1, a.f2, p, []⟩ (er t :: er nm :: er a :: [pu 59]) ∧ Rs ⟨t.f1, nm.f1, a.f2, p, []⟩ := by
  obtain ⟨hs, hn0', hn1⟩ := good_num ha ha0
  have hit := itoa_digL a.f2 hn0' hn1
  have hl1 := (gen_word ht h0).2
  have hl2 := (gen_word hn hn0).2
  have hl3 := (digL_len a.f2.toNat).2
  rw [← hit, toI_len] at hl3
  refine ⟨⟨t.f1.data.toList ++ [32] ++ nm.f1.data.toList ++ [32] ++ Lib.itoa a.f2 ++ [59, 10], 1, fun j hj => ?_, ?_, ?_⟩, 5002, fun k hk => ?_⟩
  · obtain ⟨j, rfl⟩ : ∃ m, j = m + 1 := ⟨j - 1, by omega⟩
    simp only [writeT]
    rw [if_pos (by refine ⟨?_, by omega, by omega⟩; simp)]
    rcases hw with e | e <;> rw [e] <;> (simp only [ByteArray.toList_eq]; rfl)
  · have := GenH.tok (k := a.f0) (n := a.f2) (s := a.f1) ha
    rw [ha0, show txt 1 (bytesOf a.f1) a.f2 = digL a.f2.toNat from rfl, ← hit] at this
    have e : er a = (1, a.f1, a.f2) := by unfold er; rw [ha0]
    rw [e]
    have h3 := this.app 59 stops59 gen_end
    have h4 := gen_two ht h0 hn hn0 stops32 (Gen0.blank 32 (by decide) h3)
    have e2 : toI (t.f1.data.toList ++ [32] ++ nm.f1.data.toList ++ [32] ++ Lib.itoa a.f2 ++ [59, 10]) = bytesOf t.f1 ++ 32 :: (bytesOf nm.f1 ++ 32 :: (toI (Lib.itoa a.f2) ++ 59 :: toI [10])) := by
      simp only [toI_app, List.append_assoc]
      rfl
    rw [e2]
    exact h4
  · simp only [List.length_append, List.length_cons, List.length_nil]
    omega
  · obtain ⟨k, rfl⟩ : ∃ m, k = m + 1 := ⟨k - 1, by omega⟩
    unfold parse_statement.f
    rw [name_ok hn hn0 hr (k + 1) (by omega), Option.bind_some, if_pos rfl]
    have hnum : parse_number.f a.f2 = some true := by
      unfold parse_number.f
      rw [if_pos (show a.f2 ≥ 0 from hn0'), decide_eq_true (show a.f2 ≤ 999999999 by omega)]
    have hj : ∀ x9 : ByteArray, parse_statement.j0 (k + 1) x9 true t.f1 nm.f1 a.f2 p [] = some true := by
      intro x9
      rw [parse_statement.j0, if_pos rfl, if_pos (by rfl), hnum]
      rfl
    rcases hw with e | e
    · rw [if_pos (by rw [e]; simp only [ByteArray.toList_eq]), show (t.f1.toList == ([100, 101, 118, 105, 99, 101] : List UInt8)) = true by rw [e]; simp only [ByteArray.toList_eq]; rfl]
      exact hj _
    · rw [if_neg (by rw [e]; simp only [ByteArray.toList_eq]; decide), show (t.f1.toList == ([106, 111, 117, 114, 110, 97, 108] : List UInt8)) = true by rw [e]; simp only [ByteArray.toList_eq]; rfl]
      exact hj _
omit ht h0 in
theorem st_j1 (hw : t.f1 = ⟨#[107, 101, 121]⟩ ∨ t.f1 = ⟨#[114, 111, 111, 116]⟩ ∨ t.f1 = ⟨#[118, 111, 108, 117, 109, 101]⟩) (x : S25) (k : Nat) (hk : 5000 ≤ k) : parse_statement.f (k + 2) t.f1 nm.f1 0 p [x] = parse_statement.j2 k (decide (t.f1 = ⟨#[107, 101, 121]⟩ ∨ t.f1 = ⟨#[114, 111, 111, 116]⟩)) t.f1 nm.f1 0 p [x] x.f0 x.f1 x.f2 x.f3 x.f4 := by
  unfold parse_statement.f
  rw [name_ok hn hn0 hr (k + 2) (by omega), Option.bind_some, if_pos rfl]
  have hj : ∀ x9 : ByteArray, x9 = t.f1 → parse_statement.j0 (k + 2) x9 false t.f1 nm.f1 0 p [x] = parse_statement.j1 (k + 1) false t.f1 nm.f1 0 p [x] := by
    intro x9 e9
    rw [parse_statement.j0, if_neg (by simp), if_neg (by rw [e9]; rcases hw with e | e | e <;> rw [e] <;> simp only [ByteArray.toList_eq] <;> decide), if_pos rfl]
    rfl
  have e2 : parse_statement.j1 (k + 1) false t.f1 nm.f1 0 p [x] = parse_statement.j2 k (decide (t.f1 = ⟨#[107, 101, 121]⟩ ∨ t.f1 = ⟨#[114, 111, 111, 116]⟩)) t.f1 nm.f1 0 p [x] x.f0 x.f1 x.f2 x.f3 x.f4 := by
    rw [parse_statement.j1, if_neg (by simp), if_pos (by simp), show rd_T25 [x] 0 = x from rfl]
    rcases hw with e | e | e <;> rw [e] <;> simp only [ByteArray.toList_eq] <;> rfl
  rw [if_neg (by rcases hw with e | e | e <;> rw [e] <;> simp only [ByteArray.toList_eq] <;> decide), show (t.f1.toList == ([106, 111, 117, 114, 110, 97, 108] : List UInt8)) = false by rcases hw with e | e | e <;> rw [e] <;> simp only [ByteArray.toList_eq] <;> rfl, hj _ rfl, e2]
theorem st_hex {a : S60} (hw : t.f1 = ⟨#[107, 101, 121]⟩ ∨ t.f1 = ⟨#[114, 111, 111, 116]⟩) (ha : GoodTok a) (ha0 : a.f0 = 2) :
    St ⟨t.f1, nm.f1, 0, p, [phexN a]⟩ (er t :: er nm :: er a :: [pu 59]) ∧ Rs ⟨t.f1, nm.f1, 0, p, [phexN a]⟩ := by
  obtain ⟨ta, j0, hta, hG, hla⟩ := wt_hex ha ha0
  have hl1 := (gen_word ht h0).2
  have hl2 := (gen_word hn hn0).2
  refine ⟨⟨t.f1.data.toList ++ [32] ++ nm.f1.data.toList ++ [32] ++ ta ++ [59, 10], j0 + 1, fun j hj => ?_, ?_, ?_⟩, 5003, fun k hk => ?_⟩
  · obtain ⟨j, rfl⟩ : ∃ m, j = m + 1 := ⟨j - 1, by omega⟩
    simp only [writeT, headW, hta j (by omega)]
    rw [if_pos (by refine ⟨?_, by omega, by omega⟩; simp)]
    rcases hw with e | e <;> rw [e] <;> (simp only [ByteArray.toList_eq]; rfl)
  · have h3 := hG.app 59 stops59 gen_end
    have h4 := gen_two ht h0 hn hn0 stops32 (Gen0.blank 32 (by decide) h3)
    have e2 : toI (t.f1.data.toList ++ [32] ++ nm.f1.data.toList ++ [32] ++ ta ++ [59, 10]) = bytesOf t.f1 ++ 32 :: (bytesOf nm.f1 ++ 32 :: (toI ta ++ 59 :: toI [10])) := by
      simp only [toI_app, List.append_assoc]
      rfl
    rw [e2]
    exact h4
  · simp only [List.length_append, List.length_cons, List.length_nil] at hla ⊢
    omega
  · obtain ⟨k, rfl⟩ : ∃ m, k = m + 3 := ⟨k - 3, by omega⟩
    have := st_j1 hn hn0 hr p (by rcases hw with e | e; exact .inl e; exact .inr (.inl e)) (phexN a) (k + 1) (by omega)
    rw [this, decide_eq_true hw, parse_statement.j2, if_pos rfl]
    unfold phexN
    rw [if_pos (by simp only [ByteArray.toList_eq]), if_pos rfl, if_pos (by rfl), hex_ok ha ha0 k (by omega)]
    rfl
theorem st_vol {x : S25} {Ex : List Ek} (hw : t.f1 = ⟨#[118, 111, 108, 117, 109, 101]⟩) (hx : Wt x Ex) (hR : Rx x 1) :
    St ⟨t.f1, nm.f1, 0, p, [x]⟩ (er t :: er nm :: pu 61 :: (Ex ++ [pu 59])) ∧ Rs ⟨t.f1, nm.f1, 0, p, [x]⟩ := by
  obtain ⟨ta, j0, hta, hG, hla⟩ := hx
  obtain ⟨K, hK⟩ := hR
  have hl1 := (gen_word ht h0).2
  have hl2 := (gen_word hn hn0).2
  refine ⟨⟨[118, 111, 108, 117, 109, 101, 32] ++ nm.f1.data.toList ++ [32, 61, 32] ++ ta ++ [59, 10], j0 + 1, fun j hj => ?_, ?_, ?_⟩, K + 5003, fun k hk => ?_⟩
  · obtain ⟨j, rfl⟩ : ∃ m, j = m + 1 := ⟨j - 1, by omega⟩
    simp only [writeT, headW, hta j (by omega)]
    rw [if_pos (by refine ⟨?_, by omega, by omega⟩; simp)]
    rw [hw]
    simp only [ByteArray.toList_eq]
    rfl
  · have h3 := hG.app 59 stops59 gen_end
    have h4 := gen_two ht h0 hn hn0 stops32 (Gen0.blank 32 (by decide) (Gen0.punct 61 (by decide) (Gen0.blank 32 (by decide) h3)))
    have e2 : toI ([118, 111, 108, 117, 109, 101, 32] ++ nm.f1.data.toList ++ [32, 61, 32] ++ ta ++ [59, 10]) = bytesOf t.f1 ++ 32 :: (bytesOf nm.f1 ++ 32 :: 61 :: 32 :: (toI ta ++ 59 :: toI [10])) := by
      rw [hw]
      simp only [toI_app, List.append_assoc]
      rfl
    rw [e2]
    exact h4
  · simp only [List.length_append, List.length_cons, List.length_nil] at hla ⊢
    omega
  · obtain ⟨k, rfl⟩ : ∃ m, k = m + 3 := ⟨k - 3, by omega⟩
    have := st_j1 hn hn0 hr p (.inr (.inr hw)) x (k + 1) (by omega)
    rw [this, decide_eq_false (by rw [hw]; decide), parse_statement.j2, if_neg (by simp), if_pos (by rw [hw]; simp only [ByteArray.toList_eq]), hK k (by omega)]
    rfl
theorem st_exp (hw : t.f1 = ⟨#[101, 120, 112, 111, 114, 116]⟩) {b : Int} {E : List Ek} (hb : (b = 0 ∧ E = []) ∨ (b = 1 ∧ GenH (bytesOf RO) E ∧ E.length = 1)) :
    St ⟨t.f1, nm.f1, b, p, []⟩ (er t :: er nm :: (E ++ [pu 59])) ∧ Rs ⟨t.f1, nm.f1, b, p, []⟩ := by
  have hl1 := (gen_word ht h0).2
  have hl2 := (gen_word hn hn0).2
  refine ⟨⟨[101, 120, 112, 111, 114, 116, 32] ++ nm.f1.data.toList ++ (if b = 1 then [32, 114, 101, 97, 100, 111, 110, 108, 121] else []) ++ [59, 10], 1, fun j hj => ?_, ?_, ?_⟩, 5003, fun k hk => ?_⟩
  · obtain ⟨j, rfl⟩ : ∃ m, j = m + 1 := ⟨j - 1, by omega⟩
    simp only [writeT]
    rw [if_pos (by refine ⟨?_, ?_, ?_⟩; simp; all_goals (rcases hb with ⟨h, _⟩ | ⟨h, _⟩ <;> rw [h] <;> decide))]
    rw [hw]
    simp only [ByteArray.toList_eq]
    rfl
  · rcases hb with ⟨rfl, rfl⟩ | ⟨rfl, hG, _⟩
    · have h4 := gen_two ht h0 hn hn0 stops59 gen_end
      have e2 : toI ([101, 120, 112, 111, 114, 116, 32] ++ nm.f1.data.toList ++ (if (0 : Int) = 1 then [32, 114, 101, 97, 100, 111, 110, 108, 121] else []) ++ [59, 10]) = bytesOf t.f1 ++ 32 :: (bytesOf nm.f1 ++ 59 :: toI [10]) := by
        rw [hw, if_neg (by decide), List.append_nil]
        simp only [toI_app, List.append_assoc]
        rfl
      rw [e2]
      exact h4
    · have h3 := hG.app 59 stops59 gen_end
      have h4 := gen_two ht h0 hn hn0 stops32 (Gen0.blank 32 (by decide) h3)
      have e2 : toI ([101, 120, 112, 111, 114, 116, 32] ++ nm.f1.data.toList ++ (if (1 : Int) = 1 then [32, 114, 101, 97, 100, 111, 110, 108, 121] else []) ++ [59, 10]) = bytesOf t.f1 ++ 32 :: (bytesOf nm.f1 ++ 32 :: (bytesOf RO ++ 59 :: toI [10])) := by
        rw [hw, if_pos rfl]
        simp only [toI_app, List.append_assoc]
        rfl
      rw [e2]
      exact h4
  · split <;> simp only [List.length_append, List.length_cons, List.length_nil] <;> omega
  · obtain ⟨k, rfl⟩ : ∃ m, k = m + 2 := ⟨k - 2, by omega⟩
    unfold parse_statement.f
    rw [name_ok hn hn0 hr (k + 2) (by omega), Option.bind_some, if_pos rfl]
    rw [if_neg (by rw [hw]; simp only [ByteArray.toList_eq]; decide), show (t.f1.toList == ([106, 111, 117, 114, 110, 97, 108] : List UInt8)) = false by rw [hw]; simp only [ByteArray.toList_eq]; rfl, parse_statement.j0, if_neg (by simp), if_pos (by rw [hw]; simp only [ByteArray.toList_eq]), if_pos (by rfl)]
    rcases hb with ⟨rfl, _⟩ | ⟨rfl, _⟩
    · rfl
    · rfl
end
end Go.Proofs.YtknbfhhmjbnemaaDoor.P
end
section
namespace Go.Proofs.YtknbfhhmjbnemaaDoor.P
open Go.RowKit Go.Proofs.YtknbfhhmjbnemaaDoorW.PrintWords Go.Proofs.YtknbfhhmjbnemaaDoorW.PrintLast Go.Proofs.YtknbfhhmjbnemaaDoorW.PrintMore Go.Proofs.YtknbfhhmjbnemaaDoor.Pure
set_option linter.unusedVariables false
set_option linter.unusedSimpArgs false

/-! a text that was read is printed, and its print is read as the same tree -/
theorem stw_inv {T T' : List S60} {en : Int} {t : S60} (h : gstw T en = some (.ok (t, T'))) (hg : Goods T) : T.map er = er t :: T'.map er ∧ Goods T' ∧ GoodTok t ∧ t.f0 = 0 := by
  unfold gstw gtake ptake at h
  cases T with
  | nil => cases h
  | cons u T =>
    simp only [Option.map_some] at h
    split at h
    case isFalse => cases h
    rename_i hp
    cases h
    unfold pstw at hp
    simp only [Bool.and_eq_true, beq_iff_eq] at hp
    exact ⟨rfl, hg.tail, hg t List.mem_cons_self, hp.2⟩
theorem stmt_ok {k : Nat} {T T' : List S60} {en : Int} {n : S25} (h : gstmt k T en = some (.ok (n, T'))) (hg : Goods T) (hw : ∀ t u, gstw T en = some (.ok (t, u)) → pstw t = true) : ∃ E, T.map er = E ++ T'.map er ∧ Goods T' ∧ St n E ∧ Rs n ∧ 1 ≤ E.length := by
  unfold gstmt at h
  obtain ⟨t, T1, h1, h⟩ := bd_inv h
  have hps := hw _ _ h1
  obtain ⟨e1, g1, gt, t0⟩ := stw_inv h1 hg
  obtain ⟨nm, T2, h2, h⟩ := bd_inv h
  obtain ⟨e2, g2, gn, n0, hr⟩ := of_inv h2 g1
  have hr := hr rfl
  unfold gtail at h
  obtain ⟨nl, T3, h3, h⟩ := bd_inv h
  obtain ⟨u4, T4, h4, h⟩ := bd_inv h
  cases h
  have semi : ∀ {T T' : List S60} {u : Unit}, gmust SC T en = some (.ok (u, T')) → Goods T → T.map er = pu 59 :: T'.map er ∧ Goods T' := fun h hg => must_inv 59 (by decide) (by decide +kernel) h hg
  unfold gval at h3
  by_cases c1 : t.f1.toList = ([100, 101, 118, 105, 99, 101] : List UInt8) ∨ t.f1.toList = ([106, 111, 117, 114, 110, 97, 108] : List UInt8)
  · rw [gite_pos c1] at h3
    obtain ⟨a, T5, h5, h3⟩ := bd_inv h3
    cases h3
    obtain ⟨e5, g5, ga, a0, _⟩ := of_inv h5 g2
    obtain ⟨e6, g6⟩ := semi h4 g5
    obtain ⟨s1, s2⟩ := st_num gt t0 gn n0 hr t.f3 (by rcases c1 with c | c; exact .inl (lit_of c); exact .inr (lit_of c)) ga a0
    exact ⟨_, by rw [e1, e2, e5, e6]; rfl, g6, s1, s2, by simp⟩
  rw [gite_neg c1] at h3
  by_cases c2 : t.f1.toList = ([107, 101, 121] : List UInt8) ∨ t.f1.toList = ([114, 111, 111, 116] : List UInt8)
  · rw [gite_pos c2] at h3
    obtain ⟨a, T5, h5, h3⟩ := bd_inv h3
    cases h3
    obtain ⟨e5, g5, ga, a0, _⟩ := of_inv h5 g2
    obtain ⟨e6, g6⟩ := semi h4 g5
    obtain ⟨s1, s2⟩ := st_hex gt t0 gn n0 hr t.f3 (by rcases c2 with c | c; exact .inl (lit_of c); exact .inr (lit_of c)) ga a0
    exact ⟨_, by rw [e1, e2, e5, e6]; rfl, g6, s1, s2, by simp⟩
  rw [gite_neg c2] at h3
  by_cases c3 : t.f1.toList = ([118, 111, 108, 117, 109, 101] : List UInt8)
  · rw [gite_pos c3] at h3
    obtain ⟨u5, T5, h5, h3⟩ := bd_inv h3
    obtain ⟨a, T6, h6, h3⟩ := bd_inv h3
    cases h3
    obtain ⟨e5, g5⟩ := must_inv 61 (by decide) (by decide +kernel) h5 g2
    obtain ⟨E, e6, g6, wx, rx⟩ := (x_all k).1 _ _ _ _ _ (by decide) h6 g5
    obtain ⟨e7, g7⟩ := semi h4 g6
    obtain ⟨s1, s2⟩ := st_vol gt t0 gn n0 hr t.f3 (lit_of c3) wx rx
    exact ⟨_, by rw [e1, e2, e5, e6, e7]; simp, g7, s1, s2, by simp⟩
  rw [gite_neg c3] at h3
  have hex : t.f1.toList = ([101, 120, 112, 111, 114, 116] : List UInt8) := by
    unfold pstw at hps
    simp only [Bool.and_eq_true, Bool.or_eq_true, beq_iff_eq] at hps
    rcases hps.1 with ((((h | h) | h) | h) | h) | h
    · exact absurd (.inl h) c1
    · exact absurd (.inr h) c1
    · exact absurd (.inl h) c2
    · exact absurd (.inr h) c2
    · exact absurd h c3
    · exact h
  rw [gite_pos hex] at h3
  unfold gro at h3
  split at h3
  · rename_i hp
    cases h3
    cases T2 with
    | nil => cases hp
    | cons ro T2 =>
      unfold pis at hp
      simp only [Bool.and_eq_true, Bool.or_eq_true, beq_iff_eq] at hp
      have hgr := g2 ro List.mem_cons_self
      have hr1 : ro.f1 = RO := by apply byteArray_ext; have := hp.2; rw [ByteArray.toList_eq, ByteArray.toList_eq] at this; exact this
      have hr0 : ro.f0 = 0 := by
        rcases hp.1 with h | h
        · exact h
        · exfalso
          unfold GoodTok at hgr
          rw [h, hr1] at hgr
          rcases hgr with ⟨h, _⟩ | ⟨h, _⟩ | ⟨h, _⟩ | ⟨_, ⟨c, hc, _⟩, _⟩
          · cases h
          · cases h
          · cases h
          · have := congrArg List.length hc
            rw [bytesOf_length, show RO.size = 8 from rfl, List.length_singleton] at this
            cases this
      obtain ⟨e6, g6⟩ := semi h4 g2.tail
      have hG := (gen_word hgr hr0).1
      rw [hr1] at hG
      obtain ⟨s1, s2⟩ := st_exp gt t0 gn n0 hr t.f3 (lit_of hex) (b := 1) (E := [er ro]) (.inr ⟨rfl, hG, rfl⟩)
      exact ⟨_, by rw [e1, e2, List.map_cons, show T2.map er = _ from e6]; rfl, g6, s1, s2, by simp⟩
  · cases h3
    obtain ⟨e6, g6⟩ := semi h4 g2
    obtain ⟨s1, s2⟩ := st_exp gt t0 gn n0 hr t.f3 (lit_of hex) (b := 0) (E := []) (.inl ⟨rfl, rfl⟩)
    exact ⟨_, by rw [e1, e2, e6]; rfl, g6, s1, s2, by simp⟩
theorem stw_p {T T' : List S60} {en : Int} {t : S60} (h : gstw T en = some (.ok (t, T'))) : pstw t = true := by
  unfold gstw gtake ptake at h
  cases T with
  | nil => cases h
  | cons u T =>
    simp only [Option.map_some] at h
    split at h
    case isFalse => cases h
    rename_i hp
    cases h
    exact hp
inductive SW : List S25 → List Ek → Prop
  | nil : SW [] []
  | cons {x : S25} {M : List S25} {Ex EM : List Ek} (h : St x Ex) (h1 : SW M EM) : SW (x :: M) (Ex ++ EM)
theorem SW.out {M : List S25} {EM : List Ek} (h : SW M EM) : ∃ t j0, (∀ j, j0 ≤ j → catW (writeT j) M = some t) ∧ Gen0 (toI t) EM ∧ t.length ≤ 200 * EM.length := by
  induction h with
  | nil => exact ⟨[], 0, fun j _ => rfl, Gen0.nil, by simp⟩
  | @cons x M Ex EM hx h1 ih =>
    obtain ⟨t, j0, ht, hG, hl⟩ := hx
    obtain ⟨u, j1, hu, hS, hm⟩ := ih
    refine ⟨t ++ u, j0 + j1, fun j hj => ?_, ?_, ?_⟩
    · rw [catW, ht j (by omega), Option.bind_some, hu j (by omega)]
      rfl
    · rw [toI_app]
      exact hG.app hS
    · simp only [List.length_append]
      omega
theorem stmts_ok : ∀ k acc T en L T', gstmts k acc T en = some (.ok (L, T')) → Goods T → ∃ M EM, L = acc ++ M ∧ T.map er = EM ∧ SW M EM ∧ (∀ y ∈ M, Rs y) ∧ L.length ≤ 1000000
  | 0, acc, T, en, L, T', h, hg => by rw [gstmts_zero] at h; cases h
  | k + 1, acc, T, en, L, T', h, hg => by
    rw [gstmts_eq] at h
    split at h
    case isFalse => cases h
    rename_i hacc
    split at h
    · rename_i hT
      cases h
      exact ⟨[], [], (List.append_nil _).symm, by rw [hT]; rfl, SW.nil, (fun y hy => by cases hy), hacc⟩
    · obtain ⟨a, T1, h1, h2⟩ := bd_inv h
      obtain ⟨E, e1, g1, sa, ra, _⟩ := stmt_ok h1 hg (fun t u ht => stw_p ht)
      obtain ⟨M, EM, e2, e3, hM, hR, hl⟩ := stmts_ok k _ _ _ _ _ h2 g1
      refine ⟨a :: M, _, ?_, ?_, SW.cons sa hM, ?_, hl⟩
      · rw [e2]; simp
      · rw [e1, e3]
      · intro y hy
        rcases List.mem_cons.1 hy with e | e
        · rw [e]; exact ra
        · exact hR y e
theorem rs_all : ∀ (M : List S25), (∀ y ∈ M, Rs y) → ∃ K, ∀ y ∈ M, ∀ k, K ≤ k → parse_statement.f k y.f0 y.f1 y.f2 y.f3 y.f4 = some true
  | [], _ => ⟨0, fun y hy => by cases hy⟩
  | x :: M, h => by
    obtain ⟨K, hK⟩ := rs_all M (fun y hy => h y (List.mem_cons_of_mem _ hy))
    obtain ⟨K1, hK1⟩ := h x List.mem_cons_self
    refine ⟨K + K1, fun y hy k hk => ?_⟩
    rcases List.mem_cons.1 hy with e | e
    · rw [e]; exact hK1 k (by omega)
    · exact hK y e k (by omega)
theorem right_loop {L : List S25} (hL : L.length ≤ 1000000) (K : Nat) (hK : ∀ y ∈ L, ∀ k, K ≤ k → parse_statement.f k y.f0 y.f1 y.f2 y.f3 y.f4 = some true) : ∀ (m i k : Nat), i + m = L.length → K + m < k → parse_Right.l0 k L (L.length : Int) (i : Int) = some true
  | 0, i, k, hi, hk => by
    obtain ⟨k, rfl⟩ : ∃ q, k = q + 1 := ⟨k - 1, by omega⟩
    rw [parse_Right.l0, if_neg (by omega)]
  | m + 1, i, k, hi, hk => by
    obtain ⟨k, rfl⟩ : ∃ q, k = q + 1 := ⟨k - 1, by omega⟩
    have w2 : wrap64 ((i : Int) + 1) = ((i + 1 : Nat) : Int) := by unfold wrap64; omega
    rw [parse_Right.l0, if_pos (by omega), if_pos (by omega), if_pos (by omega), hK _ (rd_mem (by omega)) k (by omega), Option.bind_some, if_pos rfl, w2]
    exact right_loop hL K hK m (i + 1) k (by omega) (by omega)
theorem right_file {L : List S25} (hL : L.length ≤ 1000000) (h : ∀ y ∈ L, Rs y) : ∃ K, ∀ k, K ≤ k → parse_Right.f k FILE ⟨#[]⟩ 0 0 L = some true := by
  obtain ⟨K, hK⟩ := rs_all L h
  refine ⟨K + L.length + 3, fun k hk => ?_⟩
  obtain ⟨k, rfl⟩ : ∃ q, k = q + 1 := ⟨k - 1, by omega⟩
  unfold parse_Right.f
  rw [if_pos (by simp only [ByteArray.toList_eq]), if_pos (by simp only [ByteArray.toList_eq]), parse_Right.j0, if_neg (by decide)]
  exact right_loop hL K hK L.length 0 k (by omega) (by omega)
/-- What is printed of what was read. -/
theorem print_plain (a : ByteArray) (ha : (parseX a).2.1 = 0) : ∃ s K, (∀ k, K ≤ k → printP k (parseX a).1 = some (s, 0)) ∧ (∀ k, K ≤ k → parse_Right.f k (parseX a).1.f0 (parseX a).1.f1 (parseX a).1.f2 (parseX a).1.f3 (parseX a).1.f4 = some true) ∧ (∀ k, K ≤ k → writeT k (parseX a).1 = some s.data.toList) ∧
    ∃ T L, scan (bytesOf a) = .ok T ∧ gstmts 600 [] T a.size = some (.ok (L, [])) ∧ parseX a = (⟨FILE, ⟨#[]⟩, 0, 0, L⟩, 0, -1) ∧ Lx (bytesOf s) (T.map er) := by
  obtain ⟨T, L, hs, hgs, hp⟩ := parseX_file ha
  have hg := hgs 600 (Nat.le_refl _)
  have hgood : Goods T := scan_good hs
  have hT := (scan_ok hs).2.1
  obtain ⟨M, EM, e1, e2, hM, hR, hl⟩ := stmts_ok _ _ _ _ _ _ hg hgood
  obtain ⟨t, j0, ht, hG, hlt⟩ := hM.out
  rw [List.nil_append] at e1
  subst e1
  obtain ⟨K, hK⟩ := right_file hl hR
  have htl : t.length ≤ 1000000000 := by rw [← e2, List.length_map] at hlt; omega
  have hw : ∀ k, j0 + 1 ≤ k → writeT k ⟨FILE, ⟨#[]⟩, 0, 0, L⟩ = some t := by
    intro k hk
    obtain ⟨k, rfl⟩ : ∃ q, k = q + 1 := ⟨k - 1, by omega⟩
    simp only [writeT, ht k (by omega)]
    rw [if_pos ⟨hl, by decide, by decide⟩]
    simp only [ByteArray.toList_eq]
    rfl
  rw [hp]
  refine ⟨⟨t.toArray⟩, K + j0 + 1, fun k hk => ?_, fun k hk => hK k (by omega), fun k hk => hw k (by omega), T, L, hs, hg, rfl, ?_⟩
  · unfold printP
    rw [show parse_Right.f k _ _ _ _ _ = _ from hK k (by omega), Option.bind_some, if_pos rfl, hw k (by omega), Option.bind_some, if_pos htl]
  · rw [e2]
    have := hG.lx
    have e : bytesOf (⟨t.toArray⟩ : ByteArray) = toI t := rfl
    rw [e]
    exact this
/-! trees alike are written alike -/
theorem cat_En {f g : S25 → Option (List UInt8)} : ∀ {l m : List S25}, l.length = m.length → (∀ i, i < l.length → f (rd_T25 l (i : Int)) = g (rd_T25 m (i : Int))) → catW f l = catW g m ∧ headW f l = headW g m ∧ ∀ b, sepW f b l = sepW g b m
  | [], [], _, _ => ⟨rfl, rfl, fun b => rfl⟩
  | x :: l, y :: m, hl, h => by
    have h0 : f x = g y := h 0 (by simp)
    obtain ⟨i1, i2, i3⟩ := cat_En (f := f) (g := g) (l := l) (m := m) (by simpa using hl) (fun i hi => h (i + 1) (by simp; omega))
    exact ⟨by rw [catW, catW, h0, i1], h0, fun b => by rw [sepW, sepW, h0, i3]⟩
theorem write_En : ∀ (k : Nat) {n m : S25}, En n m → writeT k n = writeT k m
  | 0, n, m, h => rfl
  | k + 1, n, m, h => by
    obtain ⟨h0, h1, h2, h4⟩ := h.parts
    obtain ⟨c1, c2, c3⟩ := cat_En (f := writeT k) (g := writeT k) h4.len (fun i hi => write_En k (h4.at i hi))
    simp only [writeT, h0, h1, h2, h4.len, c1, c2, c3]
/-- There and back. -/
theorem back_plain (a : ByteArray) (ha : (parseX a).2.1 = 0) : ∃ s K, printP K (parseX a).1 = some (s, 0) ∧ parse_Right.f K (parseX a).1.f0 (parseX a).1.f1 (parseX a).1.f2 (parseX a).1.f3 (parseX a).1.f4 = some true ∧
    (2000 < s.size → (parseX s).2.1 = 103) ∧ (s.size ≤ 2000 → (parseX s).2.1 = 0 ∧ sameF K (parseX a).1 (parseX s).1 false = some true ∧ printP K (parseX s).1 = some (s, 0)) := by
  obtain ⟨s, K, h1, h2, h3, T, L, hs, hg, hp, hlx⟩ := print_plain a ha
  by_cases hsz : 2000 < s.size
  · refine ⟨s, K, h1 K (Nat.le_refl _), h2 K (Nat.le_refl _), fun _ => ?_, fun h => by omega⟩
    have : scan (bytesOf s) = .error (103, 0) := by unfold scan; rw [if_pos (by rw [bytesOf_length]; exact hsz)]
    rw [parseX_err this]
  · obtain ⟨V, hV, hVT⟩ := lx_scan0 hlx (by rw [bytesOf_length]; omega) (by rw [List.length_map]; exact (scan_ok hs).2.1)
    obtain ⟨_, hj⟩ := stmts_join 600 T a.size [] L [] hg
    obtain ⟨L', hL', h5⟩ := hj V [] [] s.size hVT.symm El.nil
    have hl' : L'.length ≤ 1000000 := by
      obtain ⟨M, EM, e1, e2, hM, hR, hl⟩ := stmts_ok _ _ _ _ _ _ hg (scan_good hs)
      have := hL'.len
      omega
    have h6 := h5 1 (.ok (L', [])) (by rw [gstmts_eq, if_pos hl', if_pos rfl])
    rw [List.append_nil] at h6
    have hpx : parseX s = (⟨FILE, ⟨#[]⟩, 0, 0, L'⟩, 0, -1) := by rw [parseX_ok hV h6]; rfl
    have hEn : En (parseX a).1 (parseX s).1 := by rw [hp, hpx]; exact En.mk hL'
    have hBn : Bn (parseX a).1 := by rw [hp]; exact Bn.mk (Post.stmts _ _ Bl.nil _ _ _ _ hg)
    obtain ⟨k6, hk6⟩ := same_of _ _ false hEn (fun h => by cases h) hBn
    obtain ⟨s', K', g1, g2, g3, _⟩ := print_plain s (by rw [hpx])
    have hss : s' = s := by
      have e1 := h3 (K + K') (by omega)
      have e2 := g3 (K + K') (by omega)
      rw [write_En _ hEn, e2] at e1
      exact byteArray_ext (Option.some.inj e1)
    rw [hss] at g1
    exact ⟨s, K + K' + k6, h1 _ (by omega), h2 _ (by omega), fun h => absurd h hsz, fun _ => ⟨by rw [hpx], hk6 _ (by omega), g1 _ (by omega)⟩⟩
theorem parseX_zero {s : ByteArray} (h : (parseX s).2.1 ≠ 0) : (parseX s).1 = z25 := by
  cases hs : scan (bytesOf s) with
  | error e => rw [parseX_err hs]
  | ok T =>
    obtain ⟨r, hr⟩ := stmts_some hs 600 (Nat.le_refl _)
    have h2 := parseX_ok hs (hr 600 (by omega))
    rw [h2] at h ⊢
    cases r with
    | error x => rfl
    | ok x => exact absurd rfl h
end Go.Proofs.YtknbfhhmjbnemaaDoor.P
end
section
namespace Go.Proofs.YtknbfhhmjbnemaaDoor.P
open Go.RowKit Go.Proofs.YtknbfhhmjbnemaaDoorW.PrintWords Go.Proofs.YtknbfhhmjbnemaaDoorW.PrintLast Go.Proofs.YtknbfhhmjbnemaaDoorW.PrintMore Go.Proofs.YtknbfhhmjbnemaaDoor.Pure
set_option linter.unusedVariables false
set_option linter.unusedSimpArgs false

set_option maxHeartbeats 8000000 in
set_option maxRecDepth 100000 in
theorem back_calls (a : ByteArray) (m : Int) (w : World) (hm : w.cell? ⟨0, 0, none⟩ = some (.int .i64 m)) (ht : TabW w) (ha : a.size ≤ 140737488351232) :
    Calls Tryd.prog 6 #[.string a] w (LawEnd w) := by
  have hu25 := Tryd.underlying25
  have LW0 := Aside0.mk (show LawW m w w from ⟨hm, ht, Below.refl _ _⟩)
  have HTW := Aside0.mk (And.intro ht hm)
  clear hm ht
  go_enter Tryd.func6, Tryd.ntmps6
  obtain ⟨⟨na, ea, ta⟩, hxa⟩ : ∃ x, ParX a x := ⟨_, rfl⟩
  have HXa := Aside0.mk hxa
  clear hxa
  go_upto_region 2 with (go_at_call 9; (with_reducible refine (law_parse LW0.out _ HXa.out).mono ?_); rintro e wa ⟨Aa, ca, rfl, h1, h2, h3⟩; have NFa := Aside0.mk h1; have LWa0 := Aside0.mk h2; have BBa := Aside0.mk h3; clear h1 h2 h3)
  generalize hW : World.alloc wa _ = Wa
  have Xa := Aside0.mk (show NodeX Wa wa.heap.size (fun k => w.heap.size ≤ k ∧ k < wa.heap.size) na Aa ca from by rw [← hW]; exact NodeX.new NFa.out)
  have SZa := Aside0.mk (show Wa.heap.size = wa.heap.size + 1 from by rw [← hW, World.size_alloc])
  have LWa := Aside0.mk (show LawW m w Wa from by rw [← hW]; exact LWa0.out.alloc _)
  have BXa := Aside0.mk (show Below w.heap.size w Wa from by rw [← hW]; exact below_alloc BBa.out _)
  have Ba0 := Aside0.mk BBa.out.size
  clear hW LWa0 BBa
  have hpx : parseX a = (na, ea, ta) := HXa.out
  have ya0 := (blk_cell Xa.out.blk 0).trans rfl
  have ya1 := (blk_cell Xa.out.blk 1).trans rfl
  have ya2 := (blk_cell Xa.out.blk 2).trans rfl
  have ya3 := (blk_cell Xa.out.blk 3).trans rfl
  have ya4 := (blk_cell Xa.out.blk 4).trans rfl
  by_cases hea : ea = 0
  case neg =>
    have hz : na = z25 := by have := parseX_zero (s := a) (by rw [hpx]; exact hea); rw [hpx] at this; exact this
    have qa1 : (ea == 0) = false := by simpa using hea
    have qa2 : (ea != 0) = true := by simpa using hea
    subst hz
    clear hea hpx HXa NFa ya0 ya1 ya2 ya3 ya4
    have tl0 : (⟨#[]⟩ : ByteArray).toList = [] := by rw [ByteArray.toList_eq]
    go_wp2_with (go_at_call 8; (with_reducible refine (law_alive LWa.out).mono ?_); rintro e w9 ⟨rfl, h1, h2⟩; have LW9 := Aside0.mk h1; have X9 := Aside0.mk (Xa.out.below h2); clear h1 h2; have x0 : w9.cell? ⟨wa.heap.size, 0, none⟩ = some (.string (⟨#[]⟩ : ByteArray)) := (blk_cell X9.out.blk 0).trans rfl; have x4 : w9.cell? ⟨wa.heap.size, 4, none⟩ = some (.slice Aa 0 ca) := (blk_cell X9.out.blk 4).trans rfl)
    go_ret
    exact ⟨rfl, LW9.out.bel⟩
  obtain ⟨s, K, hp1, hr1, hbig, hsm⟩ := back_plain a (by rw [hpx]; exact hea)
  rw [hpx] at hp1 hr1 hsm
  simp only at hp1 hr1 hsm
  have HP1 := Aside0.mk hp1
  have HR1 := Aside0.mk hr1
  have HBIG := Aside0.mk hbig
  have HSM := Aside0.mk hsm
  have qa1 : (ea == 0) = true := by rw [hea]; rfl
  have qa2 : (ea != 0) = false := by rw [hea]; rfl
  clear hp1 hr1 hbig hsm hpx hea HXa NFa
  go_upto_region 5 with (go_at_call 13; (with_reducible refine (law_print LWa.out Xa.out.nd K HP1.out).mono ?_); rintro e w1 ⟨rfl, h1, h2⟩; have LW1 := Aside0.mk h1; have X1 := Aside0.mk (Xa.out.below h2); have BB1 := Aside0.mk h2; clear h1 h2)
  clear ya0 ya1 ya2 ya3 ya4
  have yb0 := (blk_cell X1.out.blk 0).trans rfl
  have yb1 := (blk_cell X1.out.blk 1).trans rfl
  have yb2 := (blk_cell X1.out.blk 2).trans rfl
  have yb3 := (blk_cell X1.out.blk 3).trans rfl
  have yb4 := (blk_cell X1.out.blk 4).trans rfl
  go_upto_region 7 with (go_at_call 15; (with_reducible refine (law_right LW1.out X1.out.nd K HR1.out).mono ?_); rintro e w2 ⟨rfl, h1, h2⟩; have LW2 := Aside0.mk h1; have X2 := Aside0.mk (X1.out.below h2); clear h1 h2)
  clear yb0 yb1 yb2 yb3 yb4 qa1 qa2
  obtain ⟨⟨nb, eb, tb⟩, hxb⟩ : ∃ x, ParX s x := ⟨_, rfl⟩
  have HXb := Aside0.mk hxb
  clear hxb
  go_upto_region 8 with (go_at_call 9; (with_reducible refine (law_parse LW2.out _ HXb.out).mono ?_); rintro e wb ⟨Ab, cb, rfl, h1, h2, h3⟩; have NFb := Aside0.mk h1; have LWb0 := Aside0.mk h2; have BBb := Aside0.mk h3; clear h1 h2 h3)
  generalize hW : World.alloc wb _ = Wb
  have Xb := Aside0.mk (show NodeX Wb wb.heap.size (fun k => w2.heap.size ≤ k ∧ k < wb.heap.size) nb Ab cb from by rw [← hW]; exact NodeX.new NFb.out)
  have SZb := Aside0.mk (show Wb.heap.size = wb.heap.size + 1 from by rw [← hW, World.size_alloc])
  have LWb := Aside0.mk (show LawW m w Wb from by rw [← hW]; exact LWb0.out.alloc _)
  have BXb := Aside0.mk (show Below w2.heap.size w2 Wb from by rw [← hW]; exact below_alloc BBb.out _)
  have Bb0 := Aside0.mk BBb.out.size
  clear hW LWb0 BBb
  have X3 := Aside0.mk (X2.out.below BXb.out)
  have hpb : parseX s = (nb, eb, tb) := HXb.out
  by_cases hsz : 2000 < s.size
  case pos =>
    have he := HBIG.out hsz
    rw [hpb] at he
    simp only at he
    have qb1 : (eb == 103) = true := by rw [he]; rfl
    have qb2 : (eb != 103) = false := by rw [he]; rfl
    have l11 : decide (2000 < (s.size : Int)) = true := decide_eq_true (by omega)
    have l12 : decide ((s.size : Int) > 2000) = true := decide_eq_true (by omega)
    have l3 : decide (2000 < s.size) = true := decide_eq_true hsz
    clear he hsz hpb HXb HBIG HSM X2 X3 NFb
    go_wp2_with (go_at_call 8; (with_reducible refine (law_alive LWb.out).mono ?_); rintro e w9 ⟨rfl, h1, h2⟩; have LW9 := Aside0.mk h1; clear h1 h2)
    go_ret
    exact ⟨rfl, LW9.out.bel⟩
  obtain ⟨he, hs1, hp2⟩ := HSM.out (by omega)
  rw [hpb] at he hs1 hp2
  simp only at he hs1 hp2
  have HS1 := Aside0.mk hs1
  have HP2 := Aside0.mk hp2
  have qb1 : (eb == 0) = true := by rw [he]; rfl
  have qb2 : (eb != 0) = false := by rw [he]; rfl
  have l11 : decide (2000 < (s.size : Int)) = false := decide_eq_false (by omega)
  have l12 : decide ((s.size : Int) > 2000) = false := decide_eq_false (by omega)
  have l3 : decide (2000 < s.size) = false := decide_eq_false hsz
  clear he hs1 hp2 hsz hpb HXb HBIG HSM NFb
  have ya0 := (blk_cell X3.out.blk 0).trans rfl
  have ya1 := (blk_cell X3.out.blk 1).trans rfl
  have ya2 := (blk_cell X3.out.blk 2).trans rfl
  have ya3 := (blk_cell X3.out.blk 3).trans rfl
  have ya4 := (blk_cell X3.out.blk 4).trans rfl
  have yb0 := (blk_cell Xb.out.blk 0).trans rfl
  have yb1 := (blk_cell Xb.out.blk 1).trans rfl
  have yb2 := (blk_cell Xb.out.blk 2).trans rfl
  have yb3 := (blk_cell Xb.out.blk 3).trans rfl
  have yb4 := (blk_cell Xb.out.blk 4).trans rfl
  go_upto_region 11 with (go_at_call 10; (with_reducible refine (law_same LWb.out X3.out.nd Xb.out.nd K HS1.out).mono ?_); rintro e w3 ⟨rfl, h1, h2⟩; have LW3 := Aside0.mk h1; have X4 := Aside0.mk (Xb.out.below h2); clear h1 h2)
  clear ya0 ya1 ya2 ya3 ya4 yb0 yb1 yb2 yb3 yb4
  have yc0 := (blk_cell X4.out.blk 0).trans rfl
  have yc1 := (blk_cell X4.out.blk 1).trans rfl
  have yc2 := (blk_cell X4.out.blk 2).trans rfl
  have yc3 := (blk_cell X4.out.blk 3).trans rfl
  have yc4 := (blk_cell X4.out.blk 4).trans rfl
  go_upto_region 12 with (go_at_call 13; (with_reducible refine (law_print LW3.out X4.out.nd K HP2.out).mono ?_); rintro e w4 ⟨rfl, h1, h2⟩; have LW4 := Aside0.mk h1; clear h1 h2)
  clear yc0 yc1 yc2 yc3 yc4
  go_wp2_with (go_at_call 8; (with_reducible refine (law_alive LW4.out).mono ?_); rintro e w9 ⟨rfl, h1, h2⟩; have LW9 := Aside0.mk h1; clear h1 h2)
  go_ret
  exact ⟨rfl, LW9.out.bel⟩
end Go.Proofs.YtknbfhhmjbnemaaDoor.P
end
section
namespace Go.Proofs.YtknbfhhmjbnemaaDoor.parseBack
open Go.ChangeShapes Go.WideShapes Go.ChangeAt Go.RowKit
open Go.ChangeMaps (open_string shut_string)
set_option linter.unusedVariables false
set_option maxRecDepth 100000 in
theorem lifted (os : Os) (started : os.Started) (H : Type) (enc : TypeId × Value → H) :
    ReturnsInHanded {} Tryd.checked os 6 .any (fun w args => (Rows.parseBackSpec.pre enc Tryd.prog Tryd.f6 Rows.parseBackRow.domain false w args ∧ laidMetH Tryd.prog laid3 w) ∧ sizedMet enc Tryd.prog Tryd.f6 (OpenSpec.ofChange Rows.parseBackSpec) false w args)
      (Rows.parseBackSpec.post enc Tryd.prog Tryd.f6 false true false false) := by
  refine change_and_shaped (C := Tryd.checked) (X := fun w _ => laidMetH Tryd.prog laid3 w) (fun _ _ _ hh h => h.of_heap hh) own started (by kernel_rfl) Tryd.func6
    (ChangeSpec.witness_shaped (enc := enc) (C := Tryd.checked) (os := os) (X := fun w _ => laidMetH Tryd.prog laid3 w) false (World.doorLaid Tryd.prog 400 os) #[.string ByteArray.empty] 8 rfl (World.shaped_of_RefB (by kernel_rfl) (by kernel_rfl)) (by kernel_rfl) (by kernel_rfl) (by kernel_rfl) (door_met os _)) ?_
  intro W base args ds gs before hval0 hW hcnd hsz0 hL hsh _
  obtain ⟨m_, hm_⟩ := Tryd.laysM144.s1_3 W hsh
  have hsz : (DataW.weightsEach Tryd.prog (Tryd.f6.params.toList ++ Rows.parseBackSpec.plain.varTypes Tryd.prog) (ds ++ gs)).all (· ≤ reachBytes) = true := hsz0
  have hval : ∀ (j : Nat) t v, Tryd.f6.params[j]? = some t → args[j]? = some v → Value.okWide Tryd.prog W .any base t v := hval0
  have hW' := hW
  obtain ⟨p, q, hA0, hV, rfl, hfz, hnd⟩ := hW
  have hA : DataW.TrodAll enc Tryd.prog W 0 (fun _ => true) true Tryd.f6.params.toList args.toList ds p := hA0
  rw [Tryd.params6] at hA hval hsz
  obtain ⟨v0, vs0, d0, ds0, p0, q0, hargs, rfl, rfl, h0, r0⟩ := trodAll_cons hA
  obtain ⟨rfl, rfl, rfl⟩ := trodAll_nil r0
  obtain rfl : args = #[v0] := by cases args; simp_all
  obtain ⟨rfl, rfl⟩ := trodVars_none hV
  obtain ⟨a0, rfl, rfl, rfl, y0⟩ := open_string Tryd.underlying9 (hval 0 9 v0 rfl rfl) h0
  have w0 : a0.size ≤ 140737488351232 := by
    have z := sized_string hsz (j := 0) (t := 9) rfl rfl
    rw [Array.length_toList] at z
    exact z
  clear hA0 hval0 hsz0 hsz
  refine (P.back_calls a0 m_ W hm_ (tab_of_laid hL) w0).mono fun e W' ⟨he, bel⟩ => ?_
  subst he
  exact ⟨_, rfl, _, _, _, [], _, [], hW', trodAll_mk1 (shut_bool Tryd.underlying4 _), (trodAll_cons_mk (shut_string Tryd.underlying9 y0) trodAll_mk0), rfl, bel.frame _, fun h => by cases h⟩
theorem over : Rows.ParseBackSaid :=
  OpenClaim.holds_of_wide 6 Tryd.f6 rfl rfl rfl rfl rfl rfl rfl ⟨rfl, rfl, rfl, rfl, rfl⟩ rfl rfl rfl rfl rfl (by kernel_rfl) Tryd.func6 (by kernel_rfl)
    (of_decide_eq_true (by kernel_rfl)) (by unfold Func.isWrapper; first | (rw [if_pos (by decide +kernel)]; kernel_rfl) | (rw [if_neg (by decide +kernel)]; exact ⟨rfl, rfl⟩))
    (fun os started H enc _ => lifted os started H enc)
end Go.Proofs.YtknbfhhmjbnemaaDoor.parseBack
namespace Go.Proofs.YtknbfhhmjbnemaaDoor
/-- THE TIED CARD. -/
theorem parseBack_holds : Rows.ParseBackCardSaid :=
  Claim7.holds_tied_plain_at .later [] [.data, .data, .data] true (true, "8cdf8f3caba360dc7b05f8e528f7f118d71880da62c48cb09c7ea98c408e307c") true
    parseBack.over (fun _ h => by cases h) (by kernel_rfl) (fun _ h => by cases h) parseBack_row_tie rfl ⟨rfl, rfl⟩ (by kernel_rfl) rfl
    (fun f fn hf hfn => by
      obtain rfl : f = 6 := Option.some.inj ((show Tryd.prog.funcNamed "cofferdam/cofferdamlaw11.ParseBack" = some 6 by kernel_rfl).symm.trans hf) |>.symm
      obtain rfl : fn = Tryd.f6 := (Option.some.inj (Tryd.func6.symm.trans hfn)).symm
      exact ⟨by kernel_rfl, fun j t ht => by
        rw [Tryd.params6] at ht
        have hm : t ∈ [9] := by simpa using Array.mem_of_getElem? ht
        have hall : ([9].all fun u => !Tryd.prog.wantsStandIn u) = true := by kernel_rfl
        exact (show Tryd.prog.wantsStandIn t = false by simpa using List.all_eq_true.1 hall t hm)⟩)
    (by kernel_rfl)
end Go.Proofs.YtknbfhhmjbnemaaDoor
end
#print axioms Go.Proofs.YtknbfhhmjbnemaaDoor.parseBack_holds
