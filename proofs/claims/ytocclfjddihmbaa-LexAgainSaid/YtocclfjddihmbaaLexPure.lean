import Derived.Test.YtocclfjddihmbaaPlexScan
import Derived.Test.YtocclfjddihmbaaPcofferdamlaw10alive
import Derived.Test.YtocclfjddihmbaaPcofferdamlaw10same
namespace Go.Proofs.Ytocclfjddihmbaa.Pure
open Go.RowKit Go.Proofs.Ytocclfjddihmbaa.P Go.Proofs.YtocclfjddihmbaaW.PrintWords Go.Proofs.YtocclfjddihmbaaW.PrintLast
set_option linter.unusedVariables false
set_option linter.unusedSimpArgs false

theorem alive10 : cofferdamlaw10_alive.f 40 = some true := by kernel_rfl

/-! ### what the scanner does, over lists of bytes -/
def isBlank (c : Int) : Bool := c == 9 || c == 10 || c == 13 || c == 32
/-- What is left behind blanks and notes; the first: does it begin within a note? -/
def skipS : Bool → List Int → List Int
  | _, [] => []
  | true, c :: l => if c = 10 then skipS false l else skipS true l
  | false, c :: l => if isBlank c = true then skipS false l else if c = 47 ∧ l.head? = some 47 then skipS true l else c :: l
def goesL : List Int → Bool
  | [] => false
  | c :: _ => pLetter c || (c == 95)
structure One where
  kind : Int
  s : List Int
  n : Int
  len : Nat
  e : Int
  off : Nat
def oneL : List Int → One
  | [] => ⟨0, [], 0, 0, 0, 0⟩
  | c :: t =>
    if pLetter c = true then ⟨0, (c :: t).takeWhile pWord, 0, ((c :: t).takeWhile pWord).length, if 16 < ((c :: t).takeWhile pWord).length then 102 else 0, 0⟩
    else if pFigure c = true then ⟨1, [], lexNum ((c :: t).takeWhile pFigure), ((c :: t).takeWhile pFigure).length,
      if 9 < ((c :: t).takeWhile pFigure).length then 102 else if goesL ((c :: t).drop ((c :: t).takeWhile pFigure).length) = true then 101 else 0,
      if 9 < ((c :: t).takeWhile pFigure).length then 0 else ((c :: t).takeWhile pFigure).length⟩
    else if c = 36 then ⟨2, t.takeWhile pHex, 0, (t.takeWhile pHex).length + 1,
      if (t.takeWhile pHex).length = 0 then 101 else if 128 < (t.takeWhile pHex).length then 102 else if goesL (t.drop (t.takeWhile pHex).length) = true then 101 else 0,
      if (t.takeWhile pHex).length = 0 then 1 else if 128 < (t.takeWhile pHex).length then 0 else (t.takeWhile pHex).length + 1⟩
    else if c = 40 ∨ c = 41 ∨ c = 44 ∨ c = 61 ∨ c = 59 then ⟨3, [c], 0, 1, 0, 0⟩
    else ⟨3, [], 0, 0, 101, 0⟩
def tokOf (o : One) (p : Nat) : S41 := ⟨o.kind, strOfNums o.s, o.n, p⟩
def scanF : Nat → Nat → List Int → Nat → Except (Int × Int) (List S41)
  | 0, _, _, _ => .ok []
  | f + 1, cnt, r, total =>
    if r = [] then .ok []
    else if cnt = 500 then .error (103, ((total - r.length : Nat) : Int))
    else if (oneL r).e = 0 then (scanF f (cnt + 1) (skipS false (r.drop (oneL r).len)) total).map (tokOf (oneL r) (total - r.length) :: ·)
    else .error ((oneL r).e, ((total - r.length + (oneL r).off : Nat) : Int))
def scan (l : List Int) : Except (Int × Int) (List S41) :=
  if 2000 < l.length then .error (103, 0) else scanF (l.length + 1) 0 (skipS false l) l.length
def told : Except (Int × Int) (List S41) → List S41 × Int × Int
  | .ok l => (l, 0, -1)
  | .error e => ([], e.1, e.2)

theorem skipS_len : ∀ (l : List Int) (q : Bool), (skipS q l).length ≤ l.length
  | [], q => by cases q <;> simp [skipS]
  | c :: l, true => by
    unfold skipS
    split
    · exact Nat.le_succ_of_le (skipS_len l false)
    · exact Nat.le_succ_of_le (skipS_len l true)
  | c :: l, false => by
    unfold skipS
    split
    · exact Nat.le_succ_of_le (skipS_len l false)
    · split
      · exact Nat.le_succ_of_le (skipS_len l true)
      · exact Nat.le_refl _
theorem skipS_suffix : ∀ (l : List Int) (q : Bool), skipS q l <:+ l
  | [], q => by cases q <;> simp [skipS]
  | c :: l, true => by
    unfold skipS
    split
    · exact (skipS_suffix l false).trans (List.suffix_cons c l)
    · exact (skipS_suffix l true).trans (List.suffix_cons c l)
  | c :: l, false => by
    unfold skipS
    split
    · exact (skipS_suffix l false).trans (List.suffix_cons c l)
    · split
      · exact (skipS_suffix l true).trans (List.suffix_cons c l)
      · exact List.suffix_refl _
theorem takeWhile_len (p : Int → Bool) (l : List Int) : (l.takeWhile p).length ≤ l.length := List.Sublist.length_le (List.takeWhile_sublist p)
theorem oneL_len (l : List Int) (h : l ≠ []) : (oneL l).len ≤ l.length ∧ ((oneL l).e = 0 → 1 ≤ (oneL l).len) := by
  cases l with
  | nil => exact absurd rfl h
  | cons c t =>
    have h1 := takeWhile_len pWord (c :: t)
    have h2 := takeWhile_len pFigure (c :: t)
    have h3 := takeWhile_len pHex t
    simp only [oneL]
    by_cases c1 : pLetter c = true
    · rw [if_pos c1]
      refine ⟨h1, fun _ => ?_⟩
      have hw : pWord c = true := by simp [pWord, c1]
      simp [List.takeWhile_cons, hw]
    · rw [if_neg c1]
      by_cases c2 : pFigure c = true
      · rw [if_pos c2]
        refine ⟨h2, fun _ => ?_⟩
        simp [List.takeWhile_cons, c2]
      · rw [if_neg c2]
        by_cases c3 : c = 36
        · rw [if_pos c3]
          simp only [List.length_cons]
          exact ⟨by omega, fun _ => by omega⟩
        · rw [if_neg c3]
          by_cases c4 : c = 40 ∨ c = 41 ∨ c = 44 ∨ c = 61 ∨ c = 59
          · rw [if_pos c4]
            simp
          · rw [if_neg c4]
            simp
theorem scanF_more : ∀ (f g cnt : Nat) (r : List Int) (total : Nat), r.length < f → r.length < g → scanF f cnt r total = scanF g cnt r total
  | 0, _, _, _, _, h, _ => by omega
  | _, 0, _, _, _, _, h => by omega
  | f + 1, g + 1, cnt, r, total, h1, h2 => by
    unfold scanF
    split
    · rfl
    · split
      · rfl
      · split
        · rename_i hr _ he
          have hl := (oneL_len r hr).2 he
          have hs := skipS_len (r.drop (oneL r).len) false
          rw [List.length_drop] at hs
          have hr' : 0 < r.length := List.length_pos_iff.2 hr
          rw [scanF_more f g (cnt + 1) _ total (by omega) (by omega)]
        · rfl

/-! ### the printed functions are these -/
theorem bytesOf_drop (s : ByteArray) (k : Nat) (h : k < s.size) : (bytesOf s).drop k = bt s k :: (bytesOf s).drop (k + 1) := by
  have hl : k < (bytesOf s).length := by rw [bytesOf_length]; exact h
  rw [List.drop_eq_getElem_cons hl]
  have := bytesOf_get s k h
  rw [List.getElem?_eq_getElem hl] at this
  injection this with this
  rw [this]
theorem lexEnd_run (p : Int → Bool) (s : ByteArray) : ∀ f k, s.size - k = f → k ≤ s.size → lexEnd p s f k = k + (((bytesOf s).drop k).takeWhile p).length
  | 0, k, hf, hk => by
    have : (bytesOf s).drop k = [] := List.drop_eq_nil_iff.2 (by rw [bytesOf_length]; omega)
    rw [this]
    rfl
  | f + 1, k, hf, hk => by
    rw [bytesOf_drop s k (by omega)]
    unfold lexEnd
    by_cases h : p (bt s k) = true
    · rw [if_pos ⟨by omega, h⟩, lexEnd_run p s f (k + 1) (by omega) (by omega), List.takeWhile_cons, if_pos h, List.length_cons]
      omega
    · rw [if_neg (fun h2 => h h2.2), List.takeWhile_cons, if_neg h]
      rfl
theorem toI_back (l : List UInt8) : (l.map fun b => (b.toNat : Int)).map (fun n => UInt8.ofNat n.toNat) = l := by
  rw [List.map_map]
  conv => rhs; rw [← List.map_id l]
  apply List.map_congr_left
  intro b _
  simp
theorem strOfNums_bytesOf (s : ByteArray) : strOfNums (bytesOf s) = s := by
  cases s with | mk d =>
  unfold strOfNums bytesOf
  rw [toI_back]
theorem byteArray_ext {a b : ByteArray} (h : a.data.toList = b.data.toList) : a = b := by
  cases a; cases b
  simp only [ByteArray.mk.injEq]
  exact Array.toList_inj.1 h
theorem extract_toList (s : ByteArray) (i n : Nat) : (s.extract i (i + n)).data.toList = (s.data.toList.drop i).take n := by
  rw [ByteArray.data_extract, Array.toList_extract, List.extract_eq_take_drop]
  congr 1
  omega
theorem extract_nums (s : ByteArray) (i n : Nat) : s.extract i (i + n) = strOfNums (((bytesOf s).drop i).take n) := by
  apply byteArray_ext
  rw [extract_toList, strOfNums_data]
  unfold bytesOf
  rw [← List.map_drop, ← List.map_take, toI_back]
theorem bytesOf_extract (s : ByteArray) (i n : Nat) : bytesOf (s.extract i (i + n)) = ((bytesOf s).drop i).take n := by
  unfold bytesOf
  rw [extract_toList, ← List.map_drop, ← List.map_take]
theorem pGoes_run (s : ByteArray) (k : Nat) : pGoes s k = goesL ((bytesOf s).drop k) := by
  unfold pGoes
  by_cases h : k < s.size
  · rw [bytesOf_drop s k h]
    simp [h, goesL]
  · have : (bytesOf s).drop k = [] := List.drop_eq_nil_iff.2 (by rw [bytesOf_length]; omega)
    rw [this]
    simp [h, goesL]
theorem take_takeWhile (p : Int → Bool) (l : List Int) : l.take (l.takeWhile p).length = l.takeWhile p := (List.prefix_iff_eq_take.1 (List.takeWhile_prefix p)).symm
def oneOut (i : Nat) (o : One) : Int × ByteArray × Int × Int × Int × Int × Int :=
  (o.kind, strOfNums o.s, o.n, (i : Int), ((i + o.len : Nat) : Int), o.e, if o.e = 0 then -1 else ((i + o.off : Nat) : Int))
theorem one_run (s : ByteArray) (i : Nat) (hi : i < s.size) (hs : s.size ≤ 140737488351232) :
    lex_one.f s i = some (oneOut i (oneL ((bytesOf s).drop i))) := by
  unfold lex_one.f
  rw [if_pos ⟨by omega, by omega, hs⟩]
  simp only [Int.toNat_natCast]
  have hw := lexEnd_run pWord s (s.size - i) i rfl (by omega)
  have hf := lexEnd_run pFigure s (s.size - i) i rfl (by omega)
  have hh := lexEnd_run pHex s (s.size - (i + 1)) (i + 1) rfl (by omega)
  rw [hw, hf, hh]
  simp only [pGoes_run, bytesOf_extract]
  simp only [extract_nums]
  have hd := bytesOf_drop s i hi
  have hd2 : ∀ n, (bytesOf s).drop (i + n) = ((bytesOf s).drop i).drop n := fun n => by rw [List.drop_drop]
  have hd3 : ∀ n, (bytesOf s).drop (i + 1 + n) = ((bytesOf s).drop (i + 1)).drop n := fun n => by rw [List.drop_drop]
  rw [hd2, hd3]
  simp only [take_takeWhile]
  rw [hd]
  generalize bt s i = c
  generalize (bytesOf s).drop (i + 1) = t
  have hnil : strOfNums [] = ⟨#[]⟩ := rfl
  by_cases c1 : pLetter c = true
  · have ho : oneL (c :: t) = ⟨0, (c :: t).takeWhile pWord, 0, ((c :: t).takeWhile pWord).length, if 16 < ((c :: t).takeWhile pWord).length then 102 else 0, 0⟩ := by
      simp only [oneL]; rw [if_pos c1]
    rw [ho, if_pos c1]
    unfold oneOut
    generalize (c :: t).takeWhile pWord = W
    by_cases c2 : 16 < W.length
    · rw [if_pos (by omega)]; simp [c2]
    · rw [if_neg (by omega)]; simp [c2]
  · rw [if_neg c1]
    by_cases c2 : pFigure c = true
    · have ho : oneL (c :: t) = ⟨1, [], lexNum ((c :: t).takeWhile pFigure), ((c :: t).takeWhile pFigure).length,
          if 9 < ((c :: t).takeWhile pFigure).length then 102 else if goesL ((c :: t).drop ((c :: t).takeWhile pFigure).length) = true then 101 else 0,
          if 9 < ((c :: t).takeWhile pFigure).length then 0 else ((c :: t).takeWhile pFigure).length⟩ := by
        simp only [oneL]; rw [if_neg c1, if_pos c2]
      rw [ho, if_pos c2]
      unfold oneOut
      generalize (c :: t).takeWhile pFigure = W
      generalize goesL ((c :: t).drop W.length) = G
      by_cases c3 : 9 < W.length
      · rw [if_pos (by omega)]; simp [c3, hnil]
      · rw [if_neg (by omega)]
        cases G
        · simp [c3, hnil]
        · simp [c3, hnil]
    · rw [if_neg c2]
      by_cases c3 : c = 36
      · have ho : oneL (c :: t) = ⟨2, t.takeWhile pHex, 0, (t.takeWhile pHex).length + 1,
            if (t.takeWhile pHex).length = 0 then 101 else if 128 < (t.takeWhile pHex).length then 102 else if goesL (t.drop (t.takeWhile pHex).length) = true then 101 else 0,
            if (t.takeWhile pHex).length = 0 then 1 else if 128 < (t.takeWhile pHex).length then 0 else (t.takeWhile pHex).length + 1⟩ := by
          simp only [oneL]; rw [if_neg c1, if_neg c2, if_pos c3]
        rw [ho, if_pos c3]
        unfold oneOut
        generalize t.takeWhile pHex = W
        generalize goesL (t.drop W.length) = G
        by_cases c4 : W.length = 0
        · rw [if_pos (by omega)]
          have c5 : W = [] := List.length_eq_zero_iff.1 c4
          subst c5
          simp [hnil]
        · rw [if_neg (by omega)]
          by_cases c5 : 128 < W.length
          · rw [if_pos (by omega)]
            simp only [c4, c5, if_true, if_false]
            simp
            omega
          · rw [if_neg (by omega)]
            cases G
            · simp only [c4, c5, if_true, if_false, Bool.false_eq_true]
              simp
              omega
            · simp only [c4, c5, if_true, if_false]
              simp
              omega
      · rw [if_neg c3]
        by_cases c4 : c = 40 ∨ c = 41 ∨ c = 44 ∨ c = 61 ∨ c = 59
        · have ho : oneL (c :: t) = ⟨3, [c], 0, 1, 0, 0⟩ := by
            simp only [oneL]; rw [if_neg c1, if_neg c2, if_neg c3, if_pos c4]
          rw [ho, if_pos c4]
          simp [oneOut]
        · have ho : oneL (c :: t) = ⟨3, [], 0, 0, 101, 0⟩ := by
            simp only [oneL]; rw [if_neg c1, if_neg c2, if_neg c3, if_neg c4]
          rw [ho, if_neg c4]
          simp [oneOut, hnil]

theorem blank_tab : ∀ n : Nat, n < 256 → (decide (0 ≤ Lib.indexByte [9, 10, 13, 32] n.toUInt8) = isBlank n) := by decide +kernel
theorem blank_run (c : Int) (h0 : 0 ≤ c) (h1 : c ≤ 255) : (Lib.indexByte (⟨#[9, 10, 13, 32]⟩ : ByteArray).data.toList c.toNat.toUInt8 ≥ 0) ↔ isBlank c = true := by
  have h := blank_tab c.toNat (by omega)
  rw [show ((c.toNat : Nat) : Int) = c by omega] at h
  rw [← h]
  simp
theorem skip_note : ∀ (l : List UInt8), skipS true (l.map fun b => (b.toNat : Int)) = if Lib.indexByte l 10 = -1 then [] else skipS false ((l.map fun b => (b.toNat : Int)).drop (Lib.indexByte l 10).toNat)
  | [] => by simp [skipS, Lib.indexByte]
  | b :: l => by
    have ih := skip_note l
    have hge := Lib.indexByte_ge l 10
    simp only [List.map_cons, skipS, Lib.indexByte]
    by_cases hb : b = 10
    · subst hb
      simp [skipS, isBlank]
    · have hb1 : (b == 10) = false := by simpa using hb
      have hb2 : ¬ ((b.toNat : Int) = 10) := by
        intro h
        apply hb
        apply UInt8.toNat_inj.1
        have : b.toNat = 10 := by omega
        rw [this]
        rfl
      rw [if_neg hb2, ih, hb1]
      simp only [Bool.false_eq_true, if_false, beq_iff_eq]
      by_cases hi : Lib.indexByte l 10 = -1
      · simp [hi]
      · rw [if_neg hi, if_neg hi, if_neg (by omega)]
        rw [show (Lib.indexByte l 10 + 1).toNat = (Lib.indexByte l 10).toNat + 1 by omega]
        rfl
theorem toI_inj {a b : List UInt8} (h : a.map (fun b => (b.toNat : Int)) = b.map (fun b => (b.toNat : Int))) : a = b := by
  have := congrArg (List.map fun n : Int => UInt8.ofNat n.toNat) h
  rwa [toI_back, toI_back] at this
theorem beq_bytes (a b : ByteArray) : (a.toList == b.toList) = decide (bytesOf a = bytesOf b) := by
  rw [ByteArray.toList_eq, ByteArray.toList_eq]
  by_cases h : a.data.toList = b.data.toList
  · simp [h, bytesOf]
  · have : ¬ bytesOf a = bytesOf b := fun h2 => h (toI_inj h2)
    rw [beq_eq_false_iff_ne.2 h, decide_eq_false this]
theorem prefix_run (s : ByteArray) (i : Nat) (hi : i < s.size) (hs : s.size ≤ 140737488351232) :
    strings_HasPrefix.f (s.extract i s.size) (⟨#[47, 47]⟩ : ByteArray) = some (decide (bt s i = 47 ∧ ((bytesOf s).drop (i + 1)).head? = some 47)) := by
  have hsz : (s.extract i s.size).size = s.size - i := by rw [ByteArray.size_extract]; omega
  have h2 : (⟨#[47, 47]⟩ : ByteArray).size = 2 := rfl
  have hex : bytesOf (s.extract i s.size) = (bytesOf s).drop i := by
    have := bytesOf_extract s i (s.size - i)
    rw [show i + (s.size - i) = s.size by omega, List.take_of_length_le (by rw [List.length_drop, bytesOf_length]; omega)] at this
    exact this
  unfold strings_HasPrefix.f stringslite_HasPrefix.f
  rw [hsz, h2, bytesOf_drop s i hi] at *
  by_cases h3 : 2 ≤ s.size - i
  · rw [if_pos (by omega), if_pos (by omega), if_pos (by omega)]
    simp only [Option.bind_some]
    congr 1
    have hx := bytesOf_extract (s.extract i s.size) 0 2
    rw [hex, List.drop_zero] at hx
    simp only [Nat.zero_add] at hx
    rw [show ((((2 : Nat) : Int)) : Int).toNat = 2 by rfl, beq_bytes, hx]
    have hl : bytesOf (⟨#[47, 47]⟩ : ByteArray) = [47, 47] := rfl
    rw [hl, bytesOf_drop s (i + 1) (by omega)]
    simp
  · rw [if_neg (by omega)]
    simp only [Option.bind_some]
    congr 1
    have : (bytesOf s).drop (i + 1) = [] := List.drop_eq_nil_iff.2 (by rw [bytesOf_length]; omega)
    rw [this]
    simp
/-- Where skip comes out, as a place. -/
def skipAt (s : ByteArray) (i : Nat) : Nat := s.size - (skipS false ((bytesOf s).drop i)).length
theorem skipAt_bounds (s : ByteArray) (i : Nat) (hi : i ≤ s.size) : i ≤ skipAt s i ∧ skipAt s i ≤ s.size := by
  have h := skipS_len ((bytesOf s).drop i) false
  rw [List.length_drop, bytesOf_length] at h
  unfold skipAt
  omega
theorem skipAt_drop (s : ByteArray) (i : Nat) (hi : i ≤ s.size) : (bytesOf s).drop (skipAt s i) = skipS false ((bytesOf s).drop i) := by
  have h := (skipS_suffix ((bytesOf s).drop i) false).trans (List.drop_suffix i (bytesOf s))
  have h2 := List.suffix_iff_eq_drop.1 h
  rw [bytesOf_length] at h2
  exact h2.symm
theorem skip_run (s : ByteArray) (hs : s.size ≤ 140737488351232) : ∀ (d i k : Nat), s.size - i ≤ d → i ≤ s.size → d < k → lex_skip.l0 k s i = some ((skipAt s i : Nat) : Int) := by
  intro d
  induction d with
  | zero =>
    intro i k hd hi hk
    obtain ⟨k, rfl⟩ : ∃ m, k = m + 1 := ⟨k - 1, by omega⟩
    simp only [lex_skip.l0]
    rw [if_neg (by omega)]
    have : (bytesOf s).drop i = [] := List.drop_eq_nil_iff.2 (by rw [bytesOf_length]; omega)
    unfold skipAt
    rw [this]
    simp only [skipS, List.length_nil]
    congr 1
    omega
  | succ d ih =>
    intro i k hd hi hk
    obtain ⟨k, rfl⟩ : ∃ m, k = m + 1 := ⟨k - 1, by omega⟩
    simp only [lex_skip.l0]
    by_cases hlt : i < s.size
    · rw [if_pos (by omega), if_pos (by omega)]
      have hr := bt_range s i
      have hdr := bytesOf_drop s i hlt
      simp only [strings_IndexByte.f, Option.bind_some]
      by_cases hb : isBlank (bt s i) = true
      · rw [if_pos ((blank_run _ hr.1 hr.2).2 hb)]
        have hwrap : wrap64 ((i : Int) + 1) = ((i + 1 : Nat) : Int) := by unfold wrap64; omega
        rw [hwrap, ih (i + 1) k (by omega) (by omega) (by omega)]
        congr 2
        unfold skipAt
        rw [hdr]
        simp only [skipS, hb, if_true]
      · rw [if_neg (fun h => hb ((blank_run _ hr.1 hr.2).1 h)), if_pos (by omega)]
        simp only [Int.toNat_natCast]
        rw [prefix_run s i hlt hs]
        simp only [Option.bind_some, decide_eq_true_eq]
        by_cases hc : bt s i = 47 ∧ ((bytesOf s).drop (i + 1)).head? = some 47
        · rw [if_pos hc]
          have hn := skip_note ((s.extract i s.size).data.toList)
          have hmap : ((s.extract i s.size).data.toList.map fun b => (b.toNat : Int)) = (bytesOf s).drop i := by
            have := bytesOf_extract s i (s.size - i)
            rw [show i + (s.size - i) = s.size by omega, List.take_of_length_le (by rw [List.length_drop, bytesOf_length]; omega)] at this
            exact this
          rw [hmap] at hn
          have hge := Lib.indexByte_ge (s.extract i s.size).data.toList 10
          have hsk : skipS false ((bytesOf s).drop i) = skipS true ((bytesOf s).drop i) := by
            rw [hdr]
            simp only [skipS]
            rw [if_neg hb, if_pos hc, if_neg (by rw [hc.1]; omega)]
          simp only [show (10 : Int).toNat.toUInt8 = 10 from rfl]
          by_cases hq : Lib.indexByte (s.extract i s.size).data.toList 10 < 0
          · rw [if_pos hq]
            rw [if_pos (by omega)] at hn
            unfold skipAt
            rw [hsk, hn]
            simp
          · rw [if_neg hq]
            rw [if_neg (by omega)] at hn
            obtain ⟨n, hn2⟩ := Int.eq_ofNat_of_zero_le (show 0 ≤ Lib.indexByte (s.extract i s.size).data.toList 10 by omega)
            rw [hn2] at hn ⊢
            have hat := (Lib.indexByte_some hn2).1
            have hat2 : ((bytesOf s).drop i)[n]? = some 10 := by
              rw [← hmap, List.getElem?_map, hat]
              rfl
            have hpos : 1 ≤ n := by
              rcases Nat.eq_zero_or_pos n with h0 | h0
              · subst h0
                rw [hdr] at hat2
                simp at hat2
                omega
              · exact h0
            have hle : i + n ≤ s.size := by
              have := (List.getElem?_eq_some_iff.1 hat2).1
              rw [List.length_drop, bytesOf_length] at this
              omega
            have hwrap : wrap64 ((i : Int) + (n : Int)) = ((i + n : Nat) : Int) := by unfold wrap64; omega
            rw [hwrap, ih (i + n) k (by omega) hle (by omega)]
            congr 2
            unfold skipAt
            rw [hsk, hn, Int.toNat_natCast, List.drop_drop]
        · rw [if_neg hc]
          unfold skipAt
          rw [hdr]
          simp only [skipS]
          rw [if_neg hb, if_neg hc]
          simp only [List.length_cons, List.length_drop, bytesOf_length]
          congr 1
          omega
    · rw [if_neg (by omega)]
      have : (bytesOf s).drop i = [] := List.drop_eq_nil_iff.2 (by rw [bytesOf_length]; omega)
      unfold skipAt
      rw [this]
      simp only [skipS, List.length_nil]
      congr 1
      omega

def toldAcc (acc : List S41) : Except (Int × Int) (List S41) → List S41 × Int × Int
  | .ok l => (acc ++ l, 0, -1)
  | .error e => ([], e.1, e.2)
theorem scan_run0 (s : ByteArray) (hs : s.size ≤ 2000) : ∀ (d i k : Nat) (acc : List S41), s.size - i ≤ d → i ≤ s.size → s.size + d < k → acc.length ≤ 500 →
    lex_Scan.l0 k s acc i = some (toldAcc acc (scanF (d + 1) acc.length ((bytesOf s).drop i) s.size)) := by
  intro d
  induction d with
  | zero =>
    intro i k acc hd hi hk ha
    obtain ⟨k, rfl⟩ : ∃ m, k = m + 1 := ⟨k - 1, by omega⟩
    simp only [lex_Scan.l0]
    rw [if_neg (by omega)]
    have : (bytesOf s).drop i = [] := List.drop_eq_nil_iff.2 (by rw [bytesOf_length]; omega)
    rw [this]
    simp [scanF, toldAcc]
  | succ d ih =>
    intro i k acc hd hi hk ha
    obtain ⟨k, rfl⟩ : ∃ m, k = m + 1 := ⟨k - 1, by omega⟩
    simp only [lex_Scan.l0]
    by_cases hlt : i < s.size
    · rw [if_pos (by omega)]
      have hne : (bytesOf s).drop i ≠ [] := by rw [bytesOf_drop s i hlt]; simp
      have hlen : ((bytesOf s).drop i).length = s.size - i := by rw [List.length_drop, bytesOf_length]
      have hpos : s.size - ((bytesOf s).drop i).length = i := by omega
      unfold scanF
      rw [if_neg hne]
      by_cases h500 : acc.length = 500
      · rw [if_pos (by omega), if_pos h500, hpos]
        rfl
      · rw [if_neg (by omega), if_neg h500]
        have hone : lex_one.f s i = some ((oneL ((bytesOf s).drop i)).kind, strOfNums (oneL ((bytesOf s).drop i)).s, (oneL ((bytesOf s).drop i)).n, (i : Int), ((i + (oneL ((bytesOf s).drop i)).len : Nat) : Int), (oneL ((bytesOf s).drop i)).e,
            if (oneL ((bytesOf s).drop i)).e = 0 then -1 else ((i + (oneL ((bytesOf s).drop i)).off : Nat) : Int)) := one_run s i hlt (by omega)
        rw [hone]
        simp only [Option.bind_some]
        have hol := oneL_len _ hne
        by_cases he : (oneL ((bytesOf s).drop i)).e = 0
        · rw [if_pos he, if_pos he, if_pos (by omega)]
          have hl1 := hol.2 he
          have hl2 := hol.1
          have hle : i + (oneL ((bytesOf s).drop i)).len ≤ s.size := by omega
          have hsk := skip_run s (by omega) s.size (i + (oneL ((bytesOf s).drop i)).len) k (by omega) hle (by omega)
          have hsb := skipAt_bounds s (i + (oneL ((bytesOf s).drop i)).len) hle
          unfold lex_skip.f
          rw [hsk]
          simp only [Option.bind_some]
          rw [ih (skipAt s (i + (oneL ((bytesOf s).drop i)).len)) k _ (by omega) hsb.2 (by omega) (by simp; omega)]
          rw [skipAt_drop s _ hle, ← List.drop_drop, List.length_append, List.length_singleton]
          congr 1
          have htok : (⟨(oneL ((bytesOf s).drop i)).kind, strOfNums (oneL ((bytesOf s).drop i)).s, (oneL ((bytesOf s).drop i)).n, (i : Int)⟩ : S41) = tokOf (oneL ((bytesOf s).drop i)) (s.size - ((bytesOf s).drop i).length) := by
            rw [hpos]
            rfl
          rw [htok]
          cases scanF (d + 1) (acc.length + 1) (skipS false (((bytesOf s).drop i).drop (oneL ((bytesOf s).drop i)).len)) s.size with
          | ok l => simp [toldAcc, Except.map]
          | error e => simp [toldAcc, Except.map]
        · rw [if_neg he, if_neg he, if_neg he, hpos]
          rfl
    · rw [if_neg (by omega)]
      have : (bytesOf s).drop i = [] := List.drop_eq_nil_iff.2 (by rw [bytesOf_length]; omega)
      rw [this]
      unfold scanF
      simp [toldAcc]
theorem scan_run (s : ByteArray) : ∀ k, 5000 ≤ k → lex_Scan.f k s = some (told (scan (bytesOf s))) := by
  intro k hk
  unfold lex_Scan.f scan
  rw [bytesOf_length]
  by_cases h : 2000 < s.size
  · rw [if_pos (by omega), if_pos h]
    rfl
  · rw [if_neg (by omega), if_neg h]
    have hsk := skip_run s (by omega) s.size 0 k (by omega) (by omega) (by omega)
    have hsb := skipAt_bounds s 0 (by omega)
    unfold lex_skip.f
    simp only [Int.natCast_zero] at hsk
    rw [hsk]
    simp only [Option.bind_some]
    rw [scan_run0 s (by omega) s.size (skipAt s 0) k [] (by omega) hsb.2 (by omega) (by simp), skipAt_drop s 0 (by omega), List.drop_zero]
    congr 1
end Go.Proofs.Ytocclfjddihmbaa.Pure
