/- Which words are reserved is as the document says; at every word. -/
import Derived.Test.YtocclfjddihmbaaPcofferdamlaw10LexReserved
namespace Go.Proofs.Ytocclfjddihmbaa.Pure
open Go.RowKit Go.Proofs.Ytocclfjddihmbaa.P Go.Proofs.YtocclfjddihmbaaW.PrintWords Go.Proofs.YtocclfjddihmbaaW.PrintLast
set_option linter.unusedVariables false
set_option linter.unusedSimpArgs false

theorem alive10r (k : Nat) (hk : 40 ≤ k) : cofferdamlaw10_alive.f k = some true :=
  at_rounds (g := fun k => cofferdamlaw10_alive.f k) (fun k => cofferdamlaw10_alive.mono k) hk (by kernel_rfl)
def joinW : List (List UInt8) → List UInt8
  | [] => [32]
  | v :: l => 32 :: (v ++ joinW l)
theorem joinW_head (l : List (List UInt8)) : ∃ r, joinW l = 32 :: r := by
  cases l with
  | nil => exact ⟨[], rfl⟩
  | cons v l => exact ⟨_, rfl⟩
theorem contains_step (b : UInt8) (l sub : List UInt8) : Lib.contains (b :: l) sub = (sub.isPrefixOf (b :: l) || Lib.contains l sub) := by
  unfold Lib.contains
  have hge := Lib.index_ge l sub
  rw [Lib.index]
  by_cases h : sub.isPrefixOf (b :: l) = true
  · simp [h]
  · rw [Bool.eq_false_iff.2 h]
    by_cases h2 : Lib.index l sub = -1
    · simp [h2]
    · have h3 : (Lib.index l sub == -1) = false := by simpa using h2
      simp only [h3, Bool.false_or]
      rw [decide_eq_decide]
      simp
      omega
theorem contains_skip (x : List UInt8) : ∀ (v l : List UInt8), 32 ∉ v → Lib.contains (v ++ l) (32 :: x) = Lib.contains l (32 :: x)
  | [], l, _ => rfl
  | b :: v, l, h => by
    have hb : b ≠ 32 := fun e => h (by rw [e]; exact List.mem_cons_self)
    rw [List.cons_append, contains_step, contains_skip x v l (fun e => h (List.mem_cons_of_mem _ e))]
    have : (32 :: x).isPrefixOf (b :: (v ++ l)) = false := by
      simp only [List.isPrefixOf, Bool.and_eq_false_iff]
      exact Or.inl (beq_eq_false_iff_ne.2 (fun e => hb e.symm))
    rw [this, Bool.false_or]
theorem prefix_word : ∀ (u v r : List UInt8), 32 ∉ u → 32 ∉ v → (u ++ [32]).isPrefixOf (v ++ 32 :: r) = decide (u = v)
  | [], [], r, _, _ => by simp [List.isPrefixOf]
  | [], b :: v, r, _, hv => by
    have hb : b ≠ 32 := fun e => hv (by rw [e]; exact List.mem_cons_self)
    have : ((32 : UInt8) == b) = false := beq_eq_false_iff_ne.2 (fun e => hb e.symm)
    simp [List.isPrefixOf, this]
  | c :: u, [], r, hu, _ => by
    have hc : c ≠ 32 := fun e => hu (by rw [e]; exact List.mem_cons_self)
    have : (c == (32 : UInt8)) = false := beq_eq_false_iff_ne.2 hc
    simp [List.isPrefixOf, this]
  | c :: u, b :: v, r, hu, hv => by
    rw [List.cons_append, List.cons_append, List.isPrefixOf, prefix_word u v r (fun e => hu (List.mem_cons_of_mem _ e)) (fun e => hv (List.mem_cons_of_mem _ e))]
    by_cases h : c = b
    · subst h; simp
    · have : (c == b) = false := beq_eq_false_iff_ne.2 h
      rw [this]
      simp [h]
theorem contains_words (u : List UInt8) (hu : 32 ∉ u) : ∀ (l : List (List UInt8)), (∀ v ∈ l, 32 ∉ v) → Lib.contains (joinW l) (32 :: (u ++ [32])) = l.any (fun v => decide (u = v))
  | [], _ => by
    show Lib.contains [32] (32 :: (u ++ [32])) = false
    rw [contains_step]
    have h1 : (32 :: (u ++ [32])).isPrefixOf [32] = false := by
      cases u <;> simp [List.isPrefixOf]
    rw [h1]
    unfold Lib.contains
    rw [Lib.index]
    simp
  | v :: l, h => by
    obtain ⟨r, hr⟩ := joinW_head l
    show Lib.contains (32 :: (v ++ joinW l)) (32 :: (u ++ [32])) = _
    rw [contains_step, contains_skip _ v _ (h v List.mem_cons_self), contains_words u hu l (fun x hx => h x (List.mem_cons_of_mem _ hx)), List.any_cons]
    congr 1
    rw [List.isPrefixOf, hr, prefix_word u v r hu (h v List.mem_cons_self)]
    simp
def resWords : List (List UInt8) := [[100, 101, 118, 105, 99, 101], [106, 111, 117, 114, 110, 97, 108], [107, 101, 121], [114, 111, 111, 116], [118, 111, 108, 117, 109, 101], [101, 120, 112, 111, 114, 116], [114, 101, 97, 100, 111, 110, 108, 121], [108, 105, 110, 101, 97, 114], [99, 111, 110, 99, 97, 116], [109, 105, 114, 114, 111, 114], [115, 110, 97, 112, 115, 104, 111, 116], [99, 114, 121, 112, 116], [105, 110, 116, 101, 103, 114, 105, 116, 121], [118, 101, 114, 105, 116, 121]]
def resB (u : List UInt8) : Bool := resWords.any (fun v => decide (u = v))
theorem resWords_ok : ∀ v ∈ resWords, 32 ∉ v ∧ v ≠ [] := by decide
theorem resB_no (u : List UInt8) (h : u = [] ∨ 32 ∈ u) : resB u = false := by
  unfold resB
  rw [List.any_eq_false]
  intro v hv he
  have he := of_decide_eq_true he
  subst he
  have := resWords_ok u hv
  rcases h with h | h
  · exact this.2 h
  · exact this.1 h
theorem contains32 : ∀ (u : List UInt8), Lib.contains u [32] = decide (32 ∈ u)
  | [] => rfl
  | b :: u => by
    rw [contains_step, contains32 u]
    by_cases h : b = 32
    · subst h; simp [List.isPrefixOf]
    · have h2 : ((32 : UInt8) == b) = false := beq_eq_false_iff_ne.2 (fun e => h e.symm)
      have h3 : ¬ (32 : UInt8) = b := fun e => h e.symm
      simp [List.isPrefixOf, h2, h3]
def resText : ByteArray := ⟨#[32, 100, 101, 118, 105, 99, 101, 32, 106, 111, 117, 114, 110, 97, 108, 32, 107, 101, 121, 32, 114, 111, 111, 116, 32, 118, 111, 108, 117, 109, 101, 32, 101, 120, 112, 111, 114, 116, 32, 114, 101, 97, 100, 111, 110, 108, 121, 32, 108, 105, 110, 101, 97, 114, 32, 99, 111, 110, 99, 97, 116, 32, 109, 105, 114, 114, 111, 114, 32, 115, 110, 97, 112, 115, 104, 111, 116, 32, 99, 114, 121, 112, 116, 32, 105, 110, 116, 101, 103, 114, 105, 116, 121, 32, 118, 101, 114, 105, 116, 121, 32]⟩
theorem resText_list : resText.data.toList = joinW resWords := by decide
theorem reserved_run (a : ByteArray) (ha : a.size ≤ 140737488351232) : lex_Reserved.f a = some (resB a.data.toList) := by
  unfold lex_Reserved.f
  rw [ByteArray.toList_eq]
  by_cases h0 : a.data.toList = []
  · rw [if_pos h0, resB_no _ (Or.inl h0)]
  · rw [if_neg h0]
    have h1 : strings_Contains.f a (⟨#[32]⟩ : ByteArray) = some (decide (32 ∈ a.data.toList)) := by
      unfold strings_Contains.f
      rw [if_pos (Or.inl (show (⟨#[32]⟩ : ByteArray).size = 1 from rfl)), ← contains32]
    rw [h1]
    simp only [Option.bind_some]
    by_cases h2 : 32 ∈ a.data.toList
    · rw [if_pos (decide_eq_true h2), resB_no _ (Or.inr h2)]
    · rw [if_neg (by simpa using h2), if_pos (by omega), if_pos (by rw [ByteArray.size_append]; show 1 + a.size + 1 ≤ _; omega)]
      have h3 : strings_Contains.f resText (((⟨#[32]⟩ : ByteArray) ++ a) ++ (⟨#[32]⟩ : ByteArray)) = some (resB a.data.toList) := by
        unfold strings_Contains.f
        rw [if_pos (Or.inr (by decide)), resText_list]
        have h4 : (((⟨#[32]⟩ : ByteArray) ++ a) ++ (⟨#[32]⟩ : ByteArray)).data.toList = 32 :: (a.data.toList ++ [32]) := by
          rw [ByteArray.data_append, ByteArray.data_append, Array.toList_append, Array.toList_append]
          rfl
        rw [h4, contains_words _ h2 resWords (fun v hv => (resWords_ok v hv).1)]
        rfl
      show (strings_Contains.f resText (((⟨#[32]⟩ : ByteArray) ++ a) ++ (⟨#[32]⟩ : ByteArray))).bind _ = _
      rw [h3]
      rfl
theorem ref_run0 (a : ByteArray) (xs : List ByteArray) (hx : xs.length ≤ 1000) : ∀ (d i k : Nat), xs.length - i ≤ d → i ≤ xs.length → d < k → cofferdamref10_Reserved.l0 k a xs i = some ((xs.drop i).any (fun x => decide (a.data.toList = x.data.toList))) := by
  intro d
  induction d with
  | zero =>
    intro i k hd hi hk
    obtain ⟨k, rfl⟩ : ∃ m, k = m + 1 := ⟨k - 1, by omega⟩
    rw [cofferdamref10_Reserved.l0, if_neg (by omega), List.drop_of_length_le (by omega)]
    rfl
  | succ d ih =>
    intro i k hd hi hk
    obtain ⟨k, rfl⟩ : ∃ m, k = m + 1 := ⟨k - 1, by omega⟩
    by_cases hlt : i < xs.length
    · have c1 : ((i : Nat) : Int) < (xs.length : Int) := by omega
      have hd2 : xs.drop i = xs[i] :: xs.drop (i + 1) := List.drop_eq_getElem_cons hlt
      have hg : rdOf ByteArray.empty xs (i : Int) = xs[i] := by
        unfold rdOf
        rw [Int.toNat_natCast, List.getD_eq_getElem?_getD, List.getElem?_eq_getElem hlt]
        rfl
      rw [cofferdamref10_Reserved.l0, if_pos c1, if_pos (Int.natCast_nonneg _), hg, hd2, List.any_cons, ByteArray.toList_eq, ByteArray.toList_eq]
      by_cases he : xs[i].data.toList = a.data.toList
      · rw [if_pos he, decide_eq_true he.symm]
        rfl
      · have ih2 := ih (i + 1) k (by omega) (by omega) (by omega)
        have hw : wrap64 ((i : Int) + 1) = ((i + 1 : Nat) : Int) := by unfold wrap64; omega
        rw [if_neg he, hw, ih2, decide_eq_false (fun e => he e.symm), Bool.false_or]
    · rw [cofferdamref10_Reserved.l0, if_neg (by omega), List.drop_of_length_le (by omega)]
      rfl
theorem ref_run (a : ByteArray) (k : Nat) (hk : 20 < k) : cofferdamref10_Reserved.f k a = some (resB a.data.toList) := by
  unfold cofferdamref10_Reserved.f
  exact ref_run0 a _ (by decide) 14 0 k (by decide) (by decide) (by omega)
theorem LexReserved : cofferdamlaw10_LexReserved.Pure := by
  intro a ha
  refine ⟨40, ?_⟩
  unfold cofferdamlaw10_LexReserved.f
  rw [alive10r 40 (by decide), reserved_run a ha, ref_run a 40 (by decide), reserved_run _ (by decide), reserved_run _ (by decide)]
  simp only [Option.bind_some, BEq.rfl, if_true]
  rfl
end Go.Proofs.Ytocclfjddihmbaa.Pure
