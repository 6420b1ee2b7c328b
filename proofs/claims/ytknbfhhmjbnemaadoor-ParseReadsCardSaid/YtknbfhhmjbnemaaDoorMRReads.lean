/- Proved here, for the claim of parseReads_holds: that the law holds: the texts of this work, one behind the other, laid by a program of this session. Conditions: none beside the statement's own. -/
import Derived.Test.YtknbfhhmjbnemaaDoorMR4
import Derived.Test.YtknbfhhmjbnemaaDoorMRReadsB
import Derived.Test.YtknbfhhmjbnemaaDoorTie
import Derived.Test.YtknbfhhmjbnemaaDoorCards
import Derived.SevenTiedAt
set_option linter.unusedVariables false
set_option linter.unusedSimpArgs false
section
namespace Go.Proofs.YtknbfhhmjbnemaaDoor.P
open Go.RowKit Go.Proofs.YtknbfhhmjbnemaaDoorW.PrintWords Go.Proofs.YtknbfhhmjbnemaaDoorW.PrintLast Go.Proofs.YtknbfhhmjbnemaaDoorW.PrintMore Go.Proofs.YtknbfhhmjbnemaaDoor.Pure

/-! the reader reads expressions, statements and files as the parser does -/
section
variable {T0 : List S60} {en : Int}
theorem Rel.none {α β : Type} {g : G α} {r : Rdr β} {f : α → β} (e : ∀ T en, g T en = none) : Rel T0 en g r f := by
 intro i hi
 exact ⟨fun a T' h => (by rw [e] at h; cases h), fun x h => by rw [e] at h; cases h⟩
theorem xKv {i : Nat} (h : i < T0.length) : xAu T0 (i : Int) ∈ T0 := by
 have : T0[i]'h = xAu T0 (i : Int) := by unfold xAu; simp [List.getD_eq_getElem?_getD, h]
 rw [← this]; exact List.getElem_mem h
theorem xLv (hT : T0.length ≤ 1000) (hg : ∀ t ∈ T0, xDn t) (hz : ∀ t ∈ T0, t.f1.size ≤ 140737488351232) : ∀ k,
  (∀ nest, 0 ≤ nest → nest ≤ 13 → ∀ K, k + 25 ≤ K → Rel T0 en (xCo k nest) (xFp K T0 nest) (fun x => x)) ∧
  (∀ nest acc, 0 ≤ nest → nest ≤ 12 → ∀ K, k + 25 ≤ K → Rel T0 en (xDi k nest acc) (xFz K T0 nest acc) (fun x => x))
 | 0 => ⟨fun nest _ _ K _ => Rel.none (xE0 nest), fun nest acc _ _ K _ => Rel.none (xE9 nest acc)⟩
 | k + 1 => by
  obtain ⟨ih, ihs⟩ := xLv hT hg hz k
  constructor
  ·intro nest h0 h13 K hK i hi
   obtain ⟨K, rfl⟩ : ∃ q, K = q + 1 := ⟨K - 1, by omega⟩
   by_cases hn : nest > 12
   ·have e : xCo (k + 1) nest (T0.drop i) en = some (.error (112, xB4 (T0.drop i) en)) := by
     unfold xCo
     rw [pexpr, if_neg (by omega), if_pos hn]
    rw [e]
    refine ⟨fun a T' h => (by cases h), fun x h => ?_⟩
    cases h
    refine ⟨by show (112 : Int) ≠ 0; decide, z25, i, hi, ?_⟩
    unfold xFp
    rw [rexpr, if_neg (by omega), if_pos hn, xF0, Option.bind_some]
    dsimp only
    rw [xM9 (by decide) (by omega), Option.bind_some]
    dsimp only
    rw [if_neg (by decide)]
   ·have hop := op_run (n := en) (at_ := 0) hg hi (k := K) (by omega)
    obtain ⟨K', rfl⟩ : ∃ q, K = q + 1 := ⟨K - 1, by omega⟩
    by_cases ht : ptgt (T0.drop i) = true
    ·have hlt : i < T0.length := by
      rcases Nat.lt_or_ge i T0.length with h | h
      ·exact h
      ·rw [List.drop_of_length_le h] at ht; cases ht
     rw [if_pos ht, xCj T0 i hlt, List.headD_cons] at hop
     rw [xCj T0 i hlt] at ht
     have hmem : (xAu T0 (i : Int)).f1 ∈ OPWS := by
      unfold ptgt at ht
      simp only [Bool.and_eq_true, xGz] at ht
      exact ht.2
     have hp : xAq.f T0 (i : Int) en 0 0 = some ((xAu T0 (i : Int)).f3, (i : Int), en, 0, 0) := by
      rw [xFt, xCj T0 i hlt]; rfl
     have e2 : xFp (K' + 1 + 1) T0 nest i en 0 0 = otail (K' + 1) T0 (xAu T0 (i : Int)).f1 (xAu T0 (i : Int)).f3 nest ((i + 1 : Nat) : Int) en 0 0 :=
      xKq (by omega) hn ⟨by omega, by omega⟩ hop (xHt (xJa _ hmem)) hp
     rw [e2, xCj T0 i hlt, xD2 k nest (by omega) hn, if_pos (show ((xAu T0 (i : Int)).f0 == 0 && xDr (xAu T0 (i : Int)).f1) = true from ht)]
     have hbr : ∀ first, Rel T0 en (gbr k (xAu T0 (i : Int)).f1 nest first) (obr (K' + 1) T0 (xAu T0 (i : Int)).f1 nest first) (fun x => x) := fun first =>
      Rel.gite (Rel.bd (Rel.must (by omega) _) (fun _ => Rel.bd (Rel.tok (by omega) (by decide)) (fun a => Rel.bd (Rel.must (by omega) _) (fun _ => Rel.bd (Rel.tok (by omega) (by decide)) (fun b => Rel.ret _ rfl) (fun _ => Stk.ret _)) (fun _ => Stk.bd (Stk.tok _) fun _ => Stk.ret _)) (fun _ => Stk.bd (Stk.must _) fun _ => Stk.bd (Stk.tok _) fun _ => Stk.ret _)) (fun _ => Stk.bd (Stk.tok _) fun _ => Stk.bd (Stk.must _) fun _ => Stk.bd (Stk.tok _) fun _ => Stk.ret _))
      (Rel.gite (Rel.bd (Rel.must (by omega) _) (fun _ => Rel.bd (ih (nest + 1) (by omega) (by omega) (K' + 1) (by omega)) (fun a => Rel.bd (Rel.must (by omega) _) (fun _ => Rel.bd (Rel.tok (by omega) (by decide)) (fun b => Rel.ret _ rfl) (fun _ => Stk.ret _)) (fun _ => Stk.bd (Stk.tok _) fun _ => Stk.ret _)) (fun _ => Stk.bd (Stk.must _) fun _ => Stk.bd (Stk.tok _) fun _ => Stk.ret _)) (fun _ => Stk.bd (Stk.expr (by omega) (by omega)) fun _ => Stk.bd (Stk.must _) fun _ => Stk.bd (Stk.tok _) fun _ => Stk.ret _))
      (Rel.gite (Rel.bd (Rel.must (by omega) _) (fun _ => Rel.bd (Rel.name (by omega) hz (by omega)) (fun a => Rel.ret _ rfl) (fun _ => Stk.ret _)) (fun _ => Stk.bd (Stk.name (by omega)) fun _ => Stk.ret _))
      (ihs nest [first] h0 (by omega) (K' + 1) (by omega))))
     have R : Rel T0 en (gT k (xAu T0 (i : Int)).f1 (xAu T0 (i : Int)).f3 nest) (otail (K' + 1) T0 (xAu T0 (i : Int)).f1 (xAu T0 (i : Int)).f3 nest) (fun x => x) :=
      Rel.bd (Rel.must (by omega) _) (fun _ => Rel.bd (ih (nest + 1) (by omega) (by omega) (K' + 1) (by omega)) (fun first => Rel.bd (hbr first) (fun L => Rel.bd (Rel.must (by omega) _) (fun _ => Rel.ret _ rfl) (fun _ => Stk.ret _)) (fun _ => Stk.bd (Stk.must _) fun _ => Stk.ret _))
       (fun _ => Stk.bd (Stk.br (by omega) (by omega)) fun _ => Stk.bd (Stk.must _) fun _ => Stk.ret _)) (fun _ => Stk.bd (Stk.expr (by omega) (by omega)) fun _ => Stk.bd (Stk.br (by omega) (by omega)) fun _ => Stk.bd (Stk.must _) fun _ => Stk.ret _)
     exact R (i + 1) hlt
    ·rw [if_neg ht] at hop
     have e : xCo (k + 1) nest (T0.drop i) en = guse (T0.drop i) en := by
      cases hd : T0.drop i with
      | nil => exact xEr k nest (by omega) hn en
      | cons t T =>
       rw [hd] at ht
       rw [xD2 k nest (by omega) hn, if_neg (show ¬ (t.f0 == 0 && xDr t.f1) = true from ht)]
     have e2 : xFp (K' + 1 + 1) T0 nest i en 0 0 = (rb (xHe (K' + 1) T0) fun t => rret (⟨(⟨#[117, 115, 101]⟩ : ByteArray), t.f1, 0, t.f3, []⟩ : S25)) i en 0 0 := by
      unfold xFp
      rw [rexpr, if_neg (by omega), if_neg hn, hop, Option.bind_some]
      dsimp only
      rw [if_pos rfl, if_pos (by rw [ByteArray.toList_eq])]
      unfold rb xHe rret
      simp only [Option.bind_assoc, Option.bind_some]
     rw [e, e2]
     exact (Rel.bd (Rel.name (by omega) hz (by omega)) (fun a => Rel.ret _ rfl) (fun _ => Stk.ret _) : Rel T0 en guse _ (fun x => x)) i hi
  ·intro nest acc h0 h12 K hK i hi
   obtain ⟨K, rfl⟩ : ∃ q, K = q + 1 := ⟨K - 1, by omega⟩
   obtain ⟨K', rfl⟩ : ∃ q, K = q + 1 := ⟨K - 1, by omega⟩
   rw [xEa]
   have e1 : xFz (K' + 1 + 1) T0 nest acc i en 0 0 = rexprs (K' + 1 + 1) T0 i en 0 0 nest acc (pis (T0.drop i) CM) := by
    unfold xFz
    rw [xJ4, Option.bind_some]
   rw [e1]
   by_cases hacc : acc.length ≤ 1000000
   ·rw [if_pos hacc]
    by_cases hp : pis (T0.drop i) CM = true
    ·have hlt : i < T0.length := by
      rcases Nat.lt_or_ge i T0.length with h | h
      ·exact h
      ·rw [List.drop_of_length_le h] at hp; cases hp
     have e2 : rexprs (K' + 1 + 1) T0 i en 0 0 nest acc (pis (T0.drop i) CM) = (rb (xFp (K' + 1) T0 (nest + 1)) fun a => xFz (K' + 1) T0 nest (acc ++ [a])) ((i + 1 : Nat) : Int) en 0 0 := by
      rw [rexprs, if_pos hp, if_pos ⟨by omega, by omega, hacc⟩]
      unfold rb xFp xFz
      rfl
     rw [e2, if_pos hp, xCj T0 i hlt, List.tail_cons]
     exact (Rel.bd (ih (nest + 1) (by omega) (by omega) (K' + 1) (by omega)) (fun a => ihs nest (acc ++ [a]) h0 h12 (K' + 1) (by omega)) (fun _ => Stk.exprs) : Rel T0 en (P.bd (xCo k (nest + 1)) fun a => xDi k nest (acc ++ [a])) _ (fun x => x)) (i + 1) hlt
    ·rw [if_neg hp, rexprs, if_neg hp]
     refine ⟨fun a T' h => ?_, fun x h => by cases h⟩
     cases h
     exact ⟨i, hi, rfl, rfl⟩
   ·rw [if_neg hacc]
    exact ⟨fun a T' h => (by cases h), fun x h => by cases h⟩
/-! ### statements -/
def oro (T0 : List S60) : Rdr (Int × List S25) := fun i n b a => (xAi.f T0 i n b a RO).bind fun x => if x.1 = true then (if 0 ≤ x.2.1 ∧ x.2.1 ≤ 1000000 then some ((1, []), x.2.1 + 1, x.2.2.1, x.2.2.2.1, x.2.2.2.2) else none) else some ((0, []), x.2)
def oval (K : Nat) (T0 : List S60) (w : ByteArray) : Rdr (Int × List S25) :=
 rite (w.toList = ([100, 101, 118, 105, 99, 101] : List UInt8) ∨ w.toList = ([106, 111, 117, 114, 110, 97, 108] : List UInt8)) (rb (otok T0 1) fun a => rret (a.f2, []))
 (rite (w.toList = ([107, 101, 121] : List UInt8) ∨ w.toList = ([114, 111, 111, 116] : List UInt8)) (rb (otok T0 2) fun a => rret (0, [xFu a]))
 (rite (w.toList = ([118, 111, 108, 117, 109, 101] : List UInt8)) (rb (xEy T0 EQ) fun _ => rb (xFp K T0 1) fun a => rret (0, [a]))
 (rite (w.toList = ([101, 120, 112, 111, 114, 116] : List UInt8)) (oro T0) (rret (0, [])))))
def ostm (K : Nat) (T0 : List S60) (w : ByteArray) (pl : Int) : Rdr S25 := rb (xHe K T0) fun nm => rb (oval K T0 w) fun nl => rb (xEy T0 SC) fun _ => rret ⟨w, nm.f1, nl.1, pl, nl.2⟩
theorem kws_is {w : ByteArray} (h : w ∈ kws) (h1 : ¬ (w.toList = ([100, 101, 118, 105, 99, 101] : List UInt8) ∨ w.toList = ([106, 111, 117, 114, 110, 97, 108] : List UInt8))) (h2 : ¬ (w.toList = ([107, 101, 121] : List UInt8) ∨ w.toList = ([114, 111, 111, 116] : List UInt8))) (h3 : ¬ w.toList = ([118, 111, 108, 117, 109, 101] : List UInt8)) : w.toList = ([101, 120, 112, 111, 114, 116] : List UInt8) := by
 unfold kws at h
 simp only [List.mem_cons, List.not_mem_nil, or_false] at h
 rcases h with h | h | h | h | h | h
 ·exact absurd (Or.inl (by rw [h, ByteArray.toList_eq])) h1
 ·exact absurd (Or.inr (by rw [h, ByteArray.toList_eq])) h1
 ·exact absurd (Or.inl (by rw [h, ByteArray.toList_eq])) h2
 ·exact absurd (Or.inr (by rw [h, ByteArray.toList_eq])) h2
 ·exact absurd (by rw [h, ByteArray.toList_eq]) h3
 ·rw [h, ByteArray.toList_eq]
theorem xKo {K : Nat} {i n : Int} {w : ByteArray} {pl : Int} (hi : 0 ≤ i ∧ i ≤ 1000000) (hp : xAq.f T0 i n 0 0 = some (pl, i, n, 0, 0)) (hk : kwOf T0 i n 0 0 kws = some (w, i, n, 0, 0)) (hw : w ∈ kws) :
  xI3 K T0 i n 0 0 = ostm K T0 w pl (i + 1) n 0 0 := by
 unfold xI3
 rw [hp, Option.bind_some]
 dsimp only
 rw [hk, Option.bind_some]
 dsimp only
 rw [if_neg (xHt (xKc _ hw)), if_pos hi]
 unfold ostm rb xHe
 rw [Option.bind_assoc]
 cases xAt.f K T0 (i + 1) n 0 0 with
 | none => rfl
 | some x =>
  simp only [Option.bind_some]
  unfold oval rite
  by_cases h1 : w.toList = ([100, 101, 118, 105, 99, 101] : List UInt8) ∨ w.toList = ([106, 111, 117, 114, 110, 97, 108] : List UInt8)
  ·simp only [if_pos h1]
   unfold rb otok xEy rret
   simp only [Option.bind_assoc, Option.bind_some]
  ·simp only [if_neg h1]
   by_cases h2 : w.toList = ([107, 101, 121] : List UInt8) ∨ w.toList = ([114, 111, 111, 116] : List UInt8)
   ·simp only [if_pos h2]
    unfold rb otok xEy rret
    simp only [Option.bind_assoc, Option.bind_some]
    rfl
   ·simp only [if_neg h2]
    by_cases h3 : w.toList = ([118, 111, 108, 117, 109, 101] : List UInt8)
    ·simp only [if_pos h3]
     unfold rb xEy xFp rret
     simp only [Option.bind_assoc, Option.bind_some]
    ·have h4 := kws_is hw h1 h2 h3
     simp only [if_neg h3, if_pos h4]
     unfold oro xEy rret
     simp only [Option.bind_assoc, Option.bind_some]
     cases xAi.f T0 x.2.2.2.2.1 x.2.2.2.2.2.1 x.2.2.2.2.2.2.1 x.2.2.2.2.2.2.2 RO with
     | none => rfl
     | some y =>
      simp only [Option.bind_some]
      split
      ·split <;> rfl
      ·rfl
theorem Stk.ro : Stk T0.length (oro T0) := by
 intro i n bad at_ hi hb
 refine ⟨(0, []), ?_⟩
 unfold oro
 rw [xKe hb, Option.bind_some]
 exact if_neg (by simp)
theorem Stk.val {K : Nat} (hK : 20 ≤ K) (w : ByteArray) : Stk T0.length (oval (K + 1) T0 w) :=
 Stk.ite (Stk.bd (Stk.tok _) fun _ => Stk.ret _) (Stk.ite (Stk.bd (Stk.tok _) fun _ => Stk.ret _) (Stk.ite (Stk.bd (Stk.must _) fun _ => Stk.bd (Stk.expr hK (by omega)) fun _ => Stk.ret _) (Stk.ite Stk.ro (Stk.ret _))))
theorem Rel.ro (hT : T0.length ≤ 1000) : Rel T0 en gro (oro T0) (fun x => x) := by
 intro i hi
 unfold gro oro
 rw [xJ4, Option.bind_some]
 by_cases hp : pis (T0.drop i) RO = true
 ·have hlt : i < T0.length := by
   rcases Nat.lt_or_ge i T0.length with h | h
   ·exact h
   ·rw [List.drop_of_length_le h] at hp; cases hp
  rw [if_pos hp]
  refine ⟨fun a T' h => ?_, fun x h => by cases h⟩
  cases h
  refine ⟨i + 1, hlt, by rw [xCj T0 i hlt]; rfl, ?_⟩
  dsimp only
  rw [if_pos hp, if_pos ⟨by omega, by omega⟩]
  rfl
 ·rw [if_neg hp]
  refine ⟨fun a T' h => ?_, fun x h => by cases h⟩
  cases h
  refine ⟨i, hi, rfl, ?_⟩
  dsimp only
  rw [if_neg hp]
theorem Rel.val (hT : T0.length ≤ 1000) (hg : ∀ t ∈ T0, xDn t) (hz : ∀ t ∈ T0, t.f1.size ≤ 140737488351232) {k K : Nat} (hK : k + 25 ≤ K) (w : ByteArray) : Rel T0 en (gval k w) (oval K T0 w) (fun x => x) := by
 obtain ⟨ih, _⟩ := xLv (en := en) hT hg hz k
 exact Rel.gite (Rel.bd (Rel.tok (by omega) (by decide)) (fun a => Rel.ret _ rfl) (fun _ => Stk.ret _))
  (Rel.gite (Rel.bd (Rel.tok (by omega) (by decide)) (fun a => Rel.ret _ rfl) (fun _ => Stk.ret _))
  (Rel.gite (Rel.bd (Rel.must (by omega) _) (fun _ => Rel.bd (ih 1 (by omega) (by omega) K hK) (fun a => Rel.ret _ rfl) (fun _ => Stk.ret _)) (fun _ => by
   obtain ⟨K', rfl⟩ : ∃ q, K = q + 1 := ⟨K - 1, by omega⟩
   exact Stk.bd (Stk.expr (by omega) (by omega)) fun _ => Stk.ret _))
  (Rel.gite (Rel.ro hT) (Rel.ret _ rfl))))
theorem Rel.stmt (hT : T0.length ≤ 1000) (hg : ∀ t ∈ T0, xDn t) (hz : ∀ t ∈ T0, t.f1.size ≤ 140737488351232) {k K : Nat} (hK : k + 25 ≤ K) : Rel T0 en (xEz k) (fun i n b a => xI3 K T0 i n b a) (fun x => x) := by
 intro i hi
 have hkw := xMf (T0 := T0) (i := (i : Int)) (n := en) (bad := 0) (at_ := 0) (pis (T0.drop i)) (fun x => xJ4 x) kws
 rcases Nat.lt_or_ge i T0.length with h | h
 ·have hp : xAq.f T0 (i : Int) en 0 0 = some ((xAu T0 (i : Int)).f3, (i : Int), en, 0, 0) := by
   rw [xFt, xCj T0 i h]; rfl
  rw [xCj T0 i h] at hkw ⊢
  by_cases hs : pstw (xAu T0 (i : Int)) = true
  ·have hm := (xK6 _).1 hs
   rw [xHv kws hm] at hkw
   have e : xEz k (xAu T0 (i : Int) :: T0.drop (i + 1)) en = (P.bd (gof 0) fun nm => xJs k (xAu T0 (i : Int)).f1 nm.f1 (xAu T0 (i : Int)).f3) (T0.drop (i + 1)) en := by
    unfold xEz gstw xG1 P.bd
    simp only [xEu, Option.map_some, hs, if_true]
    rfl
   have e2 : xI3 K T0 (i : Int) en 0 0 = ostm K T0 (xAu T0 (i : Int)).f1 (xAu T0 (i : Int)).f3 ((i + 1 : Nat) : Int) en 0 0 := xKo ⟨by omega, by omega⟩ hp hkw hm.2
   rw [e]
   dsimp only
   rw [e2]
   obtain ⟨K', rfl⟩ : ∃ q, K = q + 1 := ⟨K - 1, by omega⟩
   exact (Rel.bd (Rel.name (by omega) hz (by omega)) (fun nm => Rel.bd (Rel.val hT hg hz hK _) (fun nl => Rel.bd (Rel.must (by omega) _) (fun _ => Rel.ret _ rfl) (fun _ => Stk.ret _)) (fun _ => Stk.bd (Stk.must _) fun _ => Stk.ret _)) (fun _ => Stk.bd (Stk.val (by omega) _) fun _ => Stk.bd (Stk.must _) fun _ => Stk.ret _) :
    Rel T0 en (P.bd (gof 0) fun nm => xJs k (xAu T0 (i : Int)).f1 nm.f1 (xAu T0 (i : Int)).f3) (ostm (K' + 1) T0 (xAu T0 (i : Int)).f1 (xAu T0 (i : Int)).f3) (fun x => x)) (i + 1) h
  ·rw [xHw kws xKc (hg _ (xKv h)) (fun hm => hs ((xK6 _).2 hm))] at hkw
   have e : xEz k (xAu T0 (i : Int) :: T0.drop (i + 1)) en = some (.error (111, (xAu T0 (i : Int)).f3)) := by
    unfold xEz gstw xG1 P.bd
    simp only [xEu, Option.map_some, hs]
    rfl
   rw [e]
   refine ⟨fun a T' h => (by cases h), fun x hx => ?_⟩
   cases hx
   refine ⟨by show (111 : Int) ≠ 0; decide, ⟨⟨#[]⟩, ⟨#[]⟩, 0, (xAu T0 (i : Int)).f3, []⟩, i, hi, ?_⟩
   dsimp only
   unfold xI3
   rw [hp, Option.bind_some]
   dsimp only
   rw [hkw, Option.bind_some]
   dsimp only
   rw [if_pos (by rw [ByteArray.toList_eq]), xF0, xCj T0 i h]
   rfl
 ·rw [List.drop_of_length_le h] at hkw ⊢
  have e : xEz k [] en = some (.error (111, en)) := rfl
  rw [e]
  refine ⟨fun a T' h => (by cases h), fun x hx => ?_⟩
  cases hx
  refine ⟨by show (111 : Int) ≠ 0; decide, ⟨⟨#[]⟩, ⟨#[]⟩, 0, en, []⟩, i, hi, ?_⟩
  dsimp only
  unfold xI3
  rw [xFt, List.drop_of_length_le h, Option.bind_some]
  dsimp only
  rw [hkw, Option.bind_some]
  dsimp only
  rw [if_pos (by show (⟨#[]⟩ : ByteArray).toList = []; rw [ByteArray.toList_eq]), xF0, List.drop_of_length_le h]
  rfl
theorem xGw (hT : T0.length ≤ 1000) (hg : ∀ t ∈ T0, xDn t) (hz : ∀ t ∈ T0, t.f1.size ≤ 140737488351232) (K : Nat) : ∀ (k : Nat) (acc : List S25) (J i : Nat), k + 25 ≤ K → k + 1 ≤ J → i ≤ T0.length →
  (∀ L T', xCt k acc (T0.drop i) en = some (.ok (L, T')) → ∃ j : Int, xFh K J T0 i en 0 0 acc = some (L, j, en, 0, 0)) ∧
  (∀ x, xCt k acc (T0.drop i) en = some (.error x) → x.1 ≠ 0 ∧ ∃ (L : List S25) (j : Int), xFh K J T0 i en 0 0 acc = some (L, j, en, x.1, x.2))
 | 0, acc, J, i, _, _, _ => ⟨fun L T' h => (by rw [xE8] at h; cases h), fun x h => by rw [xE8] at h; cases h⟩
 | k + 1, acc, J, i, hK, hJ, hi => by
  obtain ⟨J, rfl⟩ : ∃ q, J = q + 1 := ⟨J - 1, by omega⟩
  rw [xEq]
  by_cases hacc : acc.length ≤ 1000000
  case neg =>
   rw [if_neg hacc]
   exact ⟨fun L T' h => (by cases h), fun x h => (by cases h)⟩
  rw [if_pos hacc]
  rcases Nat.lt_or_ge i T0.length with h | h
  ·rw [if_neg (by rw [xCj T0 i h]; simp), xFh, if_pos ⟨by omega, rfl⟩, if_pos hacc]
   have R := Rel.stmt (en := en) (k := k) (K := K) hT hg hz (by omega) i hi
   dsimp only at R
   constructor
   ·intro L T' e
    unfold P.bd at e
    rcases xBd e with ⟨x, _, hx⟩ | ⟨a1, T1, e1, e2⟩
    ·cases hx
    ·obtain ⟨j, hj, rfl, hr⟩ := R.1 _ _ e1
     rw [hr, Option.bind_some]
     exact (xGw hT hg hz K k (acc ++ [a1]) J j (by omega) (by omega) hj).1 _ _ e2
   ·intro x e
    unfold P.bd at e
    rcases xBd e with ⟨x', hx', hx⟩ | ⟨a1, T1, e1, e2⟩
    ·cases hx
     obtain ⟨hx0, b, j, hj, hr⟩ := R.2 _ hx'
     rw [hr, Option.bind_some]
     refine ⟨hx0, acc ++ [b], j, ?_⟩
     dsimp only
     obtain ⟨J, rfl⟩ : ∃ q, J = q + 1 := ⟨J - 1, by omega⟩
     rw [xFh, if_neg (fun h => hx0 h.2)]
    ·obtain ⟨j, hj, rfl, hr⟩ := R.1 _ _ e1
     rw [hr, Option.bind_some]
     exact (xGw hT hg hz K k (acc ++ [a1]) J j (by omega) (by omega) hj).2 _ e2
  ·rw [if_pos (List.drop_of_length_le h), xFh, if_neg (by omega)]
   refine ⟨fun L T' e => ?_, fun x e => by cases e⟩
   cases e
   exact ⟨i, rfl⟩
end
/-- The document's Parse is the program's. -/
theorem xKp (s : ByteArray) (k : Nat) (hk : 20000 ≤ k) : xK3 k s = some (xDq s) := by
 unfold xK3
 rw [xIs s k hk, Option.bind_some]
 cases h : scan (xAj s) with
 | error e =>
  rw [xG9 h]
  have h0 := xGs h
  unfold told
  dsimp only
  rw [if_neg h0]
 | ok T =>
  have h5 := (xLp h).2.1
  have hg := xIo h
  obtain ⟨r, hr⟩ := xEl h 600 (Nat.le_refl _)
  have h6 := hr 600 (by omega)
  rw [xH4 h h6]
  unfold told
  dsimp only
  rw [if_pos rfl]
  obtain ⟨R1, R2⟩ := xGw (en := (s.size : Int)) (T0 := T) (by omega) hg (fun t ht => Nat.le_trans (xJ5 (hg t ht)) (by omega)) k 600 [] k 0 (by omega) (by omega) (Nat.zero_le _)
  rw [List.drop_zero] at R1 R2
  rcases r with x | ⟨L, T'⟩
  ·obtain ⟨hx, L, j, e⟩ := R2 x h6
   rw [show ((0 : Nat) : Int) = 0 from rfl] at e
   rw [e, Option.bind_some]
   dsimp only
   rw [if_neg hx]
   rfl
  ·obtain ⟨j, e⟩ := R1 L T' h6
   rw [show ((0 : Nat) : Int) = 0 from rfl] at e
   rw [e, Option.bind_some]
   rfl

/-! texts that are read as tokens -/
abbrev Ek := Int × ByteArray × Int
def Hd (l : List Int) : Prop := ∀ c t, l = c :: t → stops c
inductive Lx : List Int → List Ek → Prop
 | nil : Lx [] []
 | blank {c : Int} {l : List Int} {E : List Ek} (hc : xEk c = true) (h : Lx l E) : Lx (c :: l) E
 | tok {k n : Int} {s : ByteArray} {l : List Int} {E : List Ek} (hg : GoodK k (xAj s) n) (hs : k = 3 ∨ Hd l) (h : Lx l E) : Lx (txt k (xAj s) n ++ l) ((k, s, n) :: E)
/-- A text that is read as these tokens, whatever stands behind it (GenH: what ends a word). -/
def Gen0 (t : List Int) (E : List Ek) : Prop := ∀ l E', Lx l E' → Lx (t ++ l) (E ++ E')
def GenH (t : List Int) (E : List Ek) : Prop := ∀ l E', Lx l E' → Hd l → Lx (t ++ l) (E ++ E')

/-! leaves: what is written of them is read as their tokens, and they are right -/
def toI (l : List UInt8) : List Int := l.map fun b => (b.toNat : Int)
def Wt (n : S25) (E : List Ek) : Prop := ∃ t j0, (∀ j, j0 ≤ j → xE3 j n = some t) ∧ GenH (toI t) E ∧ t.length ≤ 200 * E.length
def Rx (n : S25) (nest : Int) : Prop := ∃ K, ∀ k, K ≤ k → xAl.f k n.f0 n.f1 n.f2 n.f3 n.f4 nest = some true

/-! what an expression's tokens are: inversions of the parser's words -/
def Goods (T : List S60) : Prop := ∀ t ∈ T, xDn t
abbrev pu (c : Int) : Ek := (3, strOfNums [c], 0)
/-- Parts behind the first: a comma ahead of each. -/
inductive LW : List S25 → List Ek → Prop
 | nil : LW [] []
 | cons {x : S25} {M : List S25} {Ex EM : List Ek} (h : Wt x Ex) (h1 : LW M EM) : LW (x :: M) (pu 44 :: (Ex ++ EM))
def GenS (t : List Int) (E : List Ek) : Prop := GenH t E ∧ ∀ l, Hd l → Hd (t ++ l)

/-! expressions that were read are right, and their text is their tokens -/
section
variable {nest p : Int} (h0 : 0 ≤ nest) (hn : nest ≤ 12) {x : S25} (hx : Rx x (nest + 1))
include h0 hn hx
end


/-! statements that were read are right, and their text is their tokens -/
def St (n : S25) (E : List Ek) : Prop := ∃ t j0, (∀ j, j0 ≤ j → xE3 j n = some t) ∧ Gen0 (toI t) E ∧ t.length ≤ 200 * E.length
section
variable {t nm : S60} (ht : xDn t) (h0 : t.f0 = 0) (hn : xDn nm) (hn0 : nm.f0 = 0) (hr : presv nm.f1 = some false) (p : Int)
include ht h0 hn hn0 hr
omit ht h0 in
end

/-! a text that was read is printed, and its print is read as the same tree -/
inductive SW : List S25 → List Ek → Prop
 | nil : SW [] []
 | cons {x : S25} {M : List S25} {Ex EM : List Ek} (h : St x Ex) (h1 : SW M EM) : SW (x :: M) (Ex ++ EM)
/-! trees alike are written alike -/
theorem xJo {s : ByteArray} (h : (xDq s).2.1 ≠ 0) : (xDq s).1 = z25 := by
 cases hs : scan (xAj s) with
 | error e => rw [xG9 hs]
 | ok T =>
  obtain ⟨r, hr⟩ := xEl hs 600 (Nat.le_refl _)
  have h2 := xH4 hs (hr 600 (by omega))
  rw [h2] at h ⊢
  cases r with
  | error x => rfl
  | ok x => exact absurd rfl h
end Go.Proofs.YtknbfhhmjbnemaaDoor.P
end
section
namespace Go.Proofs.YtknbfhhmjbnemaaDoor.P
open Go.RowKit Go.Proofs.YtknbfhhmjbnemaaDoorW.PrintWords Go.Proofs.YtknbfhhmjbnemaaDoorW.PrintLast Go.Proofs.YtknbfhhmjbnemaaDoorW.PrintMore

/-! the document's Same, at one tree twice -/
theorem nodeB_below {W W1 : World} {b : Nat} {n : S25} {A : Option Addr} {c : Nat} (h : NodeB W b n A c) (hb : Below W.heap.size W W1) : NodeB W1 b n A c := ⟨xAx h.blk hb, h.hc, Kd.C_below h.hC hb⟩
def xMv (n : S25) : Prop := ∀ (A : Option Addr) (c : Nat) (A' : Option Addr) (c' : Nat) (w : World), Kd.C k25 w A n.f4.length n.f4 → n.f4.length ≤ c → Kd.C k25 w A' n.f4.length n.f4 → n.f4.length ≤ c' →
 Calls Tryd.prog 10 #[.agg #[.string n.f0, .string n.f1, .int .i64 n.f2, .int .i64 n.f3, .slice A n.f4.length c], .agg #[.string n.f0, .string n.f1, .int .i64 n.f2, .int .i64 n.f3, .slice A' n.f4.length c'], .bool true] w fun e w' => e = .returned (.bool true) ∧ Below w.heap.size w w'
set_option maxHeartbeats 8000000 in
set_option maxRecDepth 100000 in
theorem xJe (n : S25) (hlen : n.f4.length ≤ 1000002) (ih : ∀ x ∈ n.f4, xMv x) : xMv n := by
 intro A c A' c' w hC hc hC' hc'
 have hu25 := Tryd.underlying25
 have HC := Aside0.mk (And.intro hC hc)
 have HC' := Aside0.mk (And.intro hC' hc')
 have IH := Aside0.mk ih
 have HL := Aside0.mk hlen
 clear hC hc hC' hc' ih hlen
 have q0 : (n.f0.toList != n.f0.toList) = false := by simp
 have q1 : (n.f1.toList != n.f1.toList) = false := by simp
 have q2 : (n.f2 != n.f2) = false := by simp
 have q3 : (n.f3 != n.f3) = false := by simp
 have q4 : ((n.f4.length : Int) != (n.f4.length : Int)) = false := by simp
 go_enter Tryd.func10, Tryd.ntmps10
 go_upto_region 1 with (fail)
 generalize hW : World.alloc (World.alloc w _) _ = W0
 have X := Aside0.mk (show NodeB W0 w.heap.size n A c from by rw [← hW]; exact nodeB_below (NodeB.new HC.out.2 HC.out.1) (xA2 (Below.refl _ _) _))
 have Y := Aside0.mk (show NodeB W0 (w.heap.size + 1) n A' c' from by rw [← hW]; have h1 := NodeB.new (W := World.alloc w (.cells #[.string n.f0, .string n.f1, .int .i64 n.f2, .int .i64 n.f3, .slice A n.f4.length c] 25 (0, 0))) HC'.out.2 (Kd.C_alloc HC'.out.1 _); rwa [World.size_alloc] at h1)
 have HB := Aside0.mk (show Below w.heap.size w W0 from by rw [← hW]; exact xA2 (xA2 (Below.refl _ _) _) _)
 clear hW
 obtain ⟨x0, x1, x2, x3, x4⟩ : W0.cell? ⟨w.heap.size, 0, none⟩ = some (.string n.f0) ∧ W0.cell? ⟨w.heap.size, 1, none⟩ = some (.string n.f1) ∧ W0.cell? ⟨w.heap.size, 2, none⟩ = some (.int .i64 n.f2) ∧ W0.cell? ⟨w.heap.size, 3, none⟩ = some (.int .i64 n.f3) ∧ W0.cell? ⟨w.heap.size, 4, none⟩ = some (.slice A n.f4.length c) := ⟨(xA4 X.out.blk 0).trans rfl, (xA4 X.out.blk 1).trans rfl, (xA4 X.out.blk 2).trans rfl, (xA4 X.out.blk 3).trans rfl, (xA4 X.out.blk 4).trans rfl⟩
 obtain ⟨y0, y1, y2, y3, y4⟩ : W0.cell? ⟨w.heap.size + 1, 0, none⟩ = some (.string n.f0) ∧ W0.cell? ⟨w.heap.size + 1, 1, none⟩ = some (.string n.f1) ∧ W0.cell? ⟨w.heap.size + 1, 2, none⟩ = some (.int .i64 n.f2) ∧ W0.cell? ⟨w.heap.size + 1, 3, none⟩ = some (.int .i64 n.f3) ∧ W0.cell? ⟨w.heap.size + 1, 4, none⟩ = some (.slice A' n.f4.length c') := ⟨(xA4 Y.out.blk 0).trans rfl, (xA4 Y.out.blk 1).trans rfl, (xA4 Y.out.blk 2).trans rfl, (xA4 Y.out.blk 3).trans rfl, (xA4 Y.out.blk 4).trans rfl⟩
 go_wp2
 clear x0 x1 x2 x3 x4 y0 y1 y2 y3 y4
 go_loopg [7] n.f4.length (fun kq v7 wr => ∃ ji : Int, v7 = .int .i64 ji ∧ Aside0 (0 ≤ ji ∧ ji + kq = n.f4.length) ∧ Aside0 (NodeB wr w.heap.size n A c) ∧ Aside0 (NodeB wr (w.heap.size + 1) n A' c') ∧ Aside0 (Below w.heap.size w wr))
 case atStart => exact ⟨0, rfl, ⟨by omega⟩, X, Y, HB⟩
 case round =>
  clear X Y HB W0
  obtain ⟨ji, rfl, HJ, X, Y, HB⟩ := hrel
  have x4 := (xA4 X.out.blk 4).trans rfl
  have y4 := (xA4 Y.out.blk 4).trans rfl
  by_cases hi : ji < (n.f4.length : Int)
  case neg =>
   have d1 : decide (ji < (n.f4.length : Int)) = false := decide_eq_false hi
   go_wp2
   go_ret
   exact ⟨rfl, HB.out⟩
  have d1 : decide (ji < (n.f4.length : Int)) = true := decide_eq_true hi
  go_upto_region 6 with (fail)
  have X1 := Aside0.mk (nodeB_below X.out (xCb (Below.refl _ _)))
  have Y1 := Aside0.mk (nodeB_below Y.out (xCb (Below.refl _ _)))
  have HB1 := Aside0.mk (xBv HB.out HB.out.size (xCb (Below.refl _ _)))
  clear X Y HB x4 y4
  have p : 0 ≤ ji := HJ.out.1
  obtain ⟨ad, A4, c4, e, h0, h1, h2, h3, h4, hl, hi4⟩ := xEg X1.out.hC ji p hi
  obtain ⟨ad', A5, c5, e', k0, k1, k2, k3, k4, hl', hi5⟩ := xEg Y1.out.hC ji p hi
  cases e
  cases e'
  have HX4 := Aside0.mk (And.intro hi4 hl)
  have HY4 := Aside0.mk (And.intro hi5 hl')
  clear hi4 hl hi5 hl'
  have x4 := (xA4 X1.out.blk 4).trans rfl
  have y4 := (xA4 Y1.out.blk 4).trans rfl
  have pp := eq_true p
  have qq := eq_true hi
  refine xDt (n := 13) (S := fun w' => w'.cell? ⟨w.heap.size, 4, none⟩ = some (.slice (some ad) n.f4.length c) ∧ w'.cell? ⟨w.heap.size + 1, 4, none⟩ = some (.slice (some ad') n.f4.length c') ∧ w'.cell? (ad.add (ji.toNat * 5)) = some (.string (xAd n.f4 ji).f0) ∧ w'.cell? ⟨(ad.add (ji.toNat * 5)).block, (ad.add (ji.toNat * 5)).off + 1, none⟩ = some (.string (xAd n.f4 ji).f1) ∧ w'.cell? ⟨(ad.add (ji.toNat * 5)).block, (ad.add (ji.toNat * 5)).off + 2, none⟩ = some (.int .i64 (xAd n.f4 ji).f2) ∧ w'.cell? ⟨(ad.add (ji.toNat * 5)).block, (ad.add (ji.toNat * 5)).off + 3, none⟩ = some (.int .i64 (xAd n.f4 ji).f3) ∧ w'.cell? ⟨(ad.add (ji.toNat * 5)).block, (ad.add (ji.toNat * 5)).off + 4, none⟩ = some (.slice A4 (xAd n.f4 ji).f4.length c4) ∧ w'.cell? (ad'.add (ji.toNat * 5)) = some (.string (xAd n.f4 ji).f0) ∧ w'.cell? ⟨(ad'.add (ji.toNat * 5)).block, (ad'.add (ji.toNat * 5)).off + 1, none⟩ = some (.string (xAd n.f4 ji).f1) ∧ w'.cell? ⟨(ad'.add (ji.toNat * 5)).block, (ad'.add (ji.toNat * 5)).off + 2, none⟩ = some (.int .i64 (xAd n.f4 ji).f2) ∧ w'.cell? ⟨(ad'.add (ji.toNat * 5)).block, (ad'.add (ji.toNat * 5)).off + 3, none⟩ = some (.int .i64 (xAd n.f4 ji).f3) ∧ w'.cell? ⟨(ad'.add (ji.toNat * 5)).block, (ad'.add (ji.toNat * 5)).off + 4, none⟩ = some (.slice A5 (xAd n.f4 ji).f4.length c5)) (ds := []) #[false, false, false, false, false, false, false, false, false, false, false, false, false] (by kernel_rfl) rfl rfl ?hS (fun hHeld => ?_)
  case hS => exact ⟨x4, y4, h0, h1, h2, h3, h4, k0, k1, k2, k3, k4⟩
  generalize World.drew _ = Wd at *
  clear x4 y4
  refine xC1 (i := 0) (N := some 54) (v := ?_) (a' := ?_) #[true, false, false, false, false, false, false, false, false, false, false, false, false] rfl rfl (by kernel_rfl) (fun _ _ _ h => h) (Or.inl ⟨by rfl, ?_⟩) ?_ ?_
  rotate_left
  ·intro w'
   go_simp
   with_reducible rfl
  rotate_left
  ·simp only [Act.put, List.setIfInBounds_toArray, List.set_cons_zero, List.set_cons_succ, xB1, xB2]
   rfl
  refine xC1 (i := 2) (N := some 56) (v := ?_) (a' := ?_) #[true, false, true, false, false, false, false, false, false, false, false, false, false] rfl rfl (by kernel_rfl) (fun _ _ _ h => h) (Or.inl ⟨by rfl, ?_⟩) ?_ ?_
  rotate_left
  ·intro w'
   go_simp
   with_reducible rfl
  rotate_left
  ·simp only [Act.put, List.setIfInBounds_toArray, List.set_cons_zero, List.set_cons_succ, xB1, xB2]
   rfl
  refine xC1 (i := 5) (N := some 59) (v := ?_) (a' := ?_) #[true, false, true, false, false, true, false, false, false, false, false, false, false] rfl rfl (by kernel_rfl) (fun _ _ _ h => h) (Or.inl ⟨by rfl, ?_⟩) ?_ ?_
  rotate_left
  ·intro w'
   go_simp
   with_reducible rfl
  rotate_left
  ·simp only [Act.put, List.setIfInBounds_toArray, List.set_cons_zero, List.set_cons_succ, xB1, xB2]
   rfl
  refine xC1 (i := 7) (N := some 61) (v := ?_) (a' := ?_) #[true, false, true, false, false, true, false, true, false, false, false, false, false] rfl rfl (by kernel_rfl) (fun _ _ _ h => h) (Or.inl ⟨by rfl, ?_⟩) ?_ ?_
  rotate_left
  ·intro w'
   go_simp
   with_reducible rfl
  rotate_left
  ·simp only [Act.put, List.setIfInBounds_toArray, List.set_cons_zero, List.set_cons_succ, xB1, xB2]
   rfl
  refine xC1 (i := 10) (N := some 64) (v := ?_) (a' := ?_) #[true, false, true, false, false, true, false, true, false, false, true, false, false] rfl rfl (by kernel_rfl) (fun _ _ _ h => h) (Or.inl ⟨by rfl, ?_⟩) ?_ ?_
  rotate_left
  ·intro w'
   go_simp
   with_reducible rfl
  rotate_left
  ·simp only [Act.put, List.setIfInBounds_toArray, List.set_cons_zero, List.set_cons_succ, xB1, xB2]
   rfl
  refine xDu (i := 1) (N := some 55) (v := ?_) (a' := ?_) #[true, true, true, false, false, true, false, true, false, false, true, false, false] rfl rfl (by kernel_rfl) (fun _ _ _ h => h) (Or.inl ⟨by rfl, ?_⟩) hHeld ?_ ?_
  rotate_left
  ·rintro w' ⟨s0, s1, s2, s3, s4, s5, s6, s7, s8, s9, s10, s11⟩
   go_simp
   with_reducible rfl
  rotate_left
  ·simp only [Act.put, List.setIfInBounds_toArray, List.set_cons_zero, List.set_cons_succ, xB1, xB2]
   rfl
  refine xC1 (i := 3) (N := some 57) (v := ?_) (a' := ?_) #[true, true, true, true, false, true, false, true, false, false, true, false, false] rfl rfl (by kernel_rfl) (fun _ _ _ h => h) (Or.inl ⟨by rfl, ?_⟩) ?_ ?_
  rotate_left
  ·intro w'
   go_simp
   with_reducible rfl
  rotate_left
  ·simp only [Act.put, List.setIfInBounds_toArray, List.set_cons_zero, List.set_cons_succ, xB1, xB2]
   rfl
  refine xDu (i := 4) (N := some 58) (v := ?_) (a' := ?_) #[true, true, true, true, true, true, false, true, false, false, true, false, false] rfl rfl (by kernel_rfl) (fun _ _ _ h => h) (Or.inl ⟨by rfl, ?_⟩) hHeld ?_ ?_
  rotate_left
  ·rintro w' ⟨s0, s1, s2, s3, s4, s5, s6, s7, s8, s9, s10, s11⟩
   go_simp
   with_reducible rfl
  rotate_left
  ·simp only [Act.put, List.setIfInBounds_toArray, List.set_cons_zero, List.set_cons_succ, xB1, xB2]
   rfl
  refine xDu (i := 6) (N := some 60) (v := ?_) (a' := ?_) #[true, true, true, true, true, true, true, true, false, false, true, false, false] rfl rfl (by kernel_rfl) (fun _ _ _ h => h) (Or.inl ⟨by rfl, ?_⟩) hHeld ?_ ?_
  rotate_left
  ·rintro w' ⟨s0, s1, s2, s3, s4, s5, s6, s7, s8, s9, s10, s11⟩
   go_simp
   with_reducible rfl
  rotate_left
  ·simp only [Act.put, List.setIfInBounds_toArray, List.set_cons_zero, List.set_cons_succ, xB1, xB2]
   rfl
  refine xC1 (i := 8) (N := some 62) (v := ?_) (a' := ?_) #[true, true, true, true, true, true, true, true, true, false, true, false, false] rfl rfl (by kernel_rfl) (fun _ _ _ h => h) (Or.inl ⟨by rfl, ?_⟩) ?_ ?_
  rotate_left
  ·intro w'
   go_simp
   with_reducible rfl
  rotate_left
  ·simp only [Act.put, List.setIfInBounds_toArray, List.set_cons_zero, List.set_cons_succ, xB1, xB2]
   rfl
  refine xDu (i := 9) (N := some 63) (v := ?_) (a' := ?_) #[true, true, true, true, true, true, true, true, true, true, true, false, false] rfl rfl (by kernel_rfl) (fun _ _ _ h => h) (Or.inl ⟨by rfl, ?_⟩) hHeld ?_ ?_
  rotate_left
  ·rintro w' ⟨s0, s1, s2, s3, s4, s5, s6, s7, s8, s9, s10, s11⟩
   go_simp
   with_reducible rfl
  rotate_left
  ·simp only [Act.put, List.setIfInBounds_toArray, List.set_cons_zero, List.set_cons_succ, xB1, xB2]
   rfl
  refine one_ (i := 11) (N := some 65) #[true, true, true, true, true, true, true, true, true, true, true, true, false] rfl rfl (by kernel_rfl) (by decide) (fun K hK => ?_)
  refine goes_ Tryd.func10 (by kernel_rfl) rfl #[.agg #[.string (xAd n.f4 ji).f0, .string (xAd n.f4 ji).f1, .int .i64 (xAd n.f4 ji).f2, .int .i64 (xAd n.f4 ji).f3, .slice A4 (xAd n.f4 ji).f4.length c4], .agg #[.string (xAd n.f4 ji).f0, .string (xAd n.f4 ji).f1, .int .i64 (xAd n.f4 ji).f2, .int .i64 (xAd n.f4 ji).f3, .slice A5 (xAd n.f4 ji).f4.length c5], .bool true] (by rfl) rfl rfl (by first | rfl | (simp [Act.eval]; done) | (go_simp; done)) ?_
  have hmem : xAd n.f4 ji ∈ n.f4 := by
   obtain ⟨i, rfl⟩ : ∃ i : Nat, ji = (i : Int) := ⟨ji.toNat, by omega⟩
   unfold xAd
   simp only [Int.toNat_natCast, List.getD_eq_getElem?_getD, List.getElem?_eq_getElem (show i < n.f4.length by omega), Option.getD_some]
   exact List.getElem_mem _
  refine (IH.out _ hmem A4 c4 A5 c5 Wd HX4.out.1 HX4.out.2 HY4.out.1 HY4.out.2).mono ?_
  rintro e w5 ⟨rfl, hb⟩
  have X2 := Aside0.mk (nodeB_below X1.out hb)
  have Y2 := Aside0.mk (nodeB_below Y1.out hb)
  have HB2 := Aside0.mk (xBv HB1.out HB1.out.size hb)
  refine ⟨_, rfl, ?_⟩
  try clear hHeld
  refine hK.out _ _ ⟨(xA4 X2.out.blk 4).trans rfl, (xA4 Y2.out.blk 4).trans rfl, xAb hb h0, xAb hb h1, xAb hb h2, xAb hb h3, xAb hb h4, xAb hb k0, xAb hb k1, xAb hb k2, xAb hb k3, xAb hb k4⟩ (fun hHeld => ?_)
  clear hK K
  refine xCp (a' := ?_) ?_ ?_
  rotate_left
  ·show Act.put _ (some 65) _ = _
   simp only [Act.put, List.setIfInBounds_toArray, List.set_cons_zero, List.set_cons_succ, xB1, xB2]
   rfl
  refine xC1 (i := 12) (N := some 8) (v := ?_) (a' := ?_) #[true, true, true, true, true, true, true, true, true, true, true, true, true] rfl rfl (by kernel_rfl) (fun _ _ _ h => h) (Or.inl ⟨by rfl, ?_⟩) ?_ ?_
  rotate_left
  ·intro w'
   go_simp
   with_reducible rfl
  rotate_left
  ·simp only [Act.put, List.setIfInBounds_toArray, List.set_cons_zero, List.set_cons_succ, xB1, xB2]
   rfl
  refine xFe (by kernel_rfl) ?_
  clear hHeld h0 h1 h2 h3 h4 k0 k1 k2 k3 k4 hb
  have hw : wrap64 (ji + 1) = ji + 1 := by have := HL.out; unfold wrap64; omega
  have x4 := (xA4 X2.out.blk 4).trans rfl
  have y4 := (xA4 Y2.out.blk 4).trans rfl
  go_wp2
  go_roundg (n.f4.length - (ji + 1).toNat)
  case rel => exact ⟨_, rfl, ⟨by have := HJ.out; have hw := HL.out; unfold wrap64; omega⟩, X2, Y2, HB2⟩
  case measure => have := HJ.out; omega
theorem xHm : ∀ (s : Nat) (n : S25), SizeOf.sizeOf n ≤ s → Bn n → xMv n
 | 0, n, hs, _ => by cases n; simp at hs
 | s + 1, n, hs, hb => xJe n hb.get.1 (fun x hx => xHm s x (by have := xKn hx; omega) (hb.get.2 x hx))
end Go.Proofs.YtknbfhhmjbnemaaDoor.P
end
section
namespace Go.Proofs.YtknbfhhmjbnemaaDoor.P
open Go.RowKit Go.Proofs.YtknbfhhmjbnemaaDoorW.PrintWords Go.Proofs.YtknbfhhmjbnemaaDoorW.PrintLast Go.Proofs.YtknbfhhmjbnemaaDoorW.PrintMore Go.Proofs.YtknbfhhmjbnemaaDoor.Pure

/-! the law ParseReads walked -/
theorem xLb {m : Int} {w W : World} (h : LawW m w W) (s : ByteArray) (hs : s.size ≤ 140737488351232) {n : S25} {er at_ : Int} (hx : ParX s (n, er, at_)) :
  Calls Tryd.prog 11 #[.string s] W fun e w' => ∃ A c, e = .returned (.tuple #[.agg #[.string n.f0, .string n.f1, .int .i64 n.f2, .int .i64 n.f3, .slice A n.f4.length c], .int .i64 er, .int .i64 at_]) ∧ NodeF w' (fun k => W.heap.size ≤ k ∧ k < w'.heap.size) n A c ∧ LawW m w w' ∧ Below W.heap.size W w' := by
 have h1 := xKp s 20000 (Nat.le_refl _)
 rw [show xDq s = _ from hx] at h1
 refine (xIq 20000 s n er at_ W hs h1).mono ?_
 rintro e w' ⟨v, he, hN, hb⟩
 obtain ⟨A, c, rfl⟩ := Kd.N_slice hN
 exact ⟨A, c, he, ⟨(Kd.N_reads' hN).2.1, Kd.F_bound (Kd.N_F hN)⟩, h.below hb, hb⟩
theorem xM7 (s : ByteArray) : Bn (xDq s).1 := by
 by_cases h : (xDq s).2.1 = 0
 ·obtain ⟨T, L, _, g1, g2⟩ := xJp h
  rw [g2]
  exact Bn.mk (Post.stmts _ _ Bl.nil _ _ _ _ (g1 600 (Nat.le_refl _)))
 ·rw [xJo h]
  exact Bn.mk Bl.nil

set_option maxHeartbeats 8000000 in
set_option maxRecDepth 100000 in
theorem reads_calls (a : ByteArray) (m : Int) (w : World) (hm : w.cell? ⟨0, 0, none⟩ = some (.int .i64 m)) (ht : TabW w) (ha : a.size ≤ 140737488351232) :
  Calls Tryd.prog 4 #[.string a] w (LawEnd w) := by
 have hu25 := Tryd.underlying25
 have LW0 := Aside0.mk (show LawW m w w from ⟨hm, ht, Below.refl _ _⟩)
 have HTW := Aside0.mk (And.intro ht hm)
 clear hm ht
 go_enter Tryd.func4, Tryd.ntmps4
 obtain ⟨⟨na, ea, ta⟩, hxa⟩ : ∃ x, ParX a x := ⟨_, rfl⟩
 have HXa := Aside0.mk hxa
 clear hxa
 have HA := Aside0.mk ha
 clear ha
 go_upto_region 2 with (go_at_call 9; (with_reducible refine (xMd LW0.out _ HXa.out).mono ?_); rintro e wa ⟨Aa, ca, rfl, h1, h2, h3⟩; have NFa := Aside0.mk h1; have LWa0 := Aside0.mk h2; have BBa := Aside0.mk h3; clear h1 h2 h3)
 generalize hW : World.alloc wa _ = Wa
 have Xa := Aside0.mk (show NodeX Wa wa.heap.size (fun k => w.heap.size ≤ k ∧ k < wa.heap.size) na Aa ca from by rw [← hW]; exact NodeX.new NFa.out)
 have LWa := Aside0.mk (show LawW m w Wa from by rw [← hW]; exact LWa0.out.alloc _)
 have BXa := Aside0.mk (show Below w.heap.size w Wa from by rw [← hW]; exact xA2 BBa.out _)
 clear hW LWa0 BBa
 go_upto_region 3 with (go_at_call 11; (with_reducible refine (xLb LWa.out _ HA.out HXa.out).mono ?_); rintro e wb ⟨Ab, cb, rfl, h1, h2, h3⟩; have NFb := Aside0.mk h1; have LWb0 := Aside0.mk h2; have BBb := Aside0.mk h3; clear h1 h2 h3)
 generalize hW : World.alloc wb _ = Wb
 have Xb := Aside0.mk (show NodeX Wb wb.heap.size (fun k => Wa.heap.size ≤ k ∧ k < wb.heap.size) na Ab cb from by rw [← hW]; exact NodeX.new NFb.out)
 have LWb := Aside0.mk (show LawW m w Wb from by rw [← hW]; exact LWb0.out.alloc _)
 have BXb := Aside0.mk (show Below Wa.heap.size Wa Wb from by rw [← hW]; exact xA2 BBb.out _)
 clear hW LWb0 BBb
 have Xc := Aside0.mk (Xa.out.below BXb.out)
 have HS := Aside0.mk (xHm _ na (Nat.le_refl _) (by have := xM7 a; rw [show xDq a = _ from HXa.out] at this; exact this))
 clear HXa
 obtain ⟨ya0, ya1, ya2, ya3, ya4⟩ := ey5 Xc.out.blk
 obtain ⟨yb0, yb1, yb2, yb3, yb4⟩ := ey5 Xb.out.blk
 have HSC := Aside0.mk (HS.out Aa ca Ab cb Wb Xc.out.nd.C Xc.out.nd.hc Xb.out.nd.C Xb.out.nd.hc)
 clear HS
 go_upto_region 4 with (go_at_call 10; (with_reducible refine (HSC.out).mono ?_); rintro e w3 ⟨rfl, h1⟩; have LW3 := Aside0.mk (LWb.out.below h1); clear h1)
 clear ya0 ya1 ya2 ya3 ya4 yb0 yb1 yb2 yb3 yb4
 have q1 : (ea == ea) = true := beq_self_eq_true ea
 have q2 : (ta == ta) = true := beq_self_eq_true ta
 go_wp2_with (go_at_call 8; (with_reducible refine (xMe LW3.out).mono ?_); rintro e w9 ⟨rfl, h1, h2⟩; have LW9 := Aside0.mk h1; clear h1 h2)
 go_ret
 refine ⟨?_, LW9.out.bel⟩
 simp
end Go.Proofs.YtknbfhhmjbnemaaDoor.P
end
section
namespace Go.Proofs.YtknbfhhmjbnemaaDoor.parseReads
open Go.ChangeShapes Go.WideShapes Go.ChangeAt Go.RowKit
open Go.ChangeMaps (open_string shut_string)
set_option maxRecDepth 100000 in
theorem lifted (os : Os) (started : os.Started) (H : Type) (enc : TypeId × Value → H) :
  ReturnsInHanded {} Tryd.checked os 4 .any (fun w args => (Rows.parseReadsSpec.pre enc Tryd.prog Tryd.f4 Rows.parseReadsRow.domain false w args ∧ laidMetH Tryd.prog laid3 w) ∧ sizedMet enc Tryd.prog Tryd.f4 (OpenSpec.ofChange Rows.parseReadsSpec) false w args)
   (Rows.parseReadsSpec.post enc Tryd.prog Tryd.f4 false true false false) := by
 refine xGd (C := Tryd.checked) (X := fun w _ => laidMetH Tryd.prog laid3 w) (fun _ _ _ hh h => h.of_heap hh) own started (by kernel_rfl) Tryd.func4
  (ChangeSpec.witness_shaped (enc := enc) (C := Tryd.checked) (os := os) (X := fun w _ => laidMetH Tryd.prog laid3 w) false (World.doorLaid Tryd.prog 400 os) #[.string ByteArray.empty] 8 rfl (World.shaped_of_RefB (by kernel_rfl) (by kernel_rfl)) (by kernel_rfl) (by kernel_rfl) (by kernel_rfl) (door_met os _)) ?_
 intro W base args ds gs before hval0 hW hcnd hsz0 hL hsh _
 obtain ⟨m_, hm_⟩ := Tryd.laysM144.s1_3 W hsh
 have hsz : (DataW.weightsEach Tryd.prog (Tryd.f4.params.toList ++ Rows.parseReadsSpec.plain.varTypes Tryd.prog) (ds ++ gs)).all (· ≤ reachBytes) = true := hsz0
 have hval : ∀ (j : Nat) t v, Tryd.f4.params[j]? = some t → args[j]? = some v → Value.okWide Tryd.prog W .any base t v := hval0
 have hW' := hW
 obtain ⟨p, q, hA0, hV, rfl, hfz, hnd⟩ := hW
 have hA : DataW.TrodAll enc Tryd.prog W 0 (fun _ => true) true Tryd.f4.params.toList args.toList ds p := hA0
 rw [Tryd.params4] at hA hval hsz
 obtain ⟨v0, vs0, d0, ds0, p0, q0, hargs, rfl, rfl, h0, r0⟩ := trodAll_cons hA
 obtain ⟨rfl, rfl, rfl⟩ := trodAll_nil r0
 obtain rfl : args = #[v0] := by cases args; simp_all
 obtain ⟨rfl, rfl⟩ := trodVars_none hV
 obtain ⟨a0, rfl, rfl, rfl, y0⟩ := open_string Tryd.underlying9 (hval 0 9 v0 rfl rfl) h0
 have w0 : a0.size ≤ 140737488351232 := by
  have z := sized_string hsz (j := 0) (t := 9) rfl rfl
  rw [Array.length_toList] at z
  exact z
 clear hA0 hval0 hsz0 hsz
 refine (P.reads_calls a0 m_ W hm_ (xJd hL) w0).mono fun e W' ⟨he, bel⟩ => ?_
 subst he
 exact ⟨_, rfl, _, _, _, [], _, [], hW', trodAll_mk1 (shut_bool Tryd.underlying4 _), (trodAll_cons_mk (shut_string Tryd.underlying9 y0) trodAll_mk0), rfl, bel.frame _, fun h => by cases h⟩
theorem over : Rows.ParseReadsSaid :=
 OpenClaim.holds_of_wide 4 Tryd.f4 rfl rfl rfl rfl rfl rfl rfl ⟨rfl, rfl, rfl, rfl, rfl⟩ rfl rfl rfl rfl rfl (by kernel_rfl) Tryd.func4 (by kernel_rfl)
  (of_decide_eq_true (by kernel_rfl)) (by unfold Func.isWrapper; first | (rw [if_pos (by decide +kernel)]; kernel_rfl) | (rw [if_neg (by decide +kernel)]; exact ⟨rfl, rfl⟩))
  (fun os started H enc _ => lifted os started H enc)
end Go.Proofs.YtknbfhhmjbnemaaDoor.parseReads
namespace Go.Proofs.YtknbfhhmjbnemaaDoor
/-- THE TIED CARD. -/
theorem parseReads_holds : Rows.ParseReadsCardSaid :=
 Claim7.holds_tied_plain_at .later [] [.data, .data, .data] true (true, "8cdf8f3caba360dc7b05f8e528f7f118d71880da62c48cb09c7ea98c408e307c") true
  parseReads.over (fun _ h => by cases h) (by kernel_rfl) (fun _ h => by cases h) parseReads_row_tie rfl ⟨rfl, rfl⟩ (by kernel_rfl) rfl
  (fun f fn hf hfn => by
   obtain rfl : f = 4 := Option.some.inj ((show Tryd.prog.funcNamed "cofferdam/cofferdamlaw11.ParseReads" = some 4 by kernel_rfl).symm.trans hf) |>.symm
   obtain rfl : fn = Tryd.f4 := (Option.some.inj (Tryd.func4.symm.trans hfn)).symm
   exact ⟨by kernel_rfl, fun j t ht => by
    rw [Tryd.params4] at ht
    have hm : t ∈ [9] := by simpa using Array.mem_of_getElem? ht
    have hall : ([9].all fun u => !Tryd.prog.wantsStandIn u) = true := by kernel_rfl
    exact (show Tryd.prog.wantsStandIn t = false by simpa using List.all_eq_true.1 hall t hm)⟩)
  (by kernel_rfl)
end Go.Proofs.YtknbfhhmjbnemaaDoor
end
#print axioms Go.Proofs.YtknbfhhmjbnemaaDoor.parseReads_holds
