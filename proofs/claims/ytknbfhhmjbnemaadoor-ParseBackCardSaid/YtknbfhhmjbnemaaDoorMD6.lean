/- Proved here, for this seat's claims: what the functions that the laws reach compute: the texts of this work, one behind the other, laid by a program of this session. Conditions: none beside the statement's own. -/
import Derived.Test.YtknbfhhmjbnemaaDoorMD5
import Derived.Test.YtknbfhhmjbnemaaDoorRows
import Derived.WalkKit
import Derived.ProofKit
import Derived.OpenShut
import Derived.ShutString
import Derived.ChangeOld
import Derived.Below
import Derived.SizedLaws
import Derived.HandedShaped
import Derived.LaidMore
import Derived.Lib.LaidTab
import Derived.Stop.Joined
section
namespace Go.Proofs.YtknbfhhmjbnemaaDoor.P
open Go.RowKit Go.Proofs.YtknbfhhmjbnemaaDoorW.PrintWords Go.Proofs.YtknbfhhmjbnemaaDoorW.PrintLast Go.Proofs.YtknbfhhmjbnemaaDoorW.PrintMore Go.Proofs.YtknbfhhmjbnemaaDoor.Pure
set_option linter.unusedVariables false
set_option linter.unusedSimpArgs false

/-! trees that the parser makes are of a modest width; alike trees are the same -/
def bnd : Nat → S25 → Prop
  | 0, _ => True
  | k + 1, n => n.f4.length ≤ 1000002 ∧ ∀ x ∈ n.f4, bnd k x
def Bn (n : S25) : Prop := ∀ k, bnd k n
def Bl (l : List S25) : Prop := l.length ≤ 1000002 ∧ ∀ x ∈ l, Bn x
theorem Bn.mk {a b : ByteArray} {c d : Int} {l : List S25} (h : Bl l) : Bn ⟨a, b, c, d, l⟩ := fun k => by
  cases k with
  | zero => trivial
  | succ k => exact ⟨h.1, fun x hx => h.2 x hx k⟩
theorem Bn.get {n : S25} (h : Bn n) : Bl n.f4 := ⟨(h 1).1, fun x hx k => (h (k + 1)).2 x hx⟩
theorem Bl.nil : Bl [] := ⟨by simp, fun x hx => by cases hx⟩
theorem Bl.snoc {l : List S25} {a : S25} (h : Bl l) (ha : Bn a) (hl : l.length ≤ 1000001) : Bl (l ++ [a]) := ⟨by simp; omega, fun x hx => by
  rcases List.mem_append.1 hx with hx | hx
  · exact h.2 x hx
  · obtain rfl : x = a := by simpa using hx
    exact ha⟩
theorem Bl.one {a : S25} (ha : Bn a) : Bl [a] := ⟨by simp, fun x hx => by
  obtain rfl : x = a := by simpa using hx
  exact ha⟩
/-- What a result is like. -/
def Post {α : Type} (g : G α) (Q : α → Prop) : Prop := ∀ T en a T', g T en = some (.ok (a, T')) → Q a
section
variable {α β : Type} {g : G α} {h : α → G β} {Q : α → Prop} {R : β → Prop}
theorem Post.bd (hg : Post g Q) (hh : ∀ a, Q a → Post (h a) R) : Post (P.bd g h) R := by
  intro T en b T' hb
  rcases pbd_inv hb with ⟨e, _, he⟩ | ⟨a, T1, h1, h2⟩
  · cases he
  · exact hh a (hg T en a T1 h1) T1 en b T' h2
theorem Post.ret {a : α} (h : Q a) : Post (gret a) Q := fun T en b T' hb => by cases hb; exact h
theorem Post.any : Post g (fun _ => True) := fun _ _ _ _ _ => trivial
theorem Post.gite {c : Prop} [Decidable c] {f g : G α} (hf : Post f Q) (hg : Post g Q) : Post (P.gite c f g) Q := by by_cases h : c; rw [gite_pos h]; exact hf; rw [gite_neg h]; exact hg
end
theorem Bn.num (t : S60) : Bn (pnumN t) := Bn.mk Bl.nil
theorem Bn.name (t : S60) : Bn (pnameN t) := Bn.mk Bl.nil
theorem Post.use : Post guse Bn := Post.bd Post.any fun _ _ => Post.ret (Bn.mk Bl.nil)
theorem post_all : ∀ k, (∀ nest, Post (gexpr k nest) Bn) ∧ (∀ nest acc, Bl acc → Post (gexprs k nest acc) Bl)
  | 0 => ⟨(fun nest T en a T' h => by rw [gexpr_zero] at h; cases h), (fun nest acc _ T en a T' h => by rw [gexprs_zero] at h; cases h)⟩
  | k + 1 => by
    obtain ⟨ih, ihs⟩ := post_all k
    refine ⟨fun nest => ?_, fun nest acc hacc => ?_⟩
    · intro T en a T' h
      by_cases hn0 : nest < 0 ∨ nest > 100
      · unfold gexpr at h; rw [pexpr, if_pos hn0] at h; cases h
      by_cases hn : nest > 12
      · unfold gexpr at h; rw [pexpr, if_neg hn0, if_pos hn] at h; cases h
      cases T with
      | nil => rw [gexpr_nil k nest hn0 hn] at h; exact Post.use _ _ _ _ h
      | cons t T =>
        rw [gexpr_cons k nest hn0 hn] at h
        split at h
        · have hbr : ∀ first, Bn first → Post (gbr k t.f1 nest first) Bl := fun first hf =>
            Post.gite (Post.bd Post.any fun _ _ => Post.bd Post.any fun a _ => Post.bd Post.any fun _ _ => Post.bd Post.any fun b _ => Post.ret (((Bl.one hf).snoc (Bn.num a) (by simp)).snoc (Bn.num b) (by simp))) (Post.gite (Post.bd Post.any fun _ _ => Post.bd (ih _) fun a ha => Post.bd Post.any fun _ _ => Post.bd Post.any fun b _ => Post.ret (((Bl.one hf).snoc ha (by simp)).snoc (Bn.num b) (by simp))) (Post.gite (Post.bd Post.any fun _ _ => Post.bd Post.any fun a _ => Post.ret ((Bl.one hf).snoc (Bn.name a) (by simp))) (ihs _ _ (Bl.one hf))))
          exact (Post.bd Post.any fun _ _ => Post.bd (ih _) fun first hf => Post.bd (hbr first hf) fun L hL => Post.bd (R := Bn) Post.any fun _ _ => Post.ret (Bn.mk hL)) T en a T' h
        · exact Post.use _ _ _ _ h
    · intro T en a T' h
      rw [gexprs_eq] at h
      split at h
      case isFalse => cases h
      rename_i hb
      split at h
      · exact (Post.bd (ih (nest + 1)) fun a ha => ihs nest (acc ++ [a]) (hacc.snoc ha (by omega))) T.tail en a T' h
      · cases h
        exact hacc
theorem Post.stmt (k : Nat) : Post (gstmt k) Bn := by
  obtain ⟨ih, ihs⟩ := post_all k
  refine Post.bd Post.any fun t _ => Post.bd Post.any fun nm _ => Post.bd (Q := fun nl : Int × List S25 => Bl nl.2) ?_ fun nl hnl => Post.bd (R := Bn) Post.any fun _ _ => Post.ret (Bn.mk hnl)
  refine Post.gite (Post.bd Post.any fun _ _ => Post.ret Bl.nil) (Post.gite (Post.bd Post.any fun a _ => Post.ret (Bl.one (Bn.mk Bl.nil))) (Post.gite (Post.bd Post.any fun _ _ => Post.bd (ih 1) fun a ha => Post.ret (Bl.one ha)) (Post.gite ?_ (Post.ret Bl.nil))))
  intro T en a T' h
  unfold gro at h
  split at h <;> (cases h; exact Bl.nil)
theorem Post.stmts : ∀ k acc, Bl acc → Post (gstmts k acc) Bl
  | 0, acc, _ => fun T en a T' h => by rw [gstmts_zero] at h; cases h
  | k + 1, acc, hacc => by
    intro T en a T' h
    rw [gstmts_eq] at h
    split at h
    case isFalse => cases h
    rename_i hb
    split at h
    · cases h; exact hacc
    · exact (Post.bd (Post.stmt k) fun x hx => Post.stmts k (acc ++ [x]) (hacc.snoc hx (by omega))) T en a T' h
/-! Same -/
def sameF (k : Nat) (n m : S25) (b : Bool) : Option Bool := cofferdamref11_Same.f k n.f0 n.f1 n.f2 n.f3 n.f4 m.f0 m.f1 m.f2 m.f3 m.f4 b
theorem En.parts {n m : S25} (h : En n m) : n.f0 = m.f0 ∧ n.f1 = m.f1 ∧ n.f2 = m.f2 ∧ El n.f4 m.f4 := by
  have h1 := h 1
  simp only [ern, S25.mk.injEq] at h1
  refine ⟨h1.1, h1.2.1, h1.2.2.1, fun k => ?_⟩
  have h2 := h (k + 1)
  simp only [ern, S25.mk.injEq] at h2
  exact h2.2.2.2.2
theorem El.at {l m : List S25} (h : El l m) (i : Nat) (hi : i < l.length) : En (rd_T25 l (i : Int)) (rd_T25 m (i : Int)) := by
  intro k
  have h1 := congrArg (fun x : List S25 => x[i]?) (h k)
  have hi' : i < m.length := h.len ▸ hi
  simp only [List.getElem?_map, List.getElem?_eq_getElem hi, List.getElem?_eq_getElem hi', Option.map_some, Option.some.injEq] at h1
  unfold rd_T25
  simp only [Int.toNat_natCast, List.getD_eq_getElem?_getD, List.getElem?_eq_getElem hi, List.getElem?_eq_getElem hi', Option.getD_some]
  exact h1
theorem rd_mem {l : List S25} {i : Nat} (hi : i < l.length) : rd_T25 l (i : Int) ∈ l := by
  unfold rd_T25
  simp only [Int.toNat_natCast, List.getD_eq_getElem?_getD, List.getElem?_eq_getElem hi, Option.getD_some]
  exact List.getElem_mem hi
theorem sizeOf_mem {n x : S25} (h : x ∈ n.f4) : SizeOf.sizeOf x < SizeOf.sizeOf n := by
  have h1 := List.sizeOf_lt_of_mem h
  cases n
  simp only [S25.mk.sizeOf_spec]
  simp only at h1
  omega
theorem same_run : ∀ (s : Nat) (n m : S25) (b : Bool), SizeOf.sizeOf n ≤ s → En n m → (b = true → n = m) → Bn n → ∃ k0, ∀ k, k0 ≤ k → sameF k n m b = some true
  | 0, n, m, b, hs, _, _, _ => by cases n; simp only [S25.mk.sizeOf_spec] at hs; omega
  | s + 1, n, m, b, hs, h, hb, hbn => by
    obtain ⟨h0, h1, h2, h4⟩ := h.parts
    have hbl := hbn.get
    -- the loop
    have loop : ∀ d i : Nat, n.f4.length - i = d → i ≤ n.f4.length → ∃ k0, ∀ k, k0 ≤ k → cofferdamref11_Same.l0 k b (i : Int) n.f0 n.f1 n.f2 n.f3 n.f4 m.f0 m.f1 m.f2 m.f3 m.f4 = some true := by
      intro d
      induction d with
      | zero =>
        intro i hd hi
        refine ⟨1, fun k hk => ?_⟩
        obtain ⟨k, rfl⟩ : ∃ j, k = j + 1 := ⟨k - 1, by omega⟩
        rw [cofferdamref11_Same.l0, if_neg (by omega)]
      | succ d ih =>
        intro i hd hi
        have hlt : i < n.f4.length := by omega
        obtain ⟨k1, hk1⟩ := ih (i + 1) (by omega) (by omega)
        have hmem := rd_mem hlt
        obtain ⟨k2, hk2⟩ := same_run s (rd_T25 n.f4 (i : Int)) (rd_T25 m.f4 (i : Int)) b (by have := sizeOf_mem hmem; omega) (h4.at i hlt) (fun e => by rw [hb e]) (hbl.2 _ hmem)
        refine ⟨k1 + k2 + 1, fun k hk => ?_⟩
        obtain ⟨k, rfl⟩ : ∃ j, k = j + 1 := ⟨k - 1, by omega⟩
        have hlm := h4.len
        have e1 := hk2 k (by omega)
        unfold sameF at e1
        rw [cofferdamref11_Same.l0, if_pos (by omega), if_pos (by omega), if_pos (by omega), e1]
        rw [Option.bind_some, if_pos rfl]
        have hw : wrap64 ((i : Int) + 1) = ((i + 1 : Nat) : Int) := by have := hbl.1; unfold wrap64; omega
        rw [hw]
        exact hk1 k (by omega)
    obtain ⟨k0, hk0⟩ := loop _ 0 rfl (Nat.zero_le _)
    refine ⟨k0 + 2, fun k hk => ?_⟩
    obtain ⟨k, rfl⟩ : ∃ j, k = j + 2 := ⟨k - 2, by omega⟩
    unfold sameF
    have hj : cofferdamref11_Same.j0 (k + 1) b ((n.f4.length : Int) != (m.f4.length : Int)) n.f0 n.f1 n.f2 n.f3 n.f4 m.f0 m.f1 m.f2 m.f3 m.f4 = some true := by
      have e : ((n.f4.length : Int) != (m.f4.length : Int)) = false := by rw [h4.len]; simp
      rw [e, cofferdamref11_Same.j0, if_neg (by decide)]
      exact hk0 k (by omega)
    rw [cofferdamref11_Same.f, if_pos (by rw [h0]), if_pos (by rw [h1]), if_pos h2]
    by_cases hbt : b = true
    · rw [if_pos hbt, if_pos (by rw [hb hbt])]
      exact hj
    · rw [if_neg hbt]
      exact hj
theorem same_of (n m : S25) (b : Bool) (h : En n m) (hb : b = true → n = m) (hbn : Bn n) : ∃ k0, ∀ k, k0 ≤ k → sameF k n m b = some true := same_run _ n m b (Nat.le_refl _) h hb hbn
theorem gstmts_more {k : Nat} {T : List S60} {en : Int} {acc : List S25} {r : Except PErr (List S25 × List S60)} (h : gstmts k acc T en = some r) (j : Nat) (hj : k ≤ j) : gstmts j acc T en = some r := by
  have := LeO.rounds (f := fun j => gstmts j acc T en) (fun j => pstmts_mono j T en acc) k (j - k) r h
  rwa [show k + (j - k) = j by omega] at this
/-- What Parse makes, by its ways. -/
theorem parseX_err {s : ByteArray} {e : Int × Int} (h : scan (bytesOf s) = .error e) : parseX s = (z25, e.1, e.2) := by unfold parseX; rw [h]
theorem parseX_ok {s : ByteArray} {T : List S60} {r : Except PErr (List S25 × List S60)} {k : Nat} (h : scan (bytesOf s) = .ok T) (hr : gstmts k [] T s.size = some r) : parseX s = parseOf r := by
  unfold parseX
  rw [h]
  obtain ⟨r', hr'⟩ := stmts_some h 600 (Nat.le_refl _)
  have h1 := hr' (1000 + k) (by omega)
  have h2 := gstmts_more hr (1000 + k) (by omega)
  rw [h1] at h2
  cases h2
  simp only
  rw [hr' 1000 (by omega)]
def Ec {α : Type} (g : G α) : Prop := ∀ T en x, g T en = some (.error x) → x.1 = 111 ∨ x.1 = 112
theorem Ec.bd {α β : Type} {g : G α} {h : α → G β} (hg : Ec g) (hh : ∀ a, Ec (h a)) : Ec (P.bd g h) := by
  intro T en x hx
  rcases pbd_inv hx with ⟨e, h1, he⟩ | ⟨a, T1, h1, h2⟩
  · cases he; exact hg T en x h1
  · exact hh a T1 en x h2
theorem Ec.ret {α : Type} {a : α} : Ec (gret a) := fun T en x h => by cases h
theorem Ec.gite {α : Type} {c : Prop} [Decidable c] {f g : G α} (hf : Ec f) (hg : Ec g) : Ec (P.gite c f g) := by by_cases h : c; rw [gite_pos h]; exact hf; rw [gite_neg h]; exact hg
theorem Ec.must (s : ByteArray) : Ec (gmust s) := fun T en x h => by
  unfold gmust pmust at h
  split at h <;> cases h
  exact .inl rfl
theorem Ec.take (may : S60 → Option Bool) : Ec (gtake may) := fun T en x h => by
  unfold gtake at h
  cases T with
  | nil => cases h; exact .inl rfl
  | cons t T =>
    simp only [ptake] at h
    obtain ⟨b, hb, h⟩ := Option.map_eq_some_iff.1 h
    split at h <;> cases h
    exact .inl rfl
theorem Ec.of (k : Int) : Ec (gof k) := Ec.take _
theorem ec_all : ∀ k, (∀ nest, Ec (gexpr k nest)) ∧ (∀ nest acc, Ec (gexprs k nest acc))
  | 0 => ⟨(fun nest T en x h => by rw [gexpr_zero] at h; cases h), (fun nest acc T en x h => by rw [gexprs_zero] at h; cases h)⟩
  | k + 1 => by
    obtain ⟨ih, ihs⟩ := ec_all k
    have hu : Ec guse := Ec.bd (Ec.of 0) fun _ => Ec.ret
    refine ⟨fun nest => ?_, fun nest acc => ?_⟩
    · intro T en x h
      by_cases hn0 : nest < 0 ∨ nest > 100
      · unfold gexpr at h; rw [pexpr, if_pos hn0] at h; cases h
      by_cases hn : nest > 12
      · unfold gexpr at h; rw [pexpr, if_neg hn0, if_pos hn] at h; cases h; exact .inr rfl
      cases T with
      | nil => rw [gexpr_nil k nest hn0 hn] at h; exact hu _ _ _ h
      | cons t T =>
        rw [gexpr_cons k nest hn0 hn] at h
        split at h
        · have hbr : ∀ first, Ec (gbr k t.f1 nest first) := fun first =>
            Ec.gite (Ec.bd (Ec.must _) fun _ => Ec.bd (Ec.of _) fun _ => Ec.bd (Ec.must _) fun _ => Ec.bd (Ec.of _) fun _ => Ec.ret) (Ec.gite (Ec.bd (Ec.must _) fun _ => Ec.bd (ih _) fun _ => Ec.bd (Ec.must _) fun _ => Ec.bd (Ec.of _) fun _ => Ec.ret) (Ec.gite (Ec.bd (Ec.must _) fun _ => Ec.bd (Ec.of _) fun _ => Ec.ret) (ihs _ _)))
          exact (Ec.bd (Ec.must _) fun _ => Ec.bd (ih _) fun first => Ec.bd (hbr first) fun _ => Ec.bd (Ec.must _) fun _ => Ec.ret) T en x h
        · exact hu _ _ _ h
    · intro T en x h
      rw [gexprs_eq] at h
      split at h
      case isFalse => cases h
      split at h
      · exact (Ec.bd (ih (nest + 1)) fun a => ihs nest (acc ++ [a])) T.tail en x h
      · cases h
theorem Ec.stmt (k : Nat) : Ec (gstmt k) := by
  obtain ⟨ih, ihs⟩ := ec_all k
  refine Ec.bd (Ec.take _) fun t => Ec.bd (Ec.of _) fun nm => Ec.bd (Ec.gite (Ec.bd (Ec.of _) fun _ => Ec.ret) (Ec.gite (Ec.bd (Ec.of _) fun _ => Ec.ret) (Ec.gite (Ec.bd (Ec.must _) fun _ => Ec.bd (ih 1) fun _ => Ec.ret) (Ec.gite ?_ Ec.ret)))) fun _ => Ec.bd (Ec.must _) fun _ => Ec.ret
  intro T en x h
  unfold gro at h
  split at h <;> cases h
theorem Ec.stmts : ∀ k acc, Ec (gstmts k acc)
  | 0, acc => fun T en x h => by rw [gstmts_zero] at h; cases h
  | k + 1, acc => by
    intro T en x h
    rw [gstmts_eq] at h
    split at h
    case isFalse => cases h
    split at h
    · cases h
    · exact (Ec.bd (Ec.stmt k) fun a => Ec.stmts k (acc ++ [a])) T en x h
theorem parse_zero {k : Nat} {acc : List S25} {T : List S60} {en : Int} {x : PErr} (h : gstmts k acc T en = some (.error x)) : x.1 = 111 ∨ x.1 = 112 := Ec.stmts k acc T en x h
/-- A text that is a file. -/
theorem parseX_file {s : ByteArray} (h : (parseX s).2.1 = 0) : ∃ T L, scan (bytesOf s) = .ok T ∧ (∀ k, 600 ≤ k → gstmts k [] T s.size = some (.ok (L, []))) ∧ parseX s = (⟨FILE, ⟨#[]⟩, 0, 0, L⟩, 0, -1) := by
  cases hs : scan (bytesOf s) with
  | error e =>
    rw [parseX_err hs] at h
    exact absurd h (scan_err0 hs)
  | ok T =>
    obtain ⟨r, hr⟩ := stmts_some hs 600 (Nat.le_refl _)
    have h1 := parseX_ok hs (hr 600 (Nat.le_refl _))
    rcases r with x | ⟨L, T'⟩
    · rw [h1] at h
      have := parse_zero (hr 600 (Nat.le_refl _))
      simp only [parseOf] at h
      omega
    · have h2 := (stmts_join 600 T s.size [] L T' (hr 600 (Nat.le_refl _))).1
      subst h2
      exact ⟨T, L, rfl, hr, h1⟩
end Go.Proofs.YtknbfhhmjbnemaaDoor.P
end
section
namespace Go.Proofs.YtknbfhhmjbnemaaDoor.P
open Go.RowKit Go.Proofs.YtknbfhhmjbnemaaDoorW.PrintWords Go.Proofs.YtknbfhhmjbnemaaDoorW.PrintLast Go.Proofs.YtknbfhhmjbnemaaDoorW.PrintMore Go.Proofs.YtknbfhhmjbnemaaDoor.Pure
set_option linter.unusedVariables false
set_option linter.unusedSimpArgs false

/-! words of the laws' walks -/
/-- A node that is read: what it leads to lies in ok. -/
structure NodeF (W : World) (ok : Nat → Prop) (n : S25) (A : Option Addr) (c : Nat) : Prop where
  hc : n.f4.length ≤ c
  hF : Kd.F k25 W ok A n.f4.length n.f4
theorem NodeF.C {W : World} {ok : Nat → Prop} {n : S25} {A : Option Addr} {c : Nat} (h : NodeF W ok n A c) : Kd.C k25 W A n.f4.length n.f4 := Kd.F_now h.hF
theorem NodeF.below {W W1 : World} {ok : Nat → Prop} {n : S25} {A : Option Addr} {c : Nat} (h : NodeF W ok n A c) (hb : Below W.heap.size W W1) : NodeF W1 ok n A c := ⟨h.hc, Kd.F_below h.hF hb⟩
theorem NodeF.far {W : World} {ok : Nat → Prop} {n : S25} {A : Option Addr} {c : Nat} (h : NodeF W ok n A c) {p : Addr} (hp : ∀ k, ok k → k ≠ p.block) (u : Value) : NodeF (W.setCell p u) ok n A c := ⟨h.hc, Kd.F_far h.hF hp u⟩
/-- .. in a box. -/
structure NodeX (W : World) (b : Nat) (ok : Nat → Prop) (n : S25) (A : Option Addr) (c : Nat) : Prop where
  blk : W.heap[b]? = some (.cells #[.string n.f0, .string n.f1, .int .i64 n.f2, .int .i64 n.f3, .slice A n.f4.length c] 25 (0, 0))
  nd : NodeF W ok n A c
theorem NodeX.below {W W1 : World} {b : Nat} {ok : Nat → Prop} {n : S25} {A : Option Addr} {c : Nat} (h : NodeX W b ok n A c) (hb : Below W.heap.size W W1) : NodeX W1 b ok n A c := ⟨blk_below h.blk hb, h.nd.below hb⟩
theorem NodeX.new {W : World} {ok : Nat → Prop} {n : S25} {A : Option Addr} {c : Nat} (h : NodeF W ok n A c) : NodeX (W.alloc (.cells #[.string n.f0, .string n.f1, .int .i64 n.f2, .int .i64 n.f3, .slice A n.f4.length c] 25 (0, 0))) W.heap.size ok n A c :=
  ⟨blk_new _ _, h.below (below_alloc (Below.refl _ _) _)⟩
theorem NodeX.far {W : World} {b : Nat} {ok : Nat → Prop} {n : S25} {A : Option Addr} {c : Nat} (h : NodeX W b ok n A c) {p : Addr} (hb : b ≠ p.block) (hp : ∀ k, ok k → k ≠ p.block) (u : Value) : NodeX (W.setCell p u) b ok n A c := ⟨blk_far h.blk hb u, h.nd.far hp u⟩
/-- What a law's walk carries: memory as it was, the library's variables. -/
structure LawW (m : Int) (w W : World) : Prop where
  hm : W.cell? ⟨0, 0, none⟩ = some (.int .i64 m)
  ht : TabW W
  bel : Below w.heap.size w W
theorem LawW.below {m : Int} {w W W1 : World} (h : LawW m w W) (hb : Below W.heap.size W W1) : LawW m w W1 := ⟨pw_cell_below hb h.hm, h.ht.below hb, below_then h.bel h.bel.size hb⟩
theorem LawW.alloc {m : Int} {w W : World} (h : LawW m w W) (o : Obj) : LawW m w (W.alloc o) := h.below (below_alloc (Below.refl _ _) _)
theorem LawW.set_ {m : Int} {w W : World} (h : LawW m w W) {b j : Nat} (hb : w.heap.size ≤ b) (u : Value) (h0 : TabW w) (hm : w.cell? ⟨0, 0, none⟩ = some (.int .i64 m)) : LawW m w (W.setCell ⟨b, j, none⟩ u) :=
  have hbel := h.bel.setCell (p := ⟨b, j, none⟩) hb u
  ⟨pw_cell_below hbel hm, h0.below hbel, hbel⟩
def ParX (s : ByteArray) (r : S25 × Int × Int) : Prop := parseX s = r
theorem law_parse {m : Int} {w W : World} (h : LawW m w W) (s : ByteArray) {n : S25} {er at_ : Int} (hx : ParX s (n, er, at_)) :
    Calls Tryd.prog 9 #[.string s] W fun e w' => ∃ A c, e = .returned (.tuple #[.agg #[.string n.f0, .string n.f1, .int .i64 n.f2, .int .i64 n.f3, .slice A n.f4.length c], .int .i64 er, .int .i64 at_]) ∧ NodeF w' (fun k => W.heap.size ≤ k ∧ k < w'.heap.size) n A c ∧ LawW m w w' ∧ Below W.heap.size W w' := by
  have h1 := parseX_run s 5000 (Nat.le_refl _)
  rw [show parseX s = _ from hx] at h1
  refine (parse_calls 5000 s n er at_ m W h.hm h1).mono ?_
  rintro e w' ⟨v, he, hN, hb⟩
  obtain ⟨A, c, rfl⟩ := Kd.N_slice hN
  exact ⟨A, c, he, ⟨(Kd.N_reads' hN).2.1, Kd.F_bound (Kd.N_F hN)⟩, h.below hb, hb⟩
theorem law_alive {m : Int} {w W : World} (h : LawW m w W) : Calls Tryd.prog 8 #[] W fun e w' => e = .returned (.bool true) ∧ LawW m w w' ∧ Below W.heap.size W w' :=
  (alive_calls m W h.hm h.ht).mono fun e w' ⟨he, hb⟩ => ⟨he, h.below hb, hb⟩
theorem law_same {m : Int} {w W : World} (h : LawW m w W) {n p : S25} {A A' : Option Addr} {c c' : Nat} {b r : Bool} {ok ok' : Nat → Prop} (hn : NodeF W ok n A c) (hp : NodeF W ok' p A' c') (k : Nat) (hs : sameF k n p b = some r) :
    Calls Tryd.prog 10 #[.agg #[.string n.f0, .string n.f1, .int .i64 n.f2, .int .i64 n.f3, .slice A n.f4.length c], .agg #[.string p.f0, .string p.f1, .int .i64 p.f2, .int .i64 p.f3, .slice A' p.f4.length c'], .bool b] W fun e w' => e = .returned (.bool r) ∧ LawW m w w' ∧ Below W.heap.size W w' :=
  (cofferdamref11_Same.calls k _ _ _ _ A c _ _ _ _ _ A' c' _ b r W hn.C hn.hc hp.C hp.hc hs).mono fun e w' ⟨he, hb⟩ => ⟨he, h.below hb, hb⟩
theorem law_print {m : Int} {w W : World} (h : LawW m w W) {n : S25} {A : Option Addr} {c : Nat} {s : ByteArray} {er : Int} {ok : Nat → Prop} (hn : NodeF W ok n A c) (k : Nat) (hs : printP k n = some (s, er)) :
    Calls Tryd.prog 13 #[.agg #[.string n.f0, .string n.f1, .int .i64 n.f2, .int .i64 n.f3, .slice A n.f4.length c]] W fun e w' => e = .returned (.tuple #[.string s, .int .i64 er]) ∧ LawW m w w' ∧ Below W.heap.size W w' :=
  (print_node k n A c s er m W hn.hc hn.C h.hm h.ht hs).mono fun e w' ⟨he, hb⟩ => ⟨he, h.below hb, hb⟩
theorem law_right {m : Int} {w W : World} (h : LawW m w W) {n : S25} {A : Option Addr} {c : Nat} {r : Bool} {ok : Nat → Prop} (hn : NodeF W ok n A c) (k : Nat) (hs : parse_Right.f k n.f0 n.f1 n.f2 n.f3 n.f4 = some r) :
    Calls Tryd.prog 15 #[.agg #[.string n.f0, .string n.f1, .int .i64 n.f2, .int .i64 n.f3, .slice A n.f4.length c]] W fun e w' => e = .returned (.bool r) ∧ LawW m w w' ∧ Below W.heap.size W w' :=
  (parse_Right.calls k _ _ _ _ A c _ r W hn.C hn.hc hs m h.hm).mono fun e w' ⟨he, hb⟩ => ⟨he, h.below hb, hb⟩
/-- How a law ends. -/
def LawEnd (w : World) (e : Ending) (w' : World) : Prop := e = .returned (.bool true) ∧ Below w.heap.size w w'
end Go.Proofs.YtknbfhhmjbnemaaDoor.P
end
section
namespace Go.Proofs.YtknbfhhmjbnemaaDoor
open Go.ChangeShapes Go.WideShapes Go.ChangeAt Go.RowKit
open Go.ChangeMaps (open_string shut_string)
set_option linter.unusedVariables false

/-! what all rows of this seat share: the listed variables, the world's shape -/
def laid3 : List (String × DataW Unit) := Rows.parseJoinedRow.laid
theorem own : ownKnob Tryd.prog.godebug = none := by kernel_rfl
theorem gPow : Tryd.prog.globalNamed "internal/strconv.uint64pow10" = some 1 := by kernel_rfl
theorem tPow : (Tryd.prog.globals[1]?).map (·.type) = some 98 := by kernel_rfl
theorem datPow : (Rows.laid_internal_strconv_uint64pow10 : DataW Unit) = Lib.tabData .u64 Lib.pow10Tab := by kernel_rfl
theorem door_met (os : Os) (args : Array Value) : laidMetH Tryd.prog laid3 ((World.doorLaid Tryd.prog 400 os).forCall (fun _ _ => 0) ⟨#[], args, []⟩).memory :=
  laidMetH_of_parts3 (fuel := 8) (laidMet_of_run' 8 (by kernel_rfl) (by kernel_rfl)) (by kernel_rfl) (by kernel_rfl)
set_option maxRecDepth 100000 in
theorem tab_of_laid {W : World} (h : laidMetH Tryd.prog laid3 W) : P.TabW W := by
  rw [MakeChecks.laidMetH_plain _ _ _ (by kernel_rfl)] at h
  obtain ⟨ps, ⟨g0, t0, cs0, f0, p0, q0, hg0, ht0, hv0, hd0, ⟨g1, t1, cs1, f1, p1, q1, hg1, ht1, hv1, hd1, ⟨g2, t2, cs2, f2, p2, q2, hg2, ht2, hv2, hd2, _, _⟩, _⟩, _⟩, _, _⟩ := h
  obtain rfl := Option.some.inj (gPow.symm.trans hg2)
  obtain rfl := Option.some.inj (tPow.symm.trans ht2)
  rw [datPow] at hd2
  show Lib.TabIs _ _ _ _ _
  unfold Lib.TabIs
  rw [hv2, ← Lib.cells_of_tab Tryd.underlying98 Tryd.underlying91 (by kernel_rfl) (by kernel_rfl) hd2]
variable {H : Type} {enc : TypeId × Value → H}
theorem change_and_shaped {a : Assume} {C : Checked} {os : Os} {f : FuncId} {fn : Func} {s : ChangeSpec} {conds : List PathCond} {apart fresh handsOn again : Bool} {X : World → Array Value → Prop}
    (hX : ∀ (w w' : World) (args : Array Value), w.heap = w'.heap → X w args → X w' args)
    (own : ownKnob C.prog.godebug = none) (started : os.Started) (noInit : C.prog.inits.idxOf? f = none) (hfn : C.prog.funcs[f]? = some fn)
    (witness : ∃ (w : World) (tape : Tape) (i : Input), w.os = os ∧ (w.forCall tape i).Shaped C.prog ∧ i.vars = [] ∧ Input.okWide C.prog (w.forCall tape i) .any w.heap.size f i ∧
      ((s.pre enc C.prog fn conds apart (w.forCall tape i).memory i.args ∧ X (w.forCall tape i).memory i.args) ∧ sizedMet enc C.prog fn (OpenSpec.ofChange s) apart (w.forCall tape i).memory i.args) ∧ a.holds C.prog (lone (Frame.enter C.prog f i.args .normal) [] (w.forCall tape i)))
    (contract : ∀ (W : World) (base : Nat) (args : Array Value) (ds gs : List (DataW H)) (before : List MemPlace),
      (∀ (j : Nat) t v, fn.params[j]? = some t → args[j]? = some v → Value.okWide C.prog W .any base t v) →
      DataW.Whole enc C.prog fn.params.toList s.vars apart W args.toList ds gs before →
      conds.all (PathCond.test C.prog ⟨fn.params.toList, ds, s.plain.varTypes C.prog, gs⟩) = true →
      (DataW.weightsEach C.prog (fn.params.toList ++ s.plain.varTypes C.prog) (ds ++ gs)).all (· ≤ reachBytes) = true → X W args → W.ShapedOpen C.prog →
      a.holds C.prog (lone (Frame.enter C.prog f args .normal) [] W) →
      Calls C.prog f args W fun e W' => ∃ v, e = .returned v ∧ s.post enc C.prog fn apart fresh handsOn again W args v W') :
    ReturnsInHanded a C os f .any (fun w args => (s.pre enc C.prog fn conds apart w args ∧ X w args) ∧ sizedMet enc C.prog fn (OpenSpec.ofChange s) apart w args) (s.post enc C.prog fn apart fresh handsOn again) := by
  refine returnsInHanded_of_calls own started noInit witness ?_
  intro w tape i _ hsh _ hok hpre hholds
  obtain ⟨_, _, _, fn', hfn', _, _, _, _, hval⟩ := hok
  have e : fn' = fn := Option.some.inj (hfn'.symm.trans hfn)
  subst e
  obtain ⟨⟨⟨ds, gs, before, hw, hc⟩, hx⟩, hz⟩ := hpre
  have hw' := DataW.Whole.of_heap (w' := w.forCall tape i) (by rfl) hw
  refine (contract (w.forCall tape i) w.heap.size i.args ds gs before hval hw' hc (hz.weights hw) (hX _ _ _ (by rfl) hx) hsh hholds).mono fun e W' ⟨v, he, hp⟩ => ?_
  subst he
  exact ChangeSpec.post_blind hp
end Go.Proofs.YtknbfhhmjbnemaaDoor
end
