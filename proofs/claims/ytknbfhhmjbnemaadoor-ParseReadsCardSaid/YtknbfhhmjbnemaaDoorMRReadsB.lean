/- Proved here, for the claim of parseReads_holds: what it is made of: the texts of this work, one behind the other, laid by a program of this session. Conditions: none beside the statement's own. -/
import Derived.Test.YtknbfhhmjbnemaaDoorMR1
import Derived.Test.YtknbfhhmjbnemaaDoorMR2
import Derived.Test.YtknbfhhmjbnemaaDoorMR4
import Derived.Test.YtknbfhhmjbnemaaDoorMRReadsA
set_option linter.unusedVariables false
set_option linter.unusedSimpArgs false
section
namespace Go.Proofs.YtknbfhhmjbnemaaDoor.P
open Go.RowKit Go.Proofs.YtknbfhhmjbnemaaDoorW.PrintWords Go.Proofs.YtknbfhhmjbnemaaDoorW.PrintLast Go.Proofs.YtknbfhhmjbnemaaDoorW.PrintMore

/-- The first of some words that comes next. -/
def kwOf (T : List S60) (i n bad at_ : Int) : List ByteArray → Option (ByteArray × RSt)
 | [] => some (⟨#[]⟩, i, n, bad, at_)
 | w :: ws => (xAi.f T i n bad at_ w).bind fun (b, i, n, bad, at_) => if b = true then some (w, i, n, bad, at_) else kwOf T i n bad at_ ws
def kws : List ByteArray := [(⟨#[100, 101, 118, 105, 99, 101]⟩ : ByteArray), (⟨#[106, 111, 117, 114, 110, 97, 108]⟩ : ByteArray), (⟨#[107, 101, 121]⟩ : ByteArray), (⟨#[114, 111, 111, 116]⟩ : ByteArray), (⟨#[118, 111, 108, 117, 109, 101]⟩ : ByteArray), (⟨#[101, 120, 112, 111, 114, 116]⟩ : ByteArray)]
def xI3 (k : Nat) (T : List S60) (i n bad at_ : Int) : Option (S25 × RSt) :=
  (xAq.f T i n bad at_).bind fun (pl, i, n, bad, at_) =>
  (kwOf T i n bad at_ kws).bind fun (op, i, n, bad, at_) =>
  if op.toList = [] then (xAn.f T i n bad at_ 111).bind fun s => some (⟨op, ⟨#[]⟩, 0, pl, []⟩, s)
  else if 0 ≤ i ∧ i ≤ 1000000 then
    (xAt.f k T (i + 1) n bad at_).bind fun (_, s, _, _, i, n, bad, at_) =>
    (if op.toList = ([100, 101, 118, 105, 99, 101] : List UInt8) ∨ op.toList = ([106, 111, 117, 114, 110, 97, 108] : List UInt8) then (xAg.f T i n bad at_ 1).bind fun (_, _, x, _, s') => some (x, ([] : List S25), s')
     else if op.toList = ([107, 101, 121] : List UInt8) ∨ op.toList = ([114, 111, 111, 116] : List UInt8) then (xAg.f T i n bad at_ 2).bind fun (_, xs, _, xp, s') => some (0, [(⟨(⟨#[104, 101, 120]⟩ : ByteArray), xs, 0, xp, []⟩ : S25)], s')
     else if op.toList = ([118, 111, 108, 117, 109, 101] : List UInt8) then
       (xA8.f T i n bad at_ (⟨#[61]⟩ : ByteArray)).bind fun (i, n, bad, at_) => (rexpr k T i n bad at_ 1).bind fun (x, s') => some (0, [x], s')
     else if op.toList = ([101, 120, 112, 111, 114, 116] : List UInt8) then
       (xAi.f T i n bad at_ (⟨#[114, 101, 97, 100, 111, 110, 108, 121]⟩ : ByteArray)).bind fun (b, i, n, bad, at_) => if b = true then (if 0 ≤ i ∧ i ≤ 1000000 then some (1, [], i + 1, n, bad, at_) else none) else some (0, [], i, n, bad, at_)
     else none).bind fun (N, L, i, n, bad, at_) =>
    (xA8.f T i n bad at_ (⟨#[59]⟩ : ByteArray)).bind fun s' => some (⟨op, s, N, pl, L⟩, s')
  else none
theorem kw_cell {W : World} {b : Nat} (h : W.heap[b]? = some (.cells #[.string (⟨#[100, 101, 118, 105, 99, 101]⟩ : ByteArray), .string (⟨#[106, 111, 117, 114, 110, 97, 108]⟩ : ByteArray), .string (⟨#[107, 101, 121]⟩ : ByteArray), .string (⟨#[114, 111, 111, 116]⟩ : ByteArray), .string (⟨#[118, 111, 108, 117, 109, 101]⟩ : ByteArray), .string (⟨#[101, 120, 112, 111, 114, 116]⟩ : ByteArray)] 9 (0, 0))) (j : Nat) (hj : j < 6) : W.cell? ⟨b, j, none⟩ = some (.string (kws.getD j ⟨#[]⟩)) := by
 rw [xA4 h j]
 match j, hj with
 | 0, _ => rfl
 | 1, _ => rfl
 | 2, _ => rfl
 | 3, _ => rfl
 | 4, _ => rfl
 | 5, _ => rfl
theorem kws_neb0 : ((kws.getD 0 ⟨#[]⟩).toList == []) = false := by kernel_rfl
theorem kws_neb1 : ((kws.getD 1 ⟨#[]⟩).toList == []) = false := by kernel_rfl
theorem kws_neb2 : ((kws.getD 2 ⟨#[]⟩).toList == []) = false := by kernel_rfl
theorem kws_neb3 : ((kws.getD 3 ⟨#[]⟩).toList == []) = false := by kernel_rfl
theorem kws_neb4 : ((kws.getD 4 ⟨#[]⟩).toList == []) = false := by kernel_rfl
theorem kws_neb5 : ((kws.getD 5 ⟨#[]⟩).toList == []) = false := by kernel_rfl
theorem kws_neb (j : Nat) (hj : j < 6) : ((kws.getD j ⟨#[]⟩).toList == []) = false := by
 match j, hj with
 | 0, _ => exact kws_neb0
 | 1, _ => exact kws_neb1
 | 2, _ => exact kws_neb2
 | 3, _ => exact kws_neb3
 | 4, _ => exact kws_neb4
 | 5, _ => exact kws_neb5
theorem kws_ne (j : Nat) (hj : j < 6) : ¬ (kws.getD j ⟨#[]⟩).toList = [] := by
 have := kws_neb j hj
 simpa using this
theorem kws_drop (j : Nat) (hj : j < 6) : kws.drop j = kws.getD j ⟨#[]⟩ :: kws.drop (j + 1) := by
 match j, hj with
 | 0, _ => rfl
 | 1, _ => rfl
 | 2, _ => rfl
 | 3, _ => rfl
 | 4, _ => rfl
 | 5, _ => rfl
/-- What the search for a word has come to. -/
def KwAt (T : List S60) (i n bad at_ : Int) (op : ByteArray) (j : Nat) (R : ByteArray × RSt) : Prop := (op = ⟨#[]⟩ ∧ kwOf T i n bad at_ (kws.drop j) = some R) ∨ (¬ op.toList = [] ∧ R = (op, i, n, bad, at_))

set_option maxHeartbeats 16000000 in
set_option maxRecDepth 100000 in
theorem xJf (k : Nat) (ih : ∀ k', k' ≤ k → xGf k') (g : Nat) (T : List S60) (i n bad at_ : Int) (r : S25) (s1 s2 s3 s4 : Int) (w0 w : World) (hI : xAe w0 w g T i n bad at_) (hB : Below w0.heap.size w0 w) (h : xI3 k T i n bad at_ = some (r, s1, s2, s3, s4)) :
    Calls Tryd.prog 21 #[.pointer (some ⟨g, 0, none⟩)] w fun e w' => ∃ v, e = .returned (.agg #[.string r.f0, .string r.f1, .int .i64 r.f2, .int .i64 r.f3, v]) ∧ Kd.N k25 25 w' w.heap.size (fun k => w.heap.size ≤ k) v r.f4 ∧ xAe w0 w' g T s1 s2 s3 s4 ∧ Below w0.heap.size w0 w' ∧ xAk w w' g none := by
  have hu25 := Tryd.underlying25
  have hu60 := Tryd.underlying60
  have RS := Aside0.mk (RdS.mk hI hB (xAk.refl w g none))
  have GW := Aside0.mk hI.lt
  have WW := Aside0.mk hB.size
  have IH := Aside0.mk ih
  clear hI hB ih
  unfold xI3 at h
  have RS0 := Aside0.mk (RS.out.alloc (.cells #[.string (⟨#[]⟩ : ByteArray), .string (⟨#[]⟩ : ByteArray), .int .i64 0, .int .i64 0, .slice none 0 0] 25))
  have HR4 := Aside0.mk (xBj w (.cells #[.string (⟨#[]⟩ : ByteArray), .string (⟨#[]⟩ : ByteArray), .int .i64 0, .int .i64 0, .slice none 0 0] 25))
  obtain ⟨⟨pl, i1, n1, b1, a1⟩, hHPL, h⟩ := Option.bind_eq_some_iff.mp h
  try dsimp only at h
  have HPL := Aside0.mk hHPL
  clear hHPL
  obtain ⟨⟨op, i2, n2, b2, a2⟩, hHKW, h⟩ := Option.bind_eq_some_iff.mp h
  try dsimp only at h
  have HKW := Aside0.mk hHKW
  clear hHKW
  have HH := Aside0.mk h
  clear h
  go_enter Tryd.func21, Tryd.ntmps21
  go_upto_region 2 with (first | (go_at_call 41; (with_reducible refine (xAq.calls g _ _ _ _ _ _ _ _ _ _ w0 _ RS0.out.is RS0.out.bel HPL.out).mono ?_); rintro e w2 ⟨rfl, hi1, hb1, hk1⟩; have RS2 := Aside0.mk (RS0.out.call hi1 hb1 hk1); have HR2 := Aside0.mk (hk1.blk HR4.out (by have := GW.out; omega) (by simp)); clear hi1 hb1 hk1) | ((with_reducible refine xB0 (N := 3) rfl ?_); refine xB9 ?hg (N := 3) ?hd (cs := #[.string (⟨#[]⟩ : ByteArray), .string (⟨#[]⟩ : ByteArray), .int .i64 0, .int .i64 0, .slice none 0 0]) (t := 25) ?hr ?_; (case hd => rfl); (case hg => rfl); (case hr => first | (go_simp; done) | (go_simp; rfl)); intro bn hg w3 hbox hb; have BX := Aside0.mk hb; have NB := Aside0.mk hbox; have HG := Aside0.mk hg; obtain ⟨c0, c1, c2, c3, c4, f0, f1, f2, f3, f4⟩ := ex5 hbox; clear hb hbox hg))
  generalize hW : World.setCell (World.setCell (World.setCell (World.setCell (World.setCell w3 _ _) _ _) _ _) _ _) _ _ = W3
  have ES := Aside0.mk (show ExS w0 w W3 g T i1 n1 b1 a1 w.heap.size bn ⟨#[]⟩ ⟨#[]⟩ 0 pl (.slice none 0 0) [] from by
    have hlt := xBs HR2.out
    have hge : w2.heap.size ≤ bn := Nat.le_of_eq HG.out.symm
    have hb := ((((BX.out.setCell (p := ⟨bn, 0, none⟩) hge (.string ⟨#[]⟩)).setCell (p := ⟨bn, 1, none⟩) hge (.string ⟨#[]⟩)).setCell (p := ⟨bn, 2, none⟩) hge (.int .i64 0)).setCell (p := ⟨bn, 3, none⟩) hge (.int .i64 pl)).setCell (p := ⟨bn, 4, none⟩) hge (.slice none 0 0)
    rw [hW] at hb
    refine ⟨RS2.out.below hb, xAx HR2.out hb, ?_, Kd.N_nil _ _ _ _ _, Nat.le_refl _, by omega, by omega, GW.out, WW.out⟩
    rw [← hW]
    exact xA1 (xA1 (xA1 (xA1 (xA1 NB.out 0 _ rfl) 1 _ rfl) 2 _ rfl) 3 _ rfl) 4 _ rfl)
  clear hW BX NB HG RS2 HR2 c0 c1 c2 c3 c4 f0 f1 f2 f3 f4 RS0 HR4
  go_upto_block 0 with (fail)
  generalize hW : World.alloc W3 _ = W4
  obtain ⟨bl, hbl⟩ : ∃ bl, bl = W3.heap.size := ⟨_, rfl⟩
  rw [← hbl]
  have ES4 := Aside0.mk (show ExS w0 w W4 g T i1 n1 b1 a1 w.heap.size bn ⟨#[]⟩ ⟨#[]⟩ 0 pl (.slice none 0 0) [] from by rw [← hW]; exact ES.out.below (xA2 (Below.refl _ _) _))
  have HBL := Aside0.mk (show W4.heap[bl]? = some (.cells #[.string (⟨#[100, 101, 118, 105, 99, 101]⟩ : ByteArray), .string (⟨#[106, 111, 117, 114, 110, 97, 108]⟩ : ByteArray), .string (⟨#[107, 101, 121]⟩ : ByteArray), .string (⟨#[114, 111, 111, 116]⟩ : ByteArray), .string (⟨#[118, 111, 108, 117, 109, 101]⟩ : ByteArray), .string (⟨#[101, 120, 112, 111, 114, 116]⟩ : ByteArray)] 9 (0, 0)) from by rw [← hW, hbl]; exact xBj W3 _)
  have NBL := Aside0.mk (show bl ≠ g ∧ bl ≠ bn from by have h1 := ES.out.lt.2.1; have h2 := ES.out.gg; have h3 := ES.out.rs.kb.1; omega)
  clear hW ES hbl
  go_wp2_with (fail)
  go_loopg [5] 7 (fun kx v5 wr => ∃ (j : Nat) (ii nn bb aa : Int) (oo : ByteArray), j ≤ 6 ∧ 6 - j + 1 ≤ kx ∧ v5 = .int .i64 (j : Int) ∧ Aside0 (ExS w0 w wr g T ii nn bb aa w.heap.size bn oo ⟨#[]⟩ 0 pl (.slice none 0 0) []) ∧ Aside0 (wr.heap[bl]? = some (.cells #[.string (⟨#[100, 101, 118, 105, 99, 101]⟩ : ByteArray), .string (⟨#[106, 111, 117, 114, 110, 97, 108]⟩ : ByteArray), .string (⟨#[107, 101, 121]⟩ : ByteArray), .string (⟨#[114, 111, 111, 116]⟩ : ByteArray), .string (⟨#[118, 111, 108, 117, 109, 101]⟩ : ByteArray), .string (⟨#[101, 120, 112, 111, 114, 116]⟩ : ByteArray)] 9 (0, 0))) ∧ Aside0 (KwAt T ii nn bb aa oo j (op, i2, n2, b2, a2)))
  case atStart => exact ⟨0, _, _, _, _, _, by omega, by omega, rfl, ES4, HBL, ⟨.inl ⟨rfl, HKW.out⟩⟩⟩
  case round =>
    clear ES4 HBL HKW
    obtain ⟨j, ii, nn, bb, aa, oo, hj, hg, rfl, EL, BL, KA⟩ := hrel
    have hn0 := (xA4 EL.out.nb 0).trans rfl
    have hfn := xA5 EL.out.nb 0
    by_cases hjl : j < 6
    · skip
      have hd : decide ((j : Int) < 6) = true := decide_eq_true (by omega)
      have q0 : (0 : Int) ≤ (j : Int) := by omega
      have q6 : (j : Int) < 6 := by omega
      by_cases ho : oo.toList = []
      · skip
        have o1 : (oo.toList == []) = true := by simpa using ho
        have o2 : oo.toList.isEmpty = true := by simpa using ho
        rcases KA.out with ⟨rfl, hk⟩ | ⟨hne, _⟩
        rotate_left 1
        · exact absurd ho hne
        rw [kws_drop j hjl, kwOf] at hk
        obtain ⟨⟨b, p1, p2, p3, p4⟩, hHIS, hk⟩ := Option.bind_eq_some_iff.mp hk
        try dsimp only at hk
        have HIS := Aside0.mk hHIS
        clear hHIS
        have HK2 := Aside0.mk hk
        clear hk KA ho
        have hkc := kw_cell BL.out j hjl
        have hadd := xF8 bl j
        have KN := Aside0.mk (kws_ne j hjl)
        generalize kws.getD j ⟨#[]⟩ = wd at *
        cases b with
        | true =>
          have hk := HK2.out
          rw [if_pos rfl] at hk
          simp only [Option.some.injEq, Prod.mk.injEq] at hk
          obtain ⟨rfl, rfl, rfl, rfl, rfl⟩ := hk
          clear HK2
          go_upto_region 7 with (go_at_call 42; (with_reducible refine (xAi.calls g _ _ _ _ _ _ _ _ _ _ _ w0 _ EL.out.rs.is EL.out.rs.bel HIS.out).mono ?_); rintro e wi ⟨rfl, hi1, hb1, hk1⟩; have EI := Aside0.mk (EL.out.call hi1 hb1 hk1); have BI := Aside0.mk (hk1.blk BL.out (by have := NBL.out.1; omega) (by simp)); have hkc2 : wi.cell? ⟨bl, j, none⟩ = some (.string wd) := xJ3 hk1 hkc (by have := NBL.out.1; simpa using this); have hi0 := (xA4 EI.out.nb 0).trans rfl; have hif := xA5 EI.out.nb 0; clear hi1 hb1 hk1)
          go_wp2
          go_roundg (6 - (j + 1) + 1)
          case measure => omega
          case rel => exact ⟨j + 1, _, _, _, _, wd, by omega, by omega, by go_num, ⟨EI.out.set_ 0 (.string wd) rfl⟩, ⟨xAh (p := ⟨bn, 0, none⟩) BI.out NBL.out.2 _⟩, ⟨.inr ⟨KN.out, rfl⟩⟩⟩
        | false =>
          have hk := HK2.out
          rw [if_neg (by decide)] at hk
          have HK3 := Aside0.mk hk
          clear hk HK2
          go_wp2_with (go_at_call 42; (with_reducible refine (xAi.calls g _ _ _ _ _ _ _ _ _ _ _ w0 _ EL.out.rs.is EL.out.rs.bel HIS.out).mono ?_); rintro e wi ⟨rfl, hi1, hb1, hk1⟩; have EI := Aside0.mk (EL.out.call hi1 hb1 hk1); have BI := Aside0.mk (hk1.blk BL.out (by have := NBL.out.1; omega) (by simp)); have hkc2 : wi.cell? ⟨bl, j, none⟩ = some (.string wd) := xJ3 hk1 hkc (by have := NBL.out.1; simpa using this); have hi0 := (xA4 EI.out.nb 0).trans rfl; have hif := xA5 EI.out.nb 0; clear hi1 hb1 hk1)
          go_roundg (6 - (j + 1) + 1)
          case measure => omega
          case rel => exact ⟨j + 1, _, _, _, _, _, by omega, by omega, by go_num, EI, BI, ⟨.inl ⟨rfl, HK3.out⟩⟩⟩
      · skip
        have o1 : (oo.toList == []) = false := by simpa using ho
        have o2 : oo.toList.isEmpty = false := by simpa using ho
        have o3 : (!oo.toList.isEmpty) = true := by simpa using ho
        rcases KA.out with ⟨rfl, _⟩ | ⟨_, hR⟩
        · exact absurd (by first | rfl | decide | kernel_rfl) ho
        simp only [Prod.mk.injEq] at hR
        obtain ⟨rfl, rfl, rfl, rfl, rfl⟩ := hR
        go_upto_region 9 with (fail)
        clear hn0 hfn KA BL NBL o1 o2 o3 hd q0 q6
        have h := HH.out
        rw [if_neg ho] at h
        have ho1 : (op.toList == []) = false := by simpa using ho
        have ho2 : op.toList.isEmpty = false := by simpa using ho
        by_cases hi : 0 ≤ i2 ∧ i2 ≤ 1000000
        rotate_left 1
        · rw [if_neg hi] at h
          cases h
        rw [if_pos hi] at h
        obtain ⟨hi0, hi9⟩ := hi
        obtain ⟨⟨t0, ts, t2, tp, i3, n3, b3, a3⟩, hHNA, h⟩ := Option.bind_eq_some_iff.mp h
        try dsimp only at h
        have HNA := Aside0.mk hHNA
        clear hHNA
        obtain ⟨⟨N, L, i4, n4, b4, a4⟩, hHTL0, h⟩ := Option.bind_eq_some_iff.mp h
        try dsimp only at h
        have HTL0 := Aside0.mk hHTL0
        clear hHTL0
        obtain ⟨⟨i5, n5, b5, a5⟩, hHSC, h⟩ := Option.bind_eq_some_iff.mp h
        try dsimp only at h
        have HSC := Aside0.mk hHSC
        clear hHSC
        simp only [Option.some.injEq, Prod.mk.injEq] at h
        obtain ⟨rfl, rfl, rfl, rfl, rfl⟩ := h
        have htl := HTL0.out
        clear HTL0 HH ho
        have hn0 := (xA4 EL.out.nb 0).trans rfl
        go_upto_region 12 with (fail)
        clear hn0
        obtain ⟨A1, c1, hblk, hge, hC⟩ := EL.out.rs.is
        have x1 := xBz hblk
        have z1 := xA5 hblk 1
        clear hblk hge hC
        go_upto_region 13 with (fail)
        generalize hW : World.setCell wr _ _ = Wi1
        have ESi1 := Aside0.mk (show ExS w0 w Wi1 g T (i2 + 1) _ _ _ w.heap.size bn op ⟨#[]⟩ 0 pl _ [] from by rw [← hW]; exact EL.out.setI _)
        clear hW x1 z1
        go_upto_region 14 with (first | (go_at_call 44; (with_reducible refine (xAt.calls k g _ _ _ _ _ _ _ _ _ _ _ _ _ w0 _ ESi1.out.rs.is ESi1.out.rs.bel HNA.out).mono ?_); rintro e w_2 ⟨rfl, hi1, hb1, hk1⟩; have ES2 := Aside0.mk (ESi1.out.call hi1 hb1 hk1); clear hi1 hb1 hk1) | ((with_reducible refine xB0 (N := 7) rfl ?_); refine xB9 ?hg (N := 7) ?hd (cs := #[.int .i64 0, .string (⟨#[]⟩ : ByteArray), .int .i64 0, .int .i64 0]) (t := 60) ?hr ?_; (case hd => rfl); (case hg => rfl); (case hr => first | (go_simp; done) | (go_simp; rfl)); intro gb_2 hg wb_2 hbox hb; have BX := Aside0.mk hb; have NB := Aside0.mk hbox; have HG := Aside0.mk hg; obtain ⟨c0, c1, c2, c3, f0, f1, f2, f3⟩ := ex4 hbox; clear hb hbox hg))
        generalize hW : World.setCell (World.setCell (World.setCell (World.setCell wb_2 _ _) _ _) _ _) _ _ = W_2
        have hge : w_2.heap.size ≤ gb_2 := Nat.le_of_eq HG.out.symm
        have hb6 : Below w_2.heap.size w_2 W_2 := by
          have hb := ((((BX.out.setCell (p := ⟨gb_2, 0, none⟩) hge (.int .i64 t0)).setCell (p := ⟨gb_2, 1, none⟩) hge (.string ts)).setCell (p := ⟨gb_2, 2, none⟩) hge (.int .i64 t2)).setCell (p := ⟨gb_2, 3, none⟩) hge (.int .i64 tp))
          rw [hW] at hb
          exact hb
        have hx : W_2.heap[gb_2]? = some (.cells #[.int .i64 t0, .string ts, .int .i64 t2, .int .i64 tp] 60 (0, 0)) := by rw [← hW]; exact (xA1 (xA1 (xA1 (xA1 NB.out 0 (.int .i64 t0) rfl) 1 (.string ts) rfl) 2 (.int .i64 t2) rfl) 3 (.int .i64 tp) rfl)
        have ESt2 := Aside0.mk (ES2.out.below hb6)
        clear hW BX NB HG c0 c1 c2 c3 f0 f1 f2 f3 hb6 hge
        obtain ⟨ht0, ht1, ht2, ht3⟩ := ey4 hx
        clear hx
        have hnn := (xA4 ESt2.out.nb 1).trans rfl
        have hnf := xA5 ESt2.out.nb 1
        go_upto_region 15 with (fail)
        generalize hW : World.setCell W_2 _ _ = Wn3
        have ESn_3 := Aside0.mk (show ExS w0 w Wn3 g T _ _ _ _ w.heap.size bn op ts 0 pl _ [] from by rw [← hW]; exact ESt2.out.set_ 1 (.string ts) rfl)
        clear hW hnn hnf
        clear ht0 ht1 ht2 ht3
        have hn0 := (xA4 ESn_3.out.nb 0).trans rfl
        go_upto_region 16 with (fail)
        clear hn0 ho1 ho2
        by_cases hq : op.toList = ([100, 101, 118, 105, 99, 101] : List UInt8) ∨ op.toList = ([106, 111, 117, 114, 110, 97, 108] : List UInt8)
        · skip
          rw [if_pos hq] at htl
          by_cases hq0 : op.toList = ([100, 101, 118, 105, 99, 101] : List UInt8)
          · skip
            have e0 : (op.toList == ([100, 101, 118, 105, 99, 101] : List UInt8)) = true := by rw [hq0]; rfl
            clear hq hq0
            obtain ⟨⟨x0, xs, x2, xp, x5, x6, x7, x8⟩, hHT1, htl⟩ := Option.bind_eq_some_iff.mp htl
            try dsimp only at htl
            have HT1 := Aside0.mk hHT1
            clear hHT1
            simp only [Option.some.injEq, Prod.mk.injEq] at htl
            obtain ⟨rfl, rfl, rfl, rfl, rfl, rfl⟩ := htl
            go_upto_region 19 with (first | (go_at_call 45; (with_reducible refine (xAg.calls g _ _ _ _ _ 1 _ _ _ _ _ _ _ _ w0 _ ESn_3.out.rs.is ESn_3.out.rs.bel HT1.out).mono ?_); rintro e w_4 ⟨rfl, hi1, hb1, hk1⟩; have ES4 := Aside0.mk (ESn_3.out.call hi1 hb1 hk1); clear hi1 hb1 hk1) | ((with_reducible refine xB0 (N := 8) rfl ?_); refine xB9 ?hg (N := 8) ?hd (cs := #[.int .i64 0, .string (⟨#[]⟩ : ByteArray), .int .i64 0, .int .i64 0]) (t := 60) ?hr ?_; (case hd => rfl); (case hg => rfl); (case hr => first | (go_simp; done) | (go_simp; rfl)); intro gb_4 hg wb_4 hbox hb; have BX := Aside0.mk hb; have NB := Aside0.mk hbox; have HG := Aside0.mk hg; obtain ⟨c0, c1, c2, c3, f0, f1, f2, f3⟩ := ex4 hbox; clear hb hbox hg))
            generalize hW : World.setCell (World.setCell (World.setCell (World.setCell wb_4 _ _) _ _) _ _) _ _ = W_4
            have hge : w_4.heap.size ≤ gb_4 := Nat.le_of_eq HG.out.symm
            have hb6 : Below w_4.heap.size w_4 W_4 := by
              have hb := ((((BX.out.setCell (p := ⟨gb_4, 0, none⟩) hge (.int .i64 x0)).setCell (p := ⟨gb_4, 1, none⟩) hge (.string xs)).setCell (p := ⟨gb_4, 2, none⟩) hge (.int .i64 x2)).setCell (p := ⟨gb_4, 3, none⟩) hge (.int .i64 xp))
              rw [hW] at hb
              exact hb
            have hx : W_4.heap[gb_4]? = some (.cells #[.int .i64 x0, .string xs, .int .i64 x2, .int .i64 xp] 60 (0, 0)) := by rw [← hW]; exact (xA1 (xA1 (xA1 (xA1 NB.out 0 (.int .i64 x0) rfl) 1 (.string xs) rfl) 2 (.int .i64 x2) rfl) 3 (.int .i64 xp) rfl)
            have ESt4 := Aside0.mk (ES4.out.below hb6)
            clear hW BX NB HG c0 c1 c2 c3 f0 f1 f2 f3 hb6 hge
            obtain ⟨ht0, ht1, ht2, ht3⟩ := ey4 hx
            clear hx
            have hnn := (xA4 ESt4.out.nb 2).trans rfl
            have hnf := xA5 ESt4.out.nb 2
            go_upto_region 33 with (fail)
            generalize hW : World.setCell W_4 _ _ = Wn5
            have ESn_5 := Aside0.mk (show ExS w0 w Wn5 g T _ _ _ _ w.heap.size bn op ts x2 pl _ [] from by rw [← hW]; exact ESt4.out.set_ 2 (.int .i64 x2) rfl)
            clear hW hnn hnf
            clear ht0 ht1 ht2 ht3
            go_upto_region 34 with (go_at_call 46; (with_reducible refine (xA8.calls g _ _ _ _ _ _ _ _ _ _ w0 _ ESn_5.out.rs.is ESn_5.out.rs.bel HSC.out).mono ?_); rintro e w_6 ⟨rfl, hi1, hb1, hk1⟩; have ES6 := Aside0.mk (ESn_5.out.call hi1 hb1 hk1); clear hi1 hb1 hk1)
            obtain ⟨hn0, hn1, hn2, hn3, hn4⟩ := ey5 ES6.out.nb
            obtain ⟨hr0, hr1, hr2, hr3, hr4, hf0, hf1, hf2, hf3, hf4⟩ := ex5 ES6.out.r4
            go_wp2
            have RSz := ((((((((((ES6.out.rs).far (b := w.heap.size) (j := 0) (by have := GW.out; omega) (Nat.le_refl _) WW.out (.string op))).far (b := w.heap.size) (j := 1) (by have := GW.out; omega) (Nat.le_refl _) WW.out (.string ts))).far (b := w.heap.size) (j := 2) (by have := GW.out; omega) (Nat.le_refl _) WW.out (.int .i64 x2))).far (b := w.heap.size) (j := 3) (by have := GW.out; omega) (Nat.le_refl _) WW.out (.int .i64 pl))).far (b := w.heap.size) (j := 4) (by have := GW.out; omega) (Nat.le_refl _) WW.out (.slice none 0 0))
            have hNz := Kd.N_far (p := ⟨w.heap.size, 4, none⟩) (Kd.N_far (p := ⟨w.heap.size, 3, none⟩) (Kd.N_far (p := ⟨w.heap.size, 2, none⟩) (Kd.N_far (p := ⟨w.heap.size, 1, none⟩) (Kd.N_far (p := ⟨w.heap.size, 0, none⟩) ES6.out.row (fun k hk => hk.2.1) (.string op)) (fun k hk => hk.2.1) (.string ts)) (fun k hk => hk.2.1) (.int .i64 x2)) (fun k hk => hk.2.1) (.int .i64 pl)) (fun k hk => hk.2.1) (.slice none 0 0)
            refine bodyPost_ret (results_cell_row rfl _ _ w.heap.size 25 #[.string op, .string ts, .int .i64 x2, .int .i64 pl, .slice none 0 0] (0, 0) _ rfl (xA1 (xA1 (xA1 (xA1 (xA1 ES6.out.r4 0 (.string op) rfl) 1 (.string ts) rfl) 2 (.int .i64 x2) rfl) 3 (.int .i64 pl) rfl) 4 (.slice none 0 0) rfl) Tryd.underlying25 rfl (by kernel_rfl)) rfl ?_
            exact ⟨_, rfl, Kd.N_mono hNz (fun k hk => hk.1), RSz.is, RSz.bel, RSz.kb⟩
          · skip
            have e0 : (op.toList == ([100, 101, 118, 105, 99, 101] : List UInt8)) = false := beq_eq_false_iff_ne.2 hq0
            have hq1 : op.toList = ([106, 111, 117, 114, 110, 97, 108] : List UInt8) := by simpa [hq0] using hq
            have e1 : (op.toList == ([106, 111, 117, 114, 110, 97, 108] : List UInt8)) = true := by rw [hq1]; rfl
            clear hq hq0 hq1
            obtain ⟨⟨x0, xs, x2, xp, x5, x6, x7, x8⟩, hHT1, htl⟩ := Option.bind_eq_some_iff.mp htl
            try dsimp only at htl
            have HT1 := Aside0.mk hHT1
            clear hHT1
            simp only [Option.some.injEq, Prod.mk.injEq] at htl
            obtain ⟨rfl, rfl, rfl, rfl, rfl, rfl⟩ := htl
            go_upto_region 19 with (first | (go_at_call 45; (with_reducible refine (xAg.calls g _ _ _ _ _ 1 _ _ _ _ _ _ _ _ w0 _ ESn_3.out.rs.is ESn_3.out.rs.bel HT1.out).mono ?_); rintro e w_4 ⟨rfl, hi1, hb1, hk1⟩; have ES4 := Aside0.mk (ESn_3.out.call hi1 hb1 hk1); clear hi1 hb1 hk1) | ((with_reducible refine xB0 (N := 8) rfl ?_); refine xB9 ?hg (N := 8) ?hd (cs := #[.int .i64 0, .string (⟨#[]⟩ : ByteArray), .int .i64 0, .int .i64 0]) (t := 60) ?hr ?_; (case hd => rfl); (case hg => rfl); (case hr => first | (go_simp; done) | (go_simp; rfl)); intro gb_4 hg wb_4 hbox hb; have BX := Aside0.mk hb; have NB := Aside0.mk hbox; have HG := Aside0.mk hg; obtain ⟨c0, c1, c2, c3, f0, f1, f2, f3⟩ := ex4 hbox; clear hb hbox hg))
            generalize hW : World.setCell (World.setCell (World.setCell (World.setCell wb_4 _ _) _ _) _ _) _ _ = W_4
            have hge : w_4.heap.size ≤ gb_4 := Nat.le_of_eq HG.out.symm
            have hb6 : Below w_4.heap.size w_4 W_4 := by
              have hb := ((((BX.out.setCell (p := ⟨gb_4, 0, none⟩) hge (.int .i64 x0)).setCell (p := ⟨gb_4, 1, none⟩) hge (.string xs)).setCell (p := ⟨gb_4, 2, none⟩) hge (.int .i64 x2)).setCell (p := ⟨gb_4, 3, none⟩) hge (.int .i64 xp))
              rw [hW] at hb
              exact hb
            have hx : W_4.heap[gb_4]? = some (.cells #[.int .i64 x0, .string xs, .int .i64 x2, .int .i64 xp] 60 (0, 0)) := by rw [← hW]; exact (xA1 (xA1 (xA1 (xA1 NB.out 0 (.int .i64 x0) rfl) 1 (.string xs) rfl) 2 (.int .i64 x2) rfl) 3 (.int .i64 xp) rfl)
            have ESt4 := Aside0.mk (ES4.out.below hb6)
            clear hW BX NB HG c0 c1 c2 c3 f0 f1 f2 f3 hb6 hge
            obtain ⟨ht0, ht1, ht2, ht3⟩ := ey4 hx
            clear hx
            have hnn := (xA4 ESt4.out.nb 2).trans rfl
            have hnf := xA5 ESt4.out.nb 2
            go_upto_region 33 with (fail)
            generalize hW : World.setCell W_4 _ _ = Wn5
            have ESn_5 := Aside0.mk (show ExS w0 w Wn5 g T _ _ _ _ w.heap.size bn op ts x2 pl _ [] from by rw [← hW]; exact ESt4.out.set_ 2 (.int .i64 x2) rfl)
            clear hW hnn hnf
            clear ht0 ht1 ht2 ht3
            go_upto_region 34 with (go_at_call 46; (with_reducible refine (xA8.calls g _ _ _ _ _ _ _ _ _ _ w0 _ ESn_5.out.rs.is ESn_5.out.rs.bel HSC.out).mono ?_); rintro e w_6 ⟨rfl, hi1, hb1, hk1⟩; have ES6 := Aside0.mk (ESn_5.out.call hi1 hb1 hk1); clear hi1 hb1 hk1)
            obtain ⟨hn0, hn1, hn2, hn3, hn4⟩ := ey5 ES6.out.nb
            obtain ⟨hr0, hr1, hr2, hr3, hr4, hf0, hf1, hf2, hf3, hf4⟩ := ex5 ES6.out.r4
            go_wp2
            have RSz := ((((((((((ES6.out.rs).far (b := w.heap.size) (j := 0) (by have := GW.out; omega) (Nat.le_refl _) WW.out (.string op))).far (b := w.heap.size) (j := 1) (by have := GW.out; omega) (Nat.le_refl _) WW.out (.string ts))).far (b := w.heap.size) (j := 2) (by have := GW.out; omega) (Nat.le_refl _) WW.out (.int .i64 x2))).far (b := w.heap.size) (j := 3) (by have := GW.out; omega) (Nat.le_refl _) WW.out (.int .i64 pl))).far (b := w.heap.size) (j := 4) (by have := GW.out; omega) (Nat.le_refl _) WW.out (.slice none 0 0))
            have hNz := Kd.N_far (p := ⟨w.heap.size, 4, none⟩) (Kd.N_far (p := ⟨w.heap.size, 3, none⟩) (Kd.N_far (p := ⟨w.heap.size, 2, none⟩) (Kd.N_far (p := ⟨w.heap.size, 1, none⟩) (Kd.N_far (p := ⟨w.heap.size, 0, none⟩) ES6.out.row (fun k hk => hk.2.1) (.string op)) (fun k hk => hk.2.1) (.string ts)) (fun k hk => hk.2.1) (.int .i64 x2)) (fun k hk => hk.2.1) (.int .i64 pl)) (fun k hk => hk.2.1) (.slice none 0 0)
            refine bodyPost_ret (results_cell_row rfl _ _ w.heap.size 25 #[.string op, .string ts, .int .i64 x2, .int .i64 pl, .slice none 0 0] (0, 0) _ rfl (xA1 (xA1 (xA1 (xA1 (xA1 ES6.out.r4 0 (.string op) rfl) 1 (.string ts) rfl) 2 (.int .i64 x2) rfl) 3 (.int .i64 pl) rfl) 4 (.slice none 0 0) rfl) Tryd.underlying25 rfl (by kernel_rfl)) rfl ?_
            exact ⟨_, rfl, Kd.N_mono hNz (fun k hk => hk.1), RSz.is, RSz.bel, RSz.kb⟩
        · skip
          rw [if_neg hq] at htl
          have hq0 : ¬ op.toList = ([100, 101, 118, 105, 99, 101] : List UInt8) := fun h => hq (.inl h)
          have hq1 : ¬ op.toList = ([106, 111, 117, 114, 110, 97, 108] : List UInt8) := fun h => hq (.inr h)
          have e0 : (op.toList == ([100, 101, 118, 105, 99, 101] : List UInt8)) = false := beq_eq_false_iff_ne.2 hq0
          have e1 : (op.toList == ([106, 111, 117, 114, 110, 97, 108] : List UInt8)) = false := beq_eq_false_iff_ne.2 hq1
          clear hq hq0 hq1
          by_cases hq : op.toList = ([107, 101, 121] : List UInt8) ∨ op.toList = ([114, 111, 111, 116] : List UInt8)
          · skip
            rw [if_pos hq] at htl
            by_cases hq0 : op.toList = ([107, 101, 121] : List UInt8)
            · skip
              have e2 : (op.toList == ([107, 101, 121] : List UInt8)) = true := by rw [hq0]; rfl
              clear hq hq0
              obtain ⟨⟨x0, xs, x2, xp, x5, x6, x7, x8⟩, hHT1, htl⟩ := Option.bind_eq_some_iff.mp htl
              try dsimp only at htl
              have HT1 := Aside0.mk hHT1
              clear hHT1
              simp only [Option.some.injEq, Prod.mk.injEq] at htl
              obtain ⟨rfl, rfl, rfl, rfl, rfl, rfl⟩ := htl
              go_upto_region 23 with (first | (go_at_call 45; (with_reducible refine (xAg.calls g _ _ _ _ _ 2 _ _ _ _ _ _ _ _ w0 _ ESn_3.out.rs.is ESn_3.out.rs.bel HT1.out).mono ?_); rintro e w_4 ⟨rfl, hi1, hb1, hk1⟩; have ES4 := Aside0.mk (ESn_3.out.call hi1 hb1 hk1); clear hi1 hb1 hk1) | ((with_reducible refine xB0 (N := 9) rfl ?_); refine xB9 ?hg (N := 9) ?hd (cs := #[.int .i64 0, .string (⟨#[]⟩ : ByteArray), .int .i64 0, .int .i64 0]) (t := 60) ?hr ?_; (case hd => rfl); (case hg => rfl); (case hr => first | (go_simp; done) | (go_simp; rfl)); intro gb_4 hg wb_4 hbox hb; have BX := Aside0.mk hb; have NB := Aside0.mk hbox; have HG := Aside0.mk hg; obtain ⟨c0, c1, c2, c3, f0, f1, f2, f3⟩ := ex4 hbox; clear hb hbox hg))
              generalize hW : World.setCell (World.setCell (World.setCell (World.setCell wb_4 _ _) _ _) _ _) _ _ = W_4
              have hge : w_4.heap.size ≤ gb_4 := Nat.le_of_eq HG.out.symm
              have hb6 : Below w_4.heap.size w_4 W_4 := by
                have hb := ((((BX.out.setCell (p := ⟨gb_4, 0, none⟩) hge (.int .i64 x0)).setCell (p := ⟨gb_4, 1, none⟩) hge (.string xs)).setCell (p := ⟨gb_4, 2, none⟩) hge (.int .i64 x2)).setCell (p := ⟨gb_4, 3, none⟩) hge (.int .i64 xp))
                rw [hW] at hb
                exact hb
              have hx : W_4.heap[gb_4]? = some (.cells #[.int .i64 x0, .string xs, .int .i64 x2, .int .i64 xp] 60 (0, 0)) := by rw [← hW]; exact (xA1 (xA1 (xA1 (xA1 NB.out 0 (.int .i64 x0) rfl) 1 (.string xs) rfl) 2 (.int .i64 x2) rfl) 3 (.int .i64 xp) rfl)
              have ESt4 := Aside0.mk (ES4.out.below hb6)
              clear hW BX NB HG c0 c1 c2 c3 f0 f1 f2 f3 hb6 hge
              obtain ⟨ht0, ht1, ht2, ht3⟩ := ey4 hx
              clear hx
              have FKx := Aside0.mk (show Kd.FK k25 W_4 (fun k => w.heap.size ≤ k ∧ k ≠ w.heap.size ∧ k ≠ bn) (S25.mk (⟨#[104, 101, 120]⟩ : ByteArray) xs 0 xp []) [.string (⟨#[104, 101, 120]⟩ : ByteArray), .string xs, .int .i64 0, .int .i64 xp, .slice none 0 0] from k25_mkF _ _ (S25.mk (⟨#[104, 101, 120]⟩ : ByteArray) xs 0 xp []) (Nat.zero_le _) (Kd.F_nil _ _ _))
              have hnn := (xA4 ESt4.out.nb 4).trans rfl
              have hnf := xA5 ESt4.out.nb 4
              go_upto_region 33 with (((with_reducible refine xB0 (N := 77) rfl ?_); refine Kd.N_lit k25 (w0 := W_4) w.heap.size 25 rfl (N' := 77) rfl (xs := [(S25.mk (⟨#[104, 101, 120]⟩ : ByteArray) xs 0 xp [])]) (inner := [.string (⟨#[104, 101, 120]⟩ : ByteArray), .string xs, .int .i64 0, .int .i64 xp, .slice none 0 0]) (ok := (fun k => w.heap.size ≤ k ∧ k ≠ w.heap.size ∧ k ≠ bn)) (okp := (fun k => w.heap.size ≤ k ∧ k ≠ w.heap.size ∧ k ≠ bn)) ?hr ((Reps.none _ _).snoc FKx.out rfl) (fun _ hk => hk) ?hf (Below.refl _ _) ?hz (by show 1 ≤ 9223372036854775807; decide) ?_; (case hr => first | (go_simp; done) | (go_simp; rfl)); (case hf => have h1 := ESt4.out.lt; have h2 := ESt4.out.rs.kb.1; exact ⟨h2, by omega, by omega⟩); (case hz => exact ESt4.out.rs.kb.1); intro v7 w7 hN7 hb7 hg7 hat7; obtain ⟨A7, c7, rfl⟩ := Kd.N_slice hN7; have ESo5 := Aside0.mk (ESt4.out.call (ESt4.out.rs.grown hg7 ESt4.out.gg ESt4.out.ww (by simp)).is (ESt4.out.rs.grown hg7 ESt4.out.gg ESt4.out.ww (by simp)).bel (xAk.of_grown hg7 g)); have HN7 := Aside0.mk hN7; have hnn7 := (xA4 ESo5.out.nb 4).trans rfl; have hnf7 := xA5 ESo5.out.nb 4; clear hN7 hb7 hg7 hat7))
              generalize hW : World.setCell w7 _ _ = Wo5
              have ESl5 := Aside0.mk (show ExS w0 w Wo5 g T _ _ _ _ w.heap.size bn op ts 0 pl (.slice A7 1 c7) [(S25.mk (⟨#[104, 101, 120]⟩ : ByteArray) xs 0 xp [])] from by rw [← hW]; exact ESo5.out.setL HN7.out)
              clear hW hnn hnf hnn7 hnf7 HN7
              clear ht0 ht1 ht2 ht3
              go_upto_region 34 with (go_at_call 46; (with_reducible refine (xA8.calls g _ _ _ _ _ _ _ _ _ _ w0 _ ESl5.out.rs.is ESl5.out.rs.bel HSC.out).mono ?_); rintro e w_6 ⟨rfl, hi1, hb1, hk1⟩; have ES6 := Aside0.mk (ESl5.out.call hi1 hb1 hk1); clear hi1 hb1 hk1)
              obtain ⟨hn0, hn1, hn2, hn3, hn4⟩ := ey5 ES6.out.nb
              obtain ⟨hr0, hr1, hr2, hr3, hr4, hf0, hf1, hf2, hf3, hf4⟩ := ex5 ES6.out.r4
              go_wp2
              have RSz := ((((((((((ES6.out.rs).far (b := w.heap.size) (j := 0) (by have := GW.out; omega) (Nat.le_refl _) WW.out (.string op))).far (b := w.heap.size) (j := 1) (by have := GW.out; omega) (Nat.le_refl _) WW.out (.string ts))).far (b := w.heap.size) (j := 2) (by have := GW.out; omega) (Nat.le_refl _) WW.out (.int .i64 0))).far (b := w.heap.size) (j := 3) (by have := GW.out; omega) (Nat.le_refl _) WW.out (.int .i64 pl))).far (b := w.heap.size) (j := 4) (by have := GW.out; omega) (Nat.le_refl _) WW.out (.slice A7 1 c7))
              have hNz := Kd.N_far (p := ⟨w.heap.size, 4, none⟩) (Kd.N_far (p := ⟨w.heap.size, 3, none⟩) (Kd.N_far (p := ⟨w.heap.size, 2, none⟩) (Kd.N_far (p := ⟨w.heap.size, 1, none⟩) (Kd.N_far (p := ⟨w.heap.size, 0, none⟩) ES6.out.row (fun k hk => hk.2.1) (.string op)) (fun k hk => hk.2.1) (.string ts)) (fun k hk => hk.2.1) (.int .i64 0)) (fun k hk => hk.2.1) (.int .i64 pl)) (fun k hk => hk.2.1) (.slice A7 1 c7)
              refine bodyPost_ret (results_cell_row rfl _ _ w.heap.size 25 #[.string op, .string ts, .int .i64 0, .int .i64 pl, .slice A7 1 c7] (0, 0) _ rfl (xA1 (xA1 (xA1 (xA1 (xA1 ES6.out.r4 0 (.string op) rfl) 1 (.string ts) rfl) 2 (.int .i64 0) rfl) 3 (.int .i64 pl) rfl) 4 (.slice A7 1 c7) rfl) Tryd.underlying25 rfl (by kernel_rfl)) rfl ?_
              exact ⟨_, rfl, Kd.N_mono hNz (fun k hk => hk.1), RSz.is, RSz.bel, RSz.kb⟩
            · skip
              have e2 : (op.toList == ([107, 101, 121] : List UInt8)) = false := beq_eq_false_iff_ne.2 hq0
              have hq1 : op.toList = ([114, 111, 111, 116] : List UInt8) := by simpa [hq0] using hq
              have e3 : (op.toList == ([114, 111, 111, 116] : List UInt8)) = true := by rw [hq1]; rfl
              clear hq hq0 hq1
              obtain ⟨⟨x0, xs, x2, xp, x5, x6, x7, x8⟩, hHT1, htl⟩ := Option.bind_eq_some_iff.mp htl
              try dsimp only at htl
              have HT1 := Aside0.mk hHT1
              clear hHT1
              simp only [Option.some.injEq, Prod.mk.injEq] at htl
              obtain ⟨rfl, rfl, rfl, rfl, rfl, rfl⟩ := htl
              go_upto_region 23 with (first | (go_at_call 45; (with_reducible refine (xAg.calls g _ _ _ _ _ 2 _ _ _ _ _ _ _ _ w0 _ ESn_3.out.rs.is ESn_3.out.rs.bel HT1.out).mono ?_); rintro e w_4 ⟨rfl, hi1, hb1, hk1⟩; have ES4 := Aside0.mk (ESn_3.out.call hi1 hb1 hk1); clear hi1 hb1 hk1) | ((with_reducible refine xB0 (N := 9) rfl ?_); refine xB9 ?hg (N := 9) ?hd (cs := #[.int .i64 0, .string (⟨#[]⟩ : ByteArray), .int .i64 0, .int .i64 0]) (t := 60) ?hr ?_; (case hd => rfl); (case hg => rfl); (case hr => first | (go_simp; done) | (go_simp; rfl)); intro gb_4 hg wb_4 hbox hb; have BX := Aside0.mk hb; have NB := Aside0.mk hbox; have HG := Aside0.mk hg; obtain ⟨c0, c1, c2, c3, f0, f1, f2, f3⟩ := ex4 hbox; clear hb hbox hg))
              generalize hW : World.setCell (World.setCell (World.setCell (World.setCell wb_4 _ _) _ _) _ _) _ _ = W_4
              have hge : w_4.heap.size ≤ gb_4 := Nat.le_of_eq HG.out.symm
              have hb6 : Below w_4.heap.size w_4 W_4 := by
                have hb := ((((BX.out.setCell (p := ⟨gb_4, 0, none⟩) hge (.int .i64 x0)).setCell (p := ⟨gb_4, 1, none⟩) hge (.string xs)).setCell (p := ⟨gb_4, 2, none⟩) hge (.int .i64 x2)).setCell (p := ⟨gb_4, 3, none⟩) hge (.int .i64 xp))
                rw [hW] at hb
                exact hb
              have hx : W_4.heap[gb_4]? = some (.cells #[.int .i64 x0, .string xs, .int .i64 x2, .int .i64 xp] 60 (0, 0)) := by rw [← hW]; exact (xA1 (xA1 (xA1 (xA1 NB.out 0 (.int .i64 x0) rfl) 1 (.string xs) rfl) 2 (.int .i64 x2) rfl) 3 (.int .i64 xp) rfl)
              have ESt4 := Aside0.mk (ES4.out.below hb6)
              clear hW BX NB HG c0 c1 c2 c3 f0 f1 f2 f3 hb6 hge
              obtain ⟨ht0, ht1, ht2, ht3⟩ := ey4 hx
              clear hx
              have FKx := Aside0.mk (show Kd.FK k25 W_4 (fun k => w.heap.size ≤ k ∧ k ≠ w.heap.size ∧ k ≠ bn) (S25.mk (⟨#[104, 101, 120]⟩ : ByteArray) xs 0 xp []) [.string (⟨#[104, 101, 120]⟩ : ByteArray), .string xs, .int .i64 0, .int .i64 xp, .slice none 0 0] from k25_mkF _ _ (S25.mk (⟨#[104, 101, 120]⟩ : ByteArray) xs 0 xp []) (Nat.zero_le _) (Kd.F_nil _ _ _))
              have hnn := (xA4 ESt4.out.nb 4).trans rfl
              have hnf := xA5 ESt4.out.nb 4
              go_upto_region 33 with (((with_reducible refine xB0 (N := 77) rfl ?_); refine Kd.N_lit k25 (w0 := W_4) w.heap.size 25 rfl (N' := 77) rfl (xs := [(S25.mk (⟨#[104, 101, 120]⟩ : ByteArray) xs 0 xp [])]) (inner := [.string (⟨#[104, 101, 120]⟩ : ByteArray), .string xs, .int .i64 0, .int .i64 xp, .slice none 0 0]) (ok := (fun k => w.heap.size ≤ k ∧ k ≠ w.heap.size ∧ k ≠ bn)) (okp := (fun k => w.heap.size ≤ k ∧ k ≠ w.heap.size ∧ k ≠ bn)) ?hr ((Reps.none _ _).snoc FKx.out rfl) (fun _ hk => hk) ?hf (Below.refl _ _) ?hz (by show 1 ≤ 9223372036854775807; decide) ?_; (case hr => first | (go_simp; done) | (go_simp; rfl)); (case hf => have h1 := ESt4.out.lt; have h2 := ESt4.out.rs.kb.1; exact ⟨h2, by omega, by omega⟩); (case hz => exact ESt4.out.rs.kb.1); intro v7 w7 hN7 hb7 hg7 hat7; obtain ⟨A7, c7, rfl⟩ := Kd.N_slice hN7; have ESo5 := Aside0.mk (ESt4.out.call (ESt4.out.rs.grown hg7 ESt4.out.gg ESt4.out.ww (by simp)).is (ESt4.out.rs.grown hg7 ESt4.out.gg ESt4.out.ww (by simp)).bel (xAk.of_grown hg7 g)); have HN7 := Aside0.mk hN7; have hnn7 := (xA4 ESo5.out.nb 4).trans rfl; have hnf7 := xA5 ESo5.out.nb 4; clear hN7 hb7 hg7 hat7))
              generalize hW : World.setCell w7 _ _ = Wo5
              have ESl5 := Aside0.mk (show ExS w0 w Wo5 g T _ _ _ _ w.heap.size bn op ts 0 pl (.slice A7 1 c7) [(S25.mk (⟨#[104, 101, 120]⟩ : ByteArray) xs 0 xp [])] from by rw [← hW]; exact ESo5.out.setL HN7.out)
              clear hW hnn hnf hnn7 hnf7 HN7
              clear ht0 ht1 ht2 ht3
              go_upto_region 34 with (go_at_call 46; (with_reducible refine (xA8.calls g _ _ _ _ _ _ _ _ _ _ w0 _ ESl5.out.rs.is ESl5.out.rs.bel HSC.out).mono ?_); rintro e w_6 ⟨rfl, hi1, hb1, hk1⟩; have ES6 := Aside0.mk (ESl5.out.call hi1 hb1 hk1); clear hi1 hb1 hk1)
              obtain ⟨hn0, hn1, hn2, hn3, hn4⟩ := ey5 ES6.out.nb
              obtain ⟨hr0, hr1, hr2, hr3, hr4, hf0, hf1, hf2, hf3, hf4⟩ := ex5 ES6.out.r4
              go_wp2
              have RSz := ((((((((((ES6.out.rs).far (b := w.heap.size) (j := 0) (by have := GW.out; omega) (Nat.le_refl _) WW.out (.string op))).far (b := w.heap.size) (j := 1) (by have := GW.out; omega) (Nat.le_refl _) WW.out (.string ts))).far (b := w.heap.size) (j := 2) (by have := GW.out; omega) (Nat.le_refl _) WW.out (.int .i64 0))).far (b := w.heap.size) (j := 3) (by have := GW.out; omega) (Nat.le_refl _) WW.out (.int .i64 pl))).far (b := w.heap.size) (j := 4) (by have := GW.out; omega) (Nat.le_refl _) WW.out (.slice A7 1 c7))
              have hNz := Kd.N_far (p := ⟨w.heap.size, 4, none⟩) (Kd.N_far (p := ⟨w.heap.size, 3, none⟩) (Kd.N_far (p := ⟨w.heap.size, 2, none⟩) (Kd.N_far (p := ⟨w.heap.size, 1, none⟩) (Kd.N_far (p := ⟨w.heap.size, 0, none⟩) ES6.out.row (fun k hk => hk.2.1) (.string op)) (fun k hk => hk.2.1) (.string ts)) (fun k hk => hk.2.1) (.int .i64 0)) (fun k hk => hk.2.1) (.int .i64 pl)) (fun k hk => hk.2.1) (.slice A7 1 c7)
              refine bodyPost_ret (results_cell_row rfl _ _ w.heap.size 25 #[.string op, .string ts, .int .i64 0, .int .i64 pl, .slice A7 1 c7] (0, 0) _ rfl (xA1 (xA1 (xA1 (xA1 (xA1 ES6.out.r4 0 (.string op) rfl) 1 (.string ts) rfl) 2 (.int .i64 0) rfl) 3 (.int .i64 pl) rfl) 4 (.slice A7 1 c7) rfl) Tryd.underlying25 rfl (by kernel_rfl)) rfl ?_
              exact ⟨_, rfl, Kd.N_mono hNz (fun k hk => hk.1), RSz.is, RSz.bel, RSz.kb⟩
          · skip
            rw [if_neg hq] at htl
            have hq0 : ¬ op.toList = ([107, 101, 121] : List UInt8) := fun h => hq (.inl h)
            have hq1 : ¬ op.toList = ([114, 111, 111, 116] : List UInt8) := fun h => hq (.inr h)
            have e2 : (op.toList == ([107, 101, 121] : List UInt8)) = false := beq_eq_false_iff_ne.2 hq0
            have e3 : (op.toList == ([114, 111, 111, 116] : List UInt8)) = false := beq_eq_false_iff_ne.2 hq1
            clear hq hq0 hq1
            by_cases hq : op.toList = ([118, 111, 108, 117, 109, 101] : List UInt8)
            · skip
              rw [if_pos hq] at htl
              have e4 : (op.toList == ([118, 111, 108, 117, 109, 101] : List UInt8)) = true := by rw [hq]; rfl
              clear hq
              obtain ⟨⟨p1, p2, p3, p4⟩, hHT1, htl⟩ := Option.bind_eq_some_iff.mp htl
              try dsimp only at htl
              have HT1 := Aside0.mk hHT1
              clear hHT1
              obtain ⟨⟨x, x1, x2, x3, x4⟩, hHT2, htl⟩ := Option.bind_eq_some_iff.mp htl
              try dsimp only at htl
              have HT2 := Aside0.mk hHT2
              clear hHT2
              simp only [Option.some.injEq, Prod.mk.injEq] at htl
              obtain ⟨rfl, rfl, rfl, rfl, rfl, rfl⟩ := htl
              have SZ4 := Aside0.mk (Nat.le_refl Wn3.heap.size)
              have LT4 := Aside0.mk ESn_3.out.lt
              go_upto_region 26 with (go_at_call 46; (with_reducible refine (xA8.calls g _ _ _ _ _ _ _ _ _ _ w0 _ ESn_3.out.rs.is ESn_3.out.rs.bel HT1.out).mono ?_); rintro e w_5 ⟨rfl, hi1, hb1, hk1⟩; have ES5 := Aside0.mk (ESn_3.out.call hi1 hb1 hk1); have SZ5 := Aside0.mk (Nat.le_trans SZ4.out hk1.1); clear hi1 hb1 hk1)
              go_upto_region 27 with (first | (go_at_call 47; (with_reducible refine ((IH.out k (Nat.le_refl k)).use g _ _ _ _ _ _ _ _ _ _ _ w0 _ ES5.out.rs.is ES5.out.rs.bel HT2.out).mono ?_); rintro e w_6 ⟨v_6, rfl, hr1, hi1, hb1, hk1⟩; obtain ⟨A_6, c_6, rfl⟩ := Kd.N_slice hr1; have HV6 := Aside0.mk (Kd.N_mono (hr1) (fun k hk => Nat.le_trans SZ5.out hk)); have ES6 := Aside0.mk (ES5.out.call hi1 hb1 hk1); have SZ6 := Aside0.mk (Nat.le_trans SZ5.out hk1.1); clear hr1 hi1 hb1 hk1) | ((with_reducible refine xB0 (N := 10) rfl ?_); refine xB9 ?hg (N := 10) ?hd (cs := #[.string (⟨#[]⟩ : ByteArray), .string (⟨#[]⟩ : ByteArray), .int .i64 0, .int .i64 0, .slice none 0 0]) (t := 25) ?hr ?_; (case hd => rfl); (case hg => rfl); (case hr => first | (go_simp; done) | (go_simp; rfl)); intro gb_6 hg wb_6 hbox hb; have BX := Aside0.mk hb; have NB := Aside0.mk hbox; have HG := Aside0.mk hg; obtain ⟨c0, c1, c2, c3, c4, f0, f1, f2, f3, f4⟩ := ex5 hbox; clear hb hbox hg))
              generalize hW : World.setCell (World.setCell (World.setCell (World.setCell (World.setCell wb_6 _ _) _ _) _ _) _ _) _ _ = W_6
              have hge : w_6.heap.size ≤ gb_6 := Nat.le_of_eq HG.out.symm
              have hb6 : Below w_6.heap.size w_6 W_6 := by
                have hb := (((((BX.out.setCell (p := ⟨gb_6, 0, none⟩) hge (.string x.f0)).setCell (p := ⟨gb_6, 1, none⟩) hge (.string x.f1)).setCell (p := ⟨gb_6, 2, none⟩) hge (.int .i64 x.f2)).setCell (p := ⟨gb_6, 3, none⟩) hge (.int .i64 x.f3)).setCell (p := ⟨gb_6, 4, none⟩) hge (.slice A_6 x.f4.length c_6))
                rw [hW] at hb
                exact hb
              have HXn6 := Aside0.mk (show W_6.heap[gb_6]? = some (.cells #[.string x.f0, .string x.f1, .int .i64 x.f2, .int .i64 x.f3, .slice A_6 x.f4.length c_6] 25 (0, 0)) by rw [← hW]; exact (xA1 (xA1 (xA1 (xA1 (xA1 NB.out 0 (.string x.f0) rfl) 1 (.string x.f1) rfl) 2 (.int .i64 x.f2) rfl) 3 (.int .i64 x.f3) rfl) 4 (.slice A_6 x.f4.length c_6) rfl))
              have ESn6 := Aside0.mk (ES6.out.below hb6)
              have HVn6 := Aside0.mk (Kd.N_below HV6.out hb6)
              have GEn6 := Aside0.mk (show w.heap.size ≤ gb_6 from Nat.le_trans ES6.out.rs.kb.1 hge)
              have SZn6 := Aside0.mk (Nat.le_trans SZ6.out hb6.size)
              clear hW BX NB HG c0 c1 c2 c3 c4 f0 f1 f2 f3 f4 hb6 hge
              obtain ⟨hy0, hy1, hy2, hy3, hy4⟩ := ey5 HXn6.out
              have FK0 := Aside0.mk (Kd.FK_mono (xDs HVn6.out) (fun k hk => (show w.heap.size ≤ k ∧ k ≠ w.heap.size ∧ k ≠ bn from by have h1 := LT4.out.1; have h2 := LT4.out.2.1; have h3 := ESn_3.out.rs.kb.1; exact ⟨by omega, by omega, by omega⟩)))
              have FKx := Aside0.mk (show Kd.FK k25 W_6 (fun k => w.heap.size ≤ k ∧ k ≠ w.heap.size ∧ k ≠ bn) x [.string x.f0, .string x.f1, .int .i64 x.f2, .int .i64 x.f3, .slice A_6 x.f4.length c_6] from FK0.out)
              have hnn := (xA4 ESn6.out.nb 4).trans rfl
              have hnf := xA5 ESn6.out.nb 4
              go_upto_region 33 with (((with_reducible refine xB0 (N := 86) rfl ?_); refine Kd.N_lit k25 (w0 := W_6) w.heap.size 25 rfl (N' := 86) rfl (xs := [x]) (inner := [.string x.f0, .string x.f1, .int .i64 x.f2, .int .i64 x.f3, .slice A_6 x.f4.length c_6]) (ok := (fun k => w.heap.size ≤ k ∧ k ≠ w.heap.size ∧ k ≠ bn)) (okp := (fun k => w.heap.size ≤ k ∧ k ≠ w.heap.size ∧ k ≠ bn)) ?hr ((Reps.none _ _).snoc FKx.out rfl) (fun _ hk => hk) ?hf (Below.refl _ _) ?hz (by show 1 ≤ 9223372036854775807; decide) ?_; (case hr => first | (go_simp; done) | (go_simp; rfl)); (case hf => have h1 := ESn6.out.lt; have h2 := ESn6.out.rs.kb.1; exact ⟨h2, by omega, by omega⟩); (case hz => exact ESn6.out.rs.kb.1); intro v7 w7 hN7 hb7 hg7 hat7; obtain ⟨A7, c7, rfl⟩ := Kd.N_slice hN7; have ESo7 := Aside0.mk (ESn6.out.call (ESn6.out.rs.grown hg7 ESn6.out.gg ESn6.out.ww (by simp)).is (ESn6.out.rs.grown hg7 ESn6.out.gg ESn6.out.ww (by simp)).bel (xAk.of_grown hg7 g)); have HN7 := Aside0.mk hN7; have hnn7 := (xA4 ESo7.out.nb 4).trans rfl; have hnf7 := xA5 ESo7.out.nb 4; clear hN7 hb7 hg7 hat7))
              generalize hW : World.setCell w7 _ _ = Wo7
              have ESl7 := Aside0.mk (show ExS w0 w Wo7 g T _ _ _ _ w.heap.size bn op ts 0 pl (.slice A7 1 c7) [x] from by rw [← hW]; exact ESo7.out.setL HN7.out)
              clear hW hnn hnf hnn7 hnf7 HN7
              clear hy0 hy1 hy2 hy3 hy4
              go_upto_region 34 with (go_at_call 46; (with_reducible refine (xA8.calls g _ _ _ _ _ _ _ _ _ _ w0 _ ESl7.out.rs.is ESl7.out.rs.bel HSC.out).mono ?_); rintro e w_8 ⟨rfl, hi1, hb1, hk1⟩; have ES8 := Aside0.mk (ESl7.out.call hi1 hb1 hk1); clear hi1 hb1 hk1)
              obtain ⟨hn0, hn1, hn2, hn3, hn4⟩ := ey5 ES8.out.nb
              obtain ⟨hr0, hr1, hr2, hr3, hr4, hf0, hf1, hf2, hf3, hf4⟩ := ex5 ES8.out.r4
              go_wp2
              have RSz := ((((((((((ES8.out.rs).far (b := w.heap.size) (j := 0) (by have := GW.out; omega) (Nat.le_refl _) WW.out (.string op))).far (b := w.heap.size) (j := 1) (by have := GW.out; omega) (Nat.le_refl _) WW.out (.string ts))).far (b := w.heap.size) (j := 2) (by have := GW.out; omega) (Nat.le_refl _) WW.out (.int .i64 0))).far (b := w.heap.size) (j := 3) (by have := GW.out; omega) (Nat.le_refl _) WW.out (.int .i64 pl))).far (b := w.heap.size) (j := 4) (by have := GW.out; omega) (Nat.le_refl _) WW.out (.slice A7 1 c7))
              have hNz := Kd.N_far (p := ⟨w.heap.size, 4, none⟩) (Kd.N_far (p := ⟨w.heap.size, 3, none⟩) (Kd.N_far (p := ⟨w.heap.size, 2, none⟩) (Kd.N_far (p := ⟨w.heap.size, 1, none⟩) (Kd.N_far (p := ⟨w.heap.size, 0, none⟩) ES8.out.row (fun k hk => hk.2.1) (.string op)) (fun k hk => hk.2.1) (.string ts)) (fun k hk => hk.2.1) (.int .i64 0)) (fun k hk => hk.2.1) (.int .i64 pl)) (fun k hk => hk.2.1) (.slice A7 1 c7)
              refine bodyPost_ret (results_cell_row rfl _ _ w.heap.size 25 #[.string op, .string ts, .int .i64 0, .int .i64 pl, .slice A7 1 c7] (0, 0) _ rfl (xA1 (xA1 (xA1 (xA1 (xA1 ES8.out.r4 0 (.string op) rfl) 1 (.string ts) rfl) 2 (.int .i64 0) rfl) 3 (.int .i64 pl) rfl) 4 (.slice A7 1 c7) rfl) Tryd.underlying25 rfl (by kernel_rfl)) rfl ?_
              exact ⟨_, rfl, Kd.N_mono hNz (fun k hk => hk.1), RSz.is, RSz.bel, RSz.kb⟩
            · skip
              rw [if_neg hq] at htl
              have e4 : (op.toList == ([118, 111, 108, 117, 109, 101] : List UInt8)) = false := beq_eq_false_iff_ne.2 hq
              clear hq
              by_cases hq : op.toList = ([101, 120, 112, 111, 114, 116] : List UInt8)
              rotate_left 1
              · rw [if_neg hq] at htl
                cases htl
              rw [if_pos hq] at htl
              have e5 : (op.toList == ([101, 120, 112, 111, 114, 116] : List UInt8)) = true := by rw [hq]; rfl
              clear hq
              obtain ⟨⟨b, p1, p2, p3, p4⟩, hHT1, htl⟩ := Option.bind_eq_some_iff.mp htl
              try dsimp only at htl
              have HT1 := Aside0.mk hHT1
              clear hHT1
              go_upto_region 30 with (go_at_call 42; (with_reducible refine (xAi.calls g _ _ _ _ _ _ _ _ _ _ _ w0 _ ESn_3.out.rs.is ESn_3.out.rs.bel HT1.out).mono ?_); rintro e w_x ⟨rfl, hi1, hb1, hk1⟩; have ESx := Aside0.mk (ESn_3.out.call hi1 hb1 hk1); clear hi1 hb1 hk1)
              cases b with
              | true =>
                rw [if_pos rfl] at htl
                by_cases hi : 0 ≤ p1 ∧ p1 ≤ 1000000
                rotate_left 1
                · rw [if_neg hi] at htl
                  cases htl
                rw [if_pos hi] at htl
                obtain ⟨hi0, hi9⟩ := hi
                simp only [Option.some.injEq, Prod.mk.injEq] at htl
                obtain ⟨rfl, rfl, rfl, rfl, rfl, rfl⟩ := htl
                obtain ⟨A1, c1, hblk, hge, hC⟩ := ESx.out.rs.is
                have x1 := xBz hblk
                have z1 := xA5 hblk 1
                clear hblk hge hC
                go_upto_region 32 with (fail)
                generalize hW : World.setCell w_x _ _ = Wi4
                have ESi4 := Aside0.mk (show ExS w0 w Wi4 g T (p1 + 1) _ _ _ w.heap.size bn op ts 0 pl _ [] from by rw [← hW]; exact ESx.out.setI _)
                clear hW x1 z1
                have hnn := (xA4 ESi4.out.nb 2).trans rfl
                have hnf := xA5 ESi4.out.nb 2
                go_upto_region 33 with (fail)
                generalize hW : World.setCell Wi4 _ _ = Wn5
                have ESn_5 := Aside0.mk (show ExS w0 w Wn5 g T _ _ _ _ w.heap.size bn op ts 1 pl _ [] from by rw [← hW]; exact ESi4.out.set_ 2 (.int .i64 1) rfl)
                clear hW hnn hnf
                go_upto_region 34 with (go_at_call 46; (with_reducible refine (xA8.calls g _ _ _ _ _ _ _ _ _ _ w0 _ ESn_5.out.rs.is ESn_5.out.rs.bel HSC.out).mono ?_); rintro e w_6 ⟨rfl, hi1, hb1, hk1⟩; have ES6 := Aside0.mk (ESn_5.out.call hi1 hb1 hk1); clear hi1 hb1 hk1)
                obtain ⟨hn0, hn1, hn2, hn3, hn4⟩ := ey5 ES6.out.nb
                obtain ⟨hr0, hr1, hr2, hr3, hr4, hf0, hf1, hf2, hf3, hf4⟩ := ex5 ES6.out.r4
                go_wp2
                have RSz := ((((((((((ES6.out.rs).far (b := w.heap.size) (j := 0) (by have := GW.out; omega) (Nat.le_refl _) WW.out (.string op))).far (b := w.heap.size) (j := 1) (by have := GW.out; omega) (Nat.le_refl _) WW.out (.string ts))).far (b := w.heap.size) (j := 2) (by have := GW.out; omega) (Nat.le_refl _) WW.out (.int .i64 1))).far (b := w.heap.size) (j := 3) (by have := GW.out; omega) (Nat.le_refl _) WW.out (.int .i64 pl))).far (b := w.heap.size) (j := 4) (by have := GW.out; omega) (Nat.le_refl _) WW.out (.slice none 0 0))
                have hNz := Kd.N_far (p := ⟨w.heap.size, 4, none⟩) (Kd.N_far (p := ⟨w.heap.size, 3, none⟩) (Kd.N_far (p := ⟨w.heap.size, 2, none⟩) (Kd.N_far (p := ⟨w.heap.size, 1, none⟩) (Kd.N_far (p := ⟨w.heap.size, 0, none⟩) ES6.out.row (fun k hk => hk.2.1) (.string op)) (fun k hk => hk.2.1) (.string ts)) (fun k hk => hk.2.1) (.int .i64 1)) (fun k hk => hk.2.1) (.int .i64 pl)) (fun k hk => hk.2.1) (.slice none 0 0)
                refine bodyPost_ret (results_cell_row rfl _ _ w.heap.size 25 #[.string op, .string ts, .int .i64 1, .int .i64 pl, .slice none 0 0] (0, 0) _ rfl (xA1 (xA1 (xA1 (xA1 (xA1 ES6.out.r4 0 (.string op) rfl) 1 (.string ts) rfl) 2 (.int .i64 1) rfl) 3 (.int .i64 pl) rfl) 4 (.slice none 0 0) rfl) Tryd.underlying25 rfl (by kernel_rfl)) rfl ?_
                exact ⟨_, rfl, Kd.N_mono hNz (fun k hk => hk.1), RSz.is, RSz.bel, RSz.kb⟩
              | false =>
                rw [if_neg (by decide)] at htl
                simp only [Option.some.injEq, Prod.mk.injEq] at htl
                obtain ⟨rfl, rfl, rfl, rfl, rfl, rfl⟩ := htl
                go_upto_region 34 with (go_at_call 46; (with_reducible refine (xA8.calls g _ _ _ _ _ _ _ _ _ _ w0 _ ESx.out.rs.is ESx.out.rs.bel HSC.out).mono ?_); rintro e w_4 ⟨rfl, hi1, hb1, hk1⟩; have ES4 := Aside0.mk (ESx.out.call hi1 hb1 hk1); clear hi1 hb1 hk1)
                obtain ⟨hn0, hn1, hn2, hn3, hn4⟩ := ey5 ES4.out.nb
                obtain ⟨hr0, hr1, hr2, hr3, hr4, hf0, hf1, hf2, hf3, hf4⟩ := ex5 ES4.out.r4
                go_wp2
                have RSz := ((((((((((ES4.out.rs).far (b := w.heap.size) (j := 0) (by have := GW.out; omega) (Nat.le_refl _) WW.out (.string op))).far (b := w.heap.size) (j := 1) (by have := GW.out; omega) (Nat.le_refl _) WW.out (.string ts))).far (b := w.heap.size) (j := 2) (by have := GW.out; omega) (Nat.le_refl _) WW.out (.int .i64 0))).far (b := w.heap.size) (j := 3) (by have := GW.out; omega) (Nat.le_refl _) WW.out (.int .i64 pl))).far (b := w.heap.size) (j := 4) (by have := GW.out; omega) (Nat.le_refl _) WW.out (.slice none 0 0))
                have hNz := Kd.N_far (p := ⟨w.heap.size, 4, none⟩) (Kd.N_far (p := ⟨w.heap.size, 3, none⟩) (Kd.N_far (p := ⟨w.heap.size, 2, none⟩) (Kd.N_far (p := ⟨w.heap.size, 1, none⟩) (Kd.N_far (p := ⟨w.heap.size, 0, none⟩) ES4.out.row (fun k hk => hk.2.1) (.string op)) (fun k hk => hk.2.1) (.string ts)) (fun k hk => hk.2.1) (.int .i64 0)) (fun k hk => hk.2.1) (.int .i64 pl)) (fun k hk => hk.2.1) (.slice none 0 0)
                refine bodyPost_ret (results_cell_row rfl _ _ w.heap.size 25 #[.string op, .string ts, .int .i64 0, .int .i64 pl, .slice none 0 0] (0, 0) _ rfl (xA1 (xA1 (xA1 (xA1 (xA1 ES4.out.r4 0 (.string op) rfl) 1 (.string ts) rfl) 2 (.int .i64 0) rfl) 3 (.int .i64 pl) rfl) 4 (.slice none 0 0) rfl) Tryd.underlying25 rfl (by kernel_rfl)) rfl ?_
                exact ⟨_, rfl, Kd.N_mono hNz (fun k hk => hk.1), RSz.is, RSz.bel, RSz.kb⟩
    · skip
      obtain rfl : j = 6 := by omega
      have hd : decide (((6 : Nat) : Int) < 6) = false := by decide
      have hR : (op, i2, n2, b2, a2) = (oo, ii, nn, bb, aa) := by
        rcases KA.out with ⟨rfl, hk⟩ | ⟨_, hR⟩
        · exact (Option.some.inj hk).symm
        · exact hR
      simp only [Prod.mk.injEq] at hR
      obtain ⟨rfl, rfl, rfl, rfl, rfl⟩ := hR
      go_upto_region 9 with (fail)
      clear hn0 hfn KA BL NBL hd
      by_cases ho : op.toList = []
      · skip
        have h := HH.out
        rw [if_pos ho] at h
        obtain ⟨⟨f1, f2, f3, f4⟩, hHFA, h⟩ := Option.bind_eq_some_iff.mp h
        try dsimp only at h
        have HFA := Aside0.mk hHFA
        clear hHFA
        simp only [Option.some.injEq, Prod.mk.injEq] at h
        obtain ⟨rfl, rfl, rfl, rfl, rfl⟩ := h
        have ho1 : (op.toList == []) = true := by simpa using ho
        have ho2 : op.toList.isEmpty = true := by simpa using ho
        have hn0 := (xA4 EL.out.nb 0).trans rfl
        clear ho HH
        go_upto_region 11 with (go_at_call 43; (with_reducible refine (xAn.calls g _ _ _ _ _ 111 _ _ _ _ w0 _ EL.out.rs.is EL.out.rs.bel HFA.out).mono ?_); rintro e w_f ⟨rfl, hi1, hb1, hk1⟩; have ESf := Aside0.mk (EL.out.call hi1 hb1 hk1); clear hi1 hb1 hk1)
        clear hn0
        obtain ⟨hn0, hn1, hn2, hn3, hn4⟩ := ey5 ESf.out.nb
        obtain ⟨hr0, hr1, hr2, hr3, hr4, hf0, hf1, hf2, hf3, hf4⟩ := ex5 ESf.out.r4
        go_wp2
        have RSz := ((((((((((ESf.out.rs).far (b := w.heap.size) (j := 0) (by have := GW.out; omega) (Nat.le_refl _) WW.out (.string op))).far (b := w.heap.size) (j := 1) (by have := GW.out; omega) (Nat.le_refl _) WW.out (.string ⟨#[]⟩))).far (b := w.heap.size) (j := 2) (by have := GW.out; omega) (Nat.le_refl _) WW.out (.int .i64 0))).far (b := w.heap.size) (j := 3) (by have := GW.out; omega) (Nat.le_refl _) WW.out (.int .i64 pl))).far (b := w.heap.size) (j := 4) (by have := GW.out; omega) (Nat.le_refl _) WW.out (.slice none 0 0))
        have hNz := Kd.N_far (p := ⟨w.heap.size, 4, none⟩) (Kd.N_far (p := ⟨w.heap.size, 3, none⟩) (Kd.N_far (p := ⟨w.heap.size, 2, none⟩) (Kd.N_far (p := ⟨w.heap.size, 1, none⟩) (Kd.N_far (p := ⟨w.heap.size, 0, none⟩) ESf.out.row (fun k hk => hk.2.1) (.string op)) (fun k hk => hk.2.1) (.string ⟨#[]⟩)) (fun k hk => hk.2.1) (.int .i64 0)) (fun k hk => hk.2.1) (.int .i64 pl)) (fun k hk => hk.2.1) (.slice none 0 0)
        refine bodyPost_ret (results_cell_row rfl _ _ w.heap.size 25 #[.string op, .string ⟨#[]⟩, .int .i64 0, .int .i64 pl, .slice none 0 0] (0, 0) _ rfl (xA1 (xA1 (xA1 (xA1 (xA1 ESf.out.r4 0 (.string op) rfl) 1 (.string ⟨#[]⟩) rfl) 2 (.int .i64 0) rfl) 3 (.int .i64 pl) rfl) 4 (.slice none 0 0) rfl) Tryd.underlying25 rfl (by kernel_rfl)) rfl ?_
        exact ⟨_, rfl, Kd.N_mono hNz (fun k hk => hk.1), RSz.is, RSz.bel, RSz.kb⟩
      · skip
        have h := HH.out
        rw [if_neg ho] at h
        have ho1 : (op.toList == []) = false := by simpa using ho
        have ho2 : op.toList.isEmpty = false := by simpa using ho
        by_cases hi : 0 ≤ i2 ∧ i2 ≤ 1000000
        rotate_left 1
        · rw [if_neg hi] at h
          cases h
        rw [if_pos hi] at h
        obtain ⟨hi0, hi9⟩ := hi
        obtain ⟨⟨t0, ts, t2, tp, i3, n3, b3, a3⟩, hHNA, h⟩ := Option.bind_eq_some_iff.mp h
        try dsimp only at h
        have HNA := Aside0.mk hHNA
        clear hHNA
        obtain ⟨⟨N, L, i4, n4, b4, a4⟩, hHTL0, h⟩ := Option.bind_eq_some_iff.mp h
        try dsimp only at h
        have HTL0 := Aside0.mk hHTL0
        clear hHTL0
        obtain ⟨⟨i5, n5, b5, a5⟩, hHSC, h⟩ := Option.bind_eq_some_iff.mp h
        try dsimp only at h
        have HSC := Aside0.mk hHSC
        clear hHSC
        simp only [Option.some.injEq, Prod.mk.injEq] at h
        obtain ⟨rfl, rfl, rfl, rfl, rfl⟩ := h
        have htl := HTL0.out
        clear HTL0 HH ho
        have hn0 := (xA4 EL.out.nb 0).trans rfl
        go_upto_region 12 with (fail)
        clear hn0
        obtain ⟨A1, c1, hblk, hge, hC⟩ := EL.out.rs.is
        have x1 := xBz hblk
        have z1 := xA5 hblk 1
        clear hblk hge hC
        go_upto_region 13 with (fail)
        generalize hW : World.setCell wr _ _ = Wi1
        have ESi1 := Aside0.mk (show ExS w0 w Wi1 g T (i2 + 1) _ _ _ w.heap.size bn op ⟨#[]⟩ 0 pl _ [] from by rw [← hW]; exact EL.out.setI _)
        clear hW x1 z1
        go_upto_region 14 with (first | (go_at_call 44; (with_reducible refine (xAt.calls k g _ _ _ _ _ _ _ _ _ _ _ _ _ w0 _ ESi1.out.rs.is ESi1.out.rs.bel HNA.out).mono ?_); rintro e w_2 ⟨rfl, hi1, hb1, hk1⟩; have ES2 := Aside0.mk (ESi1.out.call hi1 hb1 hk1); clear hi1 hb1 hk1) | ((with_reducible refine xB0 (N := 7) rfl ?_); refine xB9 ?hg (N := 7) ?hd (cs := #[.int .i64 0, .string (⟨#[]⟩ : ByteArray), .int .i64 0, .int .i64 0]) (t := 60) ?hr ?_; (case hd => rfl); (case hg => rfl); (case hr => first | (go_simp; done) | (go_simp; rfl)); intro gb_2 hg wb_2 hbox hb; have BX := Aside0.mk hb; have NB := Aside0.mk hbox; have HG := Aside0.mk hg; obtain ⟨c0, c1, c2, c3, f0, f1, f2, f3⟩ := ex4 hbox; clear hb hbox hg))
        generalize hW : World.setCell (World.setCell (World.setCell (World.setCell wb_2 _ _) _ _) _ _) _ _ = W_2
        have hge : w_2.heap.size ≤ gb_2 := Nat.le_of_eq HG.out.symm
        have hb6 : Below w_2.heap.size w_2 W_2 := by
          have hb := ((((BX.out.setCell (p := ⟨gb_2, 0, none⟩) hge (.int .i64 t0)).setCell (p := ⟨gb_2, 1, none⟩) hge (.string ts)).setCell (p := ⟨gb_2, 2, none⟩) hge (.int .i64 t2)).setCell (p := ⟨gb_2, 3, none⟩) hge (.int .i64 tp))
          rw [hW] at hb
          exact hb
        have hx : W_2.heap[gb_2]? = some (.cells #[.int .i64 t0, .string ts, .int .i64 t2, .int .i64 tp] 60 (0, 0)) := by rw [← hW]; exact (xA1 (xA1 (xA1 (xA1 NB.out 0 (.int .i64 t0) rfl) 1 (.string ts) rfl) 2 (.int .i64 t2) rfl) 3 (.int .i64 tp) rfl)
        have ESt2 := Aside0.mk (ES2.out.below hb6)
        clear hW BX NB HG c0 c1 c2 c3 f0 f1 f2 f3 hb6 hge
        obtain ⟨ht0, ht1, ht2, ht3⟩ := ey4 hx
        clear hx
        have hnn := (xA4 ESt2.out.nb 1).trans rfl
        have hnf := xA5 ESt2.out.nb 1
        go_upto_region 15 with (fail)
        generalize hW : World.setCell W_2 _ _ = Wn3
        have ESn_3 := Aside0.mk (show ExS w0 w Wn3 g T _ _ _ _ w.heap.size bn op ts 0 pl _ [] from by rw [← hW]; exact ESt2.out.set_ 1 (.string ts) rfl)
        clear hW hnn hnf
        clear ht0 ht1 ht2 ht3
        have hn0 := (xA4 ESn_3.out.nb 0).trans rfl
        go_upto_region 16 with (fail)
        clear hn0 ho1 ho2
        by_cases hq : op.toList = ([100, 101, 118, 105, 99, 101] : List UInt8) ∨ op.toList = ([106, 111, 117, 114, 110, 97, 108] : List UInt8)
        · skip
          rw [if_pos hq] at htl
          by_cases hq0 : op.toList = ([100, 101, 118, 105, 99, 101] : List UInt8)
          · skip
            have e0 : (op.toList == ([100, 101, 118, 105, 99, 101] : List UInt8)) = true := by rw [hq0]; rfl
            clear hq hq0
            obtain ⟨⟨x0, xs, x2, xp, x5, x6, x7, x8⟩, hHT1, htl⟩ := Option.bind_eq_some_iff.mp htl
            try dsimp only at htl
            have HT1 := Aside0.mk hHT1
            clear hHT1
            simp only [Option.some.injEq, Prod.mk.injEq] at htl
            obtain ⟨rfl, rfl, rfl, rfl, rfl, rfl⟩ := htl
            go_upto_region 19 with (first | (go_at_call 45; (with_reducible refine (xAg.calls g _ _ _ _ _ 1 _ _ _ _ _ _ _ _ w0 _ ESn_3.out.rs.is ESn_3.out.rs.bel HT1.out).mono ?_); rintro e w_4 ⟨rfl, hi1, hb1, hk1⟩; have ES4 := Aside0.mk (ESn_3.out.call hi1 hb1 hk1); clear hi1 hb1 hk1) | ((with_reducible refine xB0 (N := 8) rfl ?_); refine xB9 ?hg (N := 8) ?hd (cs := #[.int .i64 0, .string (⟨#[]⟩ : ByteArray), .int .i64 0, .int .i64 0]) (t := 60) ?hr ?_; (case hd => rfl); (case hg => rfl); (case hr => first | (go_simp; done) | (go_simp; rfl)); intro gb_4 hg wb_4 hbox hb; have BX := Aside0.mk hb; have NB := Aside0.mk hbox; have HG := Aside0.mk hg; obtain ⟨c0, c1, c2, c3, f0, f1, f2, f3⟩ := ex4 hbox; clear hb hbox hg))
            generalize hW : World.setCell (World.setCell (World.setCell (World.setCell wb_4 _ _) _ _) _ _) _ _ = W_4
            have hge : w_4.heap.size ≤ gb_4 := Nat.le_of_eq HG.out.symm
            have hb6 : Below w_4.heap.size w_4 W_4 := by
              have hb := ((((BX.out.setCell (p := ⟨gb_4, 0, none⟩) hge (.int .i64 x0)).setCell (p := ⟨gb_4, 1, none⟩) hge (.string xs)).setCell (p := ⟨gb_4, 2, none⟩) hge (.int .i64 x2)).setCell (p := ⟨gb_4, 3, none⟩) hge (.int .i64 xp))
              rw [hW] at hb
              exact hb
            have hx : W_4.heap[gb_4]? = some (.cells #[.int .i64 x0, .string xs, .int .i64 x2, .int .i64 xp] 60 (0, 0)) := by rw [← hW]; exact (xA1 (xA1 (xA1 (xA1 NB.out 0 (.int .i64 x0) rfl) 1 (.string xs) rfl) 2 (.int .i64 x2) rfl) 3 (.int .i64 xp) rfl)
            have ESt4 := Aside0.mk (ES4.out.below hb6)
            clear hW BX NB HG c0 c1 c2 c3 f0 f1 f2 f3 hb6 hge
            obtain ⟨ht0, ht1, ht2, ht3⟩ := ey4 hx
            clear hx
            have hnn := (xA4 ESt4.out.nb 2).trans rfl
            have hnf := xA5 ESt4.out.nb 2
            go_upto_region 33 with (fail)
            generalize hW : World.setCell W_4 _ _ = Wn5
            have ESn_5 := Aside0.mk (show ExS w0 w Wn5 g T _ _ _ _ w.heap.size bn op ts x2 pl _ [] from by rw [← hW]; exact ESt4.out.set_ 2 (.int .i64 x2) rfl)
            clear hW hnn hnf
            clear ht0 ht1 ht2 ht3
            go_upto_region 34 with (go_at_call 46; (with_reducible refine (xA8.calls g _ _ _ _ _ _ _ _ _ _ w0 _ ESn_5.out.rs.is ESn_5.out.rs.bel HSC.out).mono ?_); rintro e w_6 ⟨rfl, hi1, hb1, hk1⟩; have ES6 := Aside0.mk (ESn_5.out.call hi1 hb1 hk1); clear hi1 hb1 hk1)
            obtain ⟨hn0, hn1, hn2, hn3, hn4⟩ := ey5 ES6.out.nb
            obtain ⟨hr0, hr1, hr2, hr3, hr4, hf0, hf1, hf2, hf3, hf4⟩ := ex5 ES6.out.r4
            go_wp2
            have RSz := ((((((((((ES6.out.rs).far (b := w.heap.size) (j := 0) (by have := GW.out; omega) (Nat.le_refl _) WW.out (.string op))).far (b := w.heap.size) (j := 1) (by have := GW.out; omega) (Nat.le_refl _) WW.out (.string ts))).far (b := w.heap.size) (j := 2) (by have := GW.out; omega) (Nat.le_refl _) WW.out (.int .i64 x2))).far (b := w.heap.size) (j := 3) (by have := GW.out; omega) (Nat.le_refl _) WW.out (.int .i64 pl))).far (b := w.heap.size) (j := 4) (by have := GW.out; omega) (Nat.le_refl _) WW.out (.slice none 0 0))
            have hNz := Kd.N_far (p := ⟨w.heap.size, 4, none⟩) (Kd.N_far (p := ⟨w.heap.size, 3, none⟩) (Kd.N_far (p := ⟨w.heap.size, 2, none⟩) (Kd.N_far (p := ⟨w.heap.size, 1, none⟩) (Kd.N_far (p := ⟨w.heap.size, 0, none⟩) ES6.out.row (fun k hk => hk.2.1) (.string op)) (fun k hk => hk.2.1) (.string ts)) (fun k hk => hk.2.1) (.int .i64 x2)) (fun k hk => hk.2.1) (.int .i64 pl)) (fun k hk => hk.2.1) (.slice none 0 0)
            refine bodyPost_ret (results_cell_row rfl _ _ w.heap.size 25 #[.string op, .string ts, .int .i64 x2, .int .i64 pl, .slice none 0 0] (0, 0) _ rfl (xA1 (xA1 (xA1 (xA1 (xA1 ES6.out.r4 0 (.string op) rfl) 1 (.string ts) rfl) 2 (.int .i64 x2) rfl) 3 (.int .i64 pl) rfl) 4 (.slice none 0 0) rfl) Tryd.underlying25 rfl (by kernel_rfl)) rfl ?_
            exact ⟨_, rfl, Kd.N_mono hNz (fun k hk => hk.1), RSz.is, RSz.bel, RSz.kb⟩
          · skip
            have e0 : (op.toList == ([100, 101, 118, 105, 99, 101] : List UInt8)) = false := beq_eq_false_iff_ne.2 hq0
            have hq1 : op.toList = ([106, 111, 117, 114, 110, 97, 108] : List UInt8) := by simpa [hq0] using hq
            have e1 : (op.toList == ([106, 111, 117, 114, 110, 97, 108] : List UInt8)) = true := by rw [hq1]; rfl
            clear hq hq0 hq1
            obtain ⟨⟨x0, xs, x2, xp, x5, x6, x7, x8⟩, hHT1, htl⟩ := Option.bind_eq_some_iff.mp htl
            try dsimp only at htl
            have HT1 := Aside0.mk hHT1
            clear hHT1
            simp only [Option.some.injEq, Prod.mk.injEq] at htl
            obtain ⟨rfl, rfl, rfl, rfl, rfl, rfl⟩ := htl
            go_upto_region 19 with (first | (go_at_call 45; (with_reducible refine (xAg.calls g _ _ _ _ _ 1 _ _ _ _ _ _ _ _ w0 _ ESn_3.out.rs.is ESn_3.out.rs.bel HT1.out).mono ?_); rintro e w_4 ⟨rfl, hi1, hb1, hk1⟩; have ES4 := Aside0.mk (ESn_3.out.call hi1 hb1 hk1); clear hi1 hb1 hk1) | ((with_reducible refine xB0 (N := 8) rfl ?_); refine xB9 ?hg (N := 8) ?hd (cs := #[.int .i64 0, .string (⟨#[]⟩ : ByteArray), .int .i64 0, .int .i64 0]) (t := 60) ?hr ?_; (case hd => rfl); (case hg => rfl); (case hr => first | (go_simp; done) | (go_simp; rfl)); intro gb_4 hg wb_4 hbox hb; have BX := Aside0.mk hb; have NB := Aside0.mk hbox; have HG := Aside0.mk hg; obtain ⟨c0, c1, c2, c3, f0, f1, f2, f3⟩ := ex4 hbox; clear hb hbox hg))
            generalize hW : World.setCell (World.setCell (World.setCell (World.setCell wb_4 _ _) _ _) _ _) _ _ = W_4
            have hge : w_4.heap.size ≤ gb_4 := Nat.le_of_eq HG.out.symm
            have hb6 : Below w_4.heap.size w_4 W_4 := by
              have hb := ((((BX.out.setCell (p := ⟨gb_4, 0, none⟩) hge (.int .i64 x0)).setCell (p := ⟨gb_4, 1, none⟩) hge (.string xs)).setCell (p := ⟨gb_4, 2, none⟩) hge (.int .i64 x2)).setCell (p := ⟨gb_4, 3, none⟩) hge (.int .i64 xp))
              rw [hW] at hb
              exact hb
            have hx : W_4.heap[gb_4]? = some (.cells #[.int .i64 x0, .string xs, .int .i64 x2, .int .i64 xp] 60 (0, 0)) := by rw [← hW]; exact (xA1 (xA1 (xA1 (xA1 NB.out 0 (.int .i64 x0) rfl) 1 (.string xs) rfl) 2 (.int .i64 x2) rfl) 3 (.int .i64 xp) rfl)
            have ESt4 := Aside0.mk (ES4.out.below hb6)
            clear hW BX NB HG c0 c1 c2 c3 f0 f1 f2 f3 hb6 hge
            obtain ⟨ht0, ht1, ht2, ht3⟩ := ey4 hx
            clear hx
            have hnn := (xA4 ESt4.out.nb 2).trans rfl
            have hnf := xA5 ESt4.out.nb 2
            go_upto_region 33 with (fail)
            generalize hW : World.setCell W_4 _ _ = Wn5
            have ESn_5 := Aside0.mk (show ExS w0 w Wn5 g T _ _ _ _ w.heap.size bn op ts x2 pl _ [] from by rw [← hW]; exact ESt4.out.set_ 2 (.int .i64 x2) rfl)
            clear hW hnn hnf
            clear ht0 ht1 ht2 ht3
            go_upto_region 34 with (go_at_call 46; (with_reducible refine (xA8.calls g _ _ _ _ _ _ _ _ _ _ w0 _ ESn_5.out.rs.is ESn_5.out.rs.bel HSC.out).mono ?_); rintro e w_6 ⟨rfl, hi1, hb1, hk1⟩; have ES6 := Aside0.mk (ESn_5.out.call hi1 hb1 hk1); clear hi1 hb1 hk1)
            obtain ⟨hn0, hn1, hn2, hn3, hn4⟩ := ey5 ES6.out.nb
            obtain ⟨hr0, hr1, hr2, hr3, hr4, hf0, hf1, hf2, hf3, hf4⟩ := ex5 ES6.out.r4
            go_wp2
            have RSz := ((((((((((ES6.out.rs).far (b := w.heap.size) (j := 0) (by have := GW.out; omega) (Nat.le_refl _) WW.out (.string op))).far (b := w.heap.size) (j := 1) (by have := GW.out; omega) (Nat.le_refl _) WW.out (.string ts))).far (b := w.heap.size) (j := 2) (by have := GW.out; omega) (Nat.le_refl _) WW.out (.int .i64 x2))).far (b := w.heap.size) (j := 3) (by have := GW.out; omega) (Nat.le_refl _) WW.out (.int .i64 pl))).far (b := w.heap.size) (j := 4) (by have := GW.out; omega) (Nat.le_refl _) WW.out (.slice none 0 0))
            have hNz := Kd.N_far (p := ⟨w.heap.size, 4, none⟩) (Kd.N_far (p := ⟨w.heap.size, 3, none⟩) (Kd.N_far (p := ⟨w.heap.size, 2, none⟩) (Kd.N_far (p := ⟨w.heap.size, 1, none⟩) (Kd.N_far (p := ⟨w.heap.size, 0, none⟩) ES6.out.row (fun k hk => hk.2.1) (.string op)) (fun k hk => hk.2.1) (.string ts)) (fun k hk => hk.2.1) (.int .i64 x2)) (fun k hk => hk.2.1) (.int .i64 pl)) (fun k hk => hk.2.1) (.slice none 0 0)
            refine bodyPost_ret (results_cell_row rfl _ _ w.heap.size 25 #[.string op, .string ts, .int .i64 x2, .int .i64 pl, .slice none 0 0] (0, 0) _ rfl (xA1 (xA1 (xA1 (xA1 (xA1 ES6.out.r4 0 (.string op) rfl) 1 (.string ts) rfl) 2 (.int .i64 x2) rfl) 3 (.int .i64 pl) rfl) 4 (.slice none 0 0) rfl) Tryd.underlying25 rfl (by kernel_rfl)) rfl ?_
            exact ⟨_, rfl, Kd.N_mono hNz (fun k hk => hk.1), RSz.is, RSz.bel, RSz.kb⟩
        · skip
          rw [if_neg hq] at htl
          have hq0 : ¬ op.toList = ([100, 101, 118, 105, 99, 101] : List UInt8) := fun h => hq (.inl h)
          have hq1 : ¬ op.toList = ([106, 111, 117, 114, 110, 97, 108] : List UInt8) := fun h => hq (.inr h)
          have e0 : (op.toList == ([100, 101, 118, 105, 99, 101] : List UInt8)) = false := beq_eq_false_iff_ne.2 hq0
          have e1 : (op.toList == ([106, 111, 117, 114, 110, 97, 108] : List UInt8)) = false := beq_eq_false_iff_ne.2 hq1
          clear hq hq0 hq1
          by_cases hq : op.toList = ([107, 101, 121] : List UInt8) ∨ op.toList = ([114, 111, 111, 116] : List UInt8)
          · skip
            rw [if_pos hq] at htl
            by_cases hq0 : op.toList = ([107, 101, 121] : List UInt8)
            · skip
              have e2 : (op.toList == ([107, 101, 121] : List UInt8)) = true := by rw [hq0]; rfl
              clear hq hq0
              obtain ⟨⟨x0, xs, x2, xp, x5, x6, x7, x8⟩, hHT1, htl⟩ := Option.bind_eq_some_iff.mp htl
              try dsimp only at htl
              have HT1 := Aside0.mk hHT1
              clear hHT1
              simp only [Option.some.injEq, Prod.mk.injEq] at htl
              obtain ⟨rfl, rfl, rfl, rfl, rfl, rfl⟩ := htl
              go_upto_region 23 with (first | (go_at_call 45; (with_reducible refine (xAg.calls g _ _ _ _ _ 2 _ _ _ _ _ _ _ _ w0 _ ESn_3.out.rs.is ESn_3.out.rs.bel HT1.out).mono ?_); rintro e w_4 ⟨rfl, hi1, hb1, hk1⟩; have ES4 := Aside0.mk (ESn_3.out.call hi1 hb1 hk1); clear hi1 hb1 hk1) | ((with_reducible refine xB0 (N := 9) rfl ?_); refine xB9 ?hg (N := 9) ?hd (cs := #[.int .i64 0, .string (⟨#[]⟩ : ByteArray), .int .i64 0, .int .i64 0]) (t := 60) ?hr ?_; (case hd => rfl); (case hg => rfl); (case hr => first | (go_simp; done) | (go_simp; rfl)); intro gb_4 hg wb_4 hbox hb; have BX := Aside0.mk hb; have NB := Aside0.mk hbox; have HG := Aside0.mk hg; obtain ⟨c0, c1, c2, c3, f0, f1, f2, f3⟩ := ex4 hbox; clear hb hbox hg))
              generalize hW : World.setCell (World.setCell (World.setCell (World.setCell wb_4 _ _) _ _) _ _) _ _ = W_4
              have hge : w_4.heap.size ≤ gb_4 := Nat.le_of_eq HG.out.symm
              have hb6 : Below w_4.heap.size w_4 W_4 := by
                have hb := ((((BX.out.setCell (p := ⟨gb_4, 0, none⟩) hge (.int .i64 x0)).setCell (p := ⟨gb_4, 1, none⟩) hge (.string xs)).setCell (p := ⟨gb_4, 2, none⟩) hge (.int .i64 x2)).setCell (p := ⟨gb_4, 3, none⟩) hge (.int .i64 xp))
                rw [hW] at hb
                exact hb
              have hx : W_4.heap[gb_4]? = some (.cells #[.int .i64 x0, .string xs, .int .i64 x2, .int .i64 xp] 60 (0, 0)) := by rw [← hW]; exact (xA1 (xA1 (xA1 (xA1 NB.out 0 (.int .i64 x0) rfl) 1 (.string xs) rfl) 2 (.int .i64 x2) rfl) 3 (.int .i64 xp) rfl)
              have ESt4 := Aside0.mk (ES4.out.below hb6)
              clear hW BX NB HG c0 c1 c2 c3 f0 f1 f2 f3 hb6 hge
              obtain ⟨ht0, ht1, ht2, ht3⟩ := ey4 hx
              clear hx
              have FKx := Aside0.mk (show Kd.FK k25 W_4 (fun k => w.heap.size ≤ k ∧ k ≠ w.heap.size ∧ k ≠ bn) (S25.mk (⟨#[104, 101, 120]⟩ : ByteArray) xs 0 xp []) [.string (⟨#[104, 101, 120]⟩ : ByteArray), .string xs, .int .i64 0, .int .i64 xp, .slice none 0 0] from k25_mkF _ _ (S25.mk (⟨#[104, 101, 120]⟩ : ByteArray) xs 0 xp []) (Nat.zero_le _) (Kd.F_nil _ _ _))
              have hnn := (xA4 ESt4.out.nb 4).trans rfl
              have hnf := xA5 ESt4.out.nb 4
              go_upto_region 33 with (((with_reducible refine xB0 (N := 77) rfl ?_); refine Kd.N_lit k25 (w0 := W_4) w.heap.size 25 rfl (N' := 77) rfl (xs := [(S25.mk (⟨#[104, 101, 120]⟩ : ByteArray) xs 0 xp [])]) (inner := [.string (⟨#[104, 101, 120]⟩ : ByteArray), .string xs, .int .i64 0, .int .i64 xp, .slice none 0 0]) (ok := (fun k => w.heap.size ≤ k ∧ k ≠ w.heap.size ∧ k ≠ bn)) (okp := (fun k => w.heap.size ≤ k ∧ k ≠ w.heap.size ∧ k ≠ bn)) ?hr ((Reps.none _ _).snoc FKx.out rfl) (fun _ hk => hk) ?hf (Below.refl _ _) ?hz (by show 1 ≤ 9223372036854775807; decide) ?_; (case hr => first | (go_simp; done) | (go_simp; rfl)); (case hf => have h1 := ESt4.out.lt; have h2 := ESt4.out.rs.kb.1; exact ⟨h2, by omega, by omega⟩); (case hz => exact ESt4.out.rs.kb.1); intro v7 w7 hN7 hb7 hg7 hat7; obtain ⟨A7, c7, rfl⟩ := Kd.N_slice hN7; have ESo5 := Aside0.mk (ESt4.out.call (ESt4.out.rs.grown hg7 ESt4.out.gg ESt4.out.ww (by simp)).is (ESt4.out.rs.grown hg7 ESt4.out.gg ESt4.out.ww (by simp)).bel (xAk.of_grown hg7 g)); have HN7 := Aside0.mk hN7; have hnn7 := (xA4 ESo5.out.nb 4).trans rfl; have hnf7 := xA5 ESo5.out.nb 4; clear hN7 hb7 hg7 hat7))
              generalize hW : World.setCell w7 _ _ = Wo5
              have ESl5 := Aside0.mk (show ExS w0 w Wo5 g T _ _ _ _ w.heap.size bn op ts 0 pl (.slice A7 1 c7) [(S25.mk (⟨#[104, 101, 120]⟩ : ByteArray) xs 0 xp [])] from by rw [← hW]; exact ESo5.out.setL HN7.out)
              clear hW hnn hnf hnn7 hnf7 HN7
              clear ht0 ht1 ht2 ht3
              go_upto_region 34 with (go_at_call 46; (with_reducible refine (xA8.calls g _ _ _ _ _ _ _ _ _ _ w0 _ ESl5.out.rs.is ESl5.out.rs.bel HSC.out).mono ?_); rintro e w_6 ⟨rfl, hi1, hb1, hk1⟩; have ES6 := Aside0.mk (ESl5.out.call hi1 hb1 hk1); clear hi1 hb1 hk1)
              obtain ⟨hn0, hn1, hn2, hn3, hn4⟩ := ey5 ES6.out.nb
              obtain ⟨hr0, hr1, hr2, hr3, hr4, hf0, hf1, hf2, hf3, hf4⟩ := ex5 ES6.out.r4
              go_wp2
              have RSz := ((((((((((ES6.out.rs).far (b := w.heap.size) (j := 0) (by have := GW.out; omega) (Nat.le_refl _) WW.out (.string op))).far (b := w.heap.size) (j := 1) (by have := GW.out; omega) (Nat.le_refl _) WW.out (.string ts))).far (b := w.heap.size) (j := 2) (by have := GW.out; omega) (Nat.le_refl _) WW.out (.int .i64 0))).far (b := w.heap.size) (j := 3) (by have := GW.out; omega) (Nat.le_refl _) WW.out (.int .i64 pl))).far (b := w.heap.size) (j := 4) (by have := GW.out; omega) (Nat.le_refl _) WW.out (.slice A7 1 c7))
              have hNz := Kd.N_far (p := ⟨w.heap.size, 4, none⟩) (Kd.N_far (p := ⟨w.heap.size, 3, none⟩) (Kd.N_far (p := ⟨w.heap.size, 2, none⟩) (Kd.N_far (p := ⟨w.heap.size, 1, none⟩) (Kd.N_far (p := ⟨w.heap.size, 0, none⟩) ES6.out.row (fun k hk => hk.2.1) (.string op)) (fun k hk => hk.2.1) (.string ts)) (fun k hk => hk.2.1) (.int .i64 0)) (fun k hk => hk.2.1) (.int .i64 pl)) (fun k hk => hk.2.1) (.slice A7 1 c7)
              refine bodyPost_ret (results_cell_row rfl _ _ w.heap.size 25 #[.string op, .string ts, .int .i64 0, .int .i64 pl, .slice A7 1 c7] (0, 0) _ rfl (xA1 (xA1 (xA1 (xA1 (xA1 ES6.out.r4 0 (.string op) rfl) 1 (.string ts) rfl) 2 (.int .i64 0) rfl) 3 (.int .i64 pl) rfl) 4 (.slice A7 1 c7) rfl) Tryd.underlying25 rfl (by kernel_rfl)) rfl ?_
              exact ⟨_, rfl, Kd.N_mono hNz (fun k hk => hk.1), RSz.is, RSz.bel, RSz.kb⟩
            · skip
              have e2 : (op.toList == ([107, 101, 121] : List UInt8)) = false := beq_eq_false_iff_ne.2 hq0
              have hq1 : op.toList = ([114, 111, 111, 116] : List UInt8) := by simpa [hq0] using hq
              have e3 : (op.toList == ([114, 111, 111, 116] : List UInt8)) = true := by rw [hq1]; rfl
              clear hq hq0 hq1
              obtain ⟨⟨x0, xs, x2, xp, x5, x6, x7, x8⟩, hHT1, htl⟩ := Option.bind_eq_some_iff.mp htl
              try dsimp only at htl
              have HT1 := Aside0.mk hHT1
              clear hHT1
              simp only [Option.some.injEq, Prod.mk.injEq] at htl
              obtain ⟨rfl, rfl, rfl, rfl, rfl, rfl⟩ := htl
              go_upto_region 23 with (first | (go_at_call 45; (with_reducible refine (xAg.calls g _ _ _ _ _ 2 _ _ _ _ _ _ _ _ w0 _ ESn_3.out.rs.is ESn_3.out.rs.bel HT1.out).mono ?_); rintro e w_4 ⟨rfl, hi1, hb1, hk1⟩; have ES4 := Aside0.mk (ESn_3.out.call hi1 hb1 hk1); clear hi1 hb1 hk1) | ((with_reducible refine xB0 (N := 9) rfl ?_); refine xB9 ?hg (N := 9) ?hd (cs := #[.int .i64 0, .string (⟨#[]⟩ : ByteArray), .int .i64 0, .int .i64 0]) (t := 60) ?hr ?_; (case hd => rfl); (case hg => rfl); (case hr => first | (go_simp; done) | (go_simp; rfl)); intro gb_4 hg wb_4 hbox hb; have BX := Aside0.mk hb; have NB := Aside0.mk hbox; have HG := Aside0.mk hg; obtain ⟨c0, c1, c2, c3, f0, f1, f2, f3⟩ := ex4 hbox; clear hb hbox hg))
              generalize hW : World.setCell (World.setCell (World.setCell (World.setCell wb_4 _ _) _ _) _ _) _ _ = W_4
              have hge : w_4.heap.size ≤ gb_4 := Nat.le_of_eq HG.out.symm
              have hb6 : Below w_4.heap.size w_4 W_4 := by
                have hb := ((((BX.out.setCell (p := ⟨gb_4, 0, none⟩) hge (.int .i64 x0)).setCell (p := ⟨gb_4, 1, none⟩) hge (.string xs)).setCell (p := ⟨gb_4, 2, none⟩) hge (.int .i64 x2)).setCell (p := ⟨gb_4, 3, none⟩) hge (.int .i64 xp))
                rw [hW] at hb
                exact hb
              have hx : W_4.heap[gb_4]? = some (.cells #[.int .i64 x0, .string xs, .int .i64 x2, .int .i64 xp] 60 (0, 0)) := by rw [← hW]; exact (xA1 (xA1 (xA1 (xA1 NB.out 0 (.int .i64 x0) rfl) 1 (.string xs) rfl) 2 (.int .i64 x2) rfl) 3 (.int .i64 xp) rfl)
              have ESt4 := Aside0.mk (ES4.out.below hb6)
              clear hW BX NB HG c0 c1 c2 c3 f0 f1 f2 f3 hb6 hge
              obtain ⟨ht0, ht1, ht2, ht3⟩ := ey4 hx
              clear hx
              have FKx := Aside0.mk (show Kd.FK k25 W_4 (fun k => w.heap.size ≤ k ∧ k ≠ w.heap.size ∧ k ≠ bn) (S25.mk (⟨#[104, 101, 120]⟩ : ByteArray) xs 0 xp []) [.string (⟨#[104, 101, 120]⟩ : ByteArray), .string xs, .int .i64 0, .int .i64 xp, .slice none 0 0] from k25_mkF _ _ (S25.mk (⟨#[104, 101, 120]⟩ : ByteArray) xs 0 xp []) (Nat.zero_le _) (Kd.F_nil _ _ _))
              have hnn := (xA4 ESt4.out.nb 4).trans rfl
              have hnf := xA5 ESt4.out.nb 4
              go_upto_region 33 with (((with_reducible refine xB0 (N := 77) rfl ?_); refine Kd.N_lit k25 (w0 := W_4) w.heap.size 25 rfl (N' := 77) rfl (xs := [(S25.mk (⟨#[104, 101, 120]⟩ : ByteArray) xs 0 xp [])]) (inner := [.string (⟨#[104, 101, 120]⟩ : ByteArray), .string xs, .int .i64 0, .int .i64 xp, .slice none 0 0]) (ok := (fun k => w.heap.size ≤ k ∧ k ≠ w.heap.size ∧ k ≠ bn)) (okp := (fun k => w.heap.size ≤ k ∧ k ≠ w.heap.size ∧ k ≠ bn)) ?hr ((Reps.none _ _).snoc FKx.out rfl) (fun _ hk => hk) ?hf (Below.refl _ _) ?hz (by show 1 ≤ 9223372036854775807; decide) ?_; (case hr => first | (go_simp; done) | (go_simp; rfl)); (case hf => have h1 := ESt4.out.lt; have h2 := ESt4.out.rs.kb.1; exact ⟨h2, by omega, by omega⟩); (case hz => exact ESt4.out.rs.kb.1); intro v7 w7 hN7 hb7 hg7 hat7; obtain ⟨A7, c7, rfl⟩ := Kd.N_slice hN7; have ESo5 := Aside0.mk (ESt4.out.call (ESt4.out.rs.grown hg7 ESt4.out.gg ESt4.out.ww (by simp)).is (ESt4.out.rs.grown hg7 ESt4.out.gg ESt4.out.ww (by simp)).bel (xAk.of_grown hg7 g)); have HN7 := Aside0.mk hN7; have hnn7 := (xA4 ESo5.out.nb 4).trans rfl; have hnf7 := xA5 ESo5.out.nb 4; clear hN7 hb7 hg7 hat7))
              generalize hW : World.setCell w7 _ _ = Wo5
              have ESl5 := Aside0.mk (show ExS w0 w Wo5 g T _ _ _ _ w.heap.size bn op ts 0 pl (.slice A7 1 c7) [(S25.mk (⟨#[104, 101, 120]⟩ : ByteArray) xs 0 xp [])] from by rw [← hW]; exact ESo5.out.setL HN7.out)
              clear hW hnn hnf hnn7 hnf7 HN7
              clear ht0 ht1 ht2 ht3
              go_upto_region 34 with (go_at_call 46; (with_reducible refine (xA8.calls g _ _ _ _ _ _ _ _ _ _ w0 _ ESl5.out.rs.is ESl5.out.rs.bel HSC.out).mono ?_); rintro e w_6 ⟨rfl, hi1, hb1, hk1⟩; have ES6 := Aside0.mk (ESl5.out.call hi1 hb1 hk1); clear hi1 hb1 hk1)
              obtain ⟨hn0, hn1, hn2, hn3, hn4⟩ := ey5 ES6.out.nb
              obtain ⟨hr0, hr1, hr2, hr3, hr4, hf0, hf1, hf2, hf3, hf4⟩ := ex5 ES6.out.r4
              go_wp2
              have RSz := ((((((((((ES6.out.rs).far (b := w.heap.size) (j := 0) (by have := GW.out; omega) (Nat.le_refl _) WW.out (.string op))).far (b := w.heap.size) (j := 1) (by have := GW.out; omega) (Nat.le_refl _) WW.out (.string ts))).far (b := w.heap.size) (j := 2) (by have := GW.out; omega) (Nat.le_refl _) WW.out (.int .i64 0))).far (b := w.heap.size) (j := 3) (by have := GW.out; omega) (Nat.le_refl _) WW.out (.int .i64 pl))).far (b := w.heap.size) (j := 4) (by have := GW.out; omega) (Nat.le_refl _) WW.out (.slice A7 1 c7))
              have hNz := Kd.N_far (p := ⟨w.heap.size, 4, none⟩) (Kd.N_far (p := ⟨w.heap.size, 3, none⟩) (Kd.N_far (p := ⟨w.heap.size, 2, none⟩) (Kd.N_far (p := ⟨w.heap.size, 1, none⟩) (Kd.N_far (p := ⟨w.heap.size, 0, none⟩) ES6.out.row (fun k hk => hk.2.1) (.string op)) (fun k hk => hk.2.1) (.string ts)) (fun k hk => hk.2.1) (.int .i64 0)) (fun k hk => hk.2.1) (.int .i64 pl)) (fun k hk => hk.2.1) (.slice A7 1 c7)
              refine bodyPost_ret (results_cell_row rfl _ _ w.heap.size 25 #[.string op, .string ts, .int .i64 0, .int .i64 pl, .slice A7 1 c7] (0, 0) _ rfl (xA1 (xA1 (xA1 (xA1 (xA1 ES6.out.r4 0 (.string op) rfl) 1 (.string ts) rfl) 2 (.int .i64 0) rfl) 3 (.int .i64 pl) rfl) 4 (.slice A7 1 c7) rfl) Tryd.underlying25 rfl (by kernel_rfl)) rfl ?_
              exact ⟨_, rfl, Kd.N_mono hNz (fun k hk => hk.1), RSz.is, RSz.bel, RSz.kb⟩
          · skip
            rw [if_neg hq] at htl
            have hq0 : ¬ op.toList = ([107, 101, 121] : List UInt8) := fun h => hq (.inl h)
            have hq1 : ¬ op.toList = ([114, 111, 111, 116] : List UInt8) := fun h => hq (.inr h)
            have e2 : (op.toList == ([107, 101, 121] : List UInt8)) = false := beq_eq_false_iff_ne.2 hq0
            have e3 : (op.toList == ([114, 111, 111, 116] : List UInt8)) = false := beq_eq_false_iff_ne.2 hq1
            clear hq hq0 hq1
            by_cases hq : op.toList = ([118, 111, 108, 117, 109, 101] : List UInt8)
            · skip
              rw [if_pos hq] at htl
              have e4 : (op.toList == ([118, 111, 108, 117, 109, 101] : List UInt8)) = true := by rw [hq]; rfl
              clear hq
              obtain ⟨⟨p1, p2, p3, p4⟩, hHT1, htl⟩ := Option.bind_eq_some_iff.mp htl
              try dsimp only at htl
              have HT1 := Aside0.mk hHT1
              clear hHT1
              obtain ⟨⟨x, x1, x2, x3, x4⟩, hHT2, htl⟩ := Option.bind_eq_some_iff.mp htl
              try dsimp only at htl
              have HT2 := Aside0.mk hHT2
              clear hHT2
              simp only [Option.some.injEq, Prod.mk.injEq] at htl
              obtain ⟨rfl, rfl, rfl, rfl, rfl, rfl⟩ := htl
              have SZ4 := Aside0.mk (Nat.le_refl Wn3.heap.size)
              have LT4 := Aside0.mk ESn_3.out.lt
              go_upto_region 26 with (go_at_call 46; (with_reducible refine (xA8.calls g _ _ _ _ _ _ _ _ _ _ w0 _ ESn_3.out.rs.is ESn_3.out.rs.bel HT1.out).mono ?_); rintro e w_5 ⟨rfl, hi1, hb1, hk1⟩; have ES5 := Aside0.mk (ESn_3.out.call hi1 hb1 hk1); have SZ5 := Aside0.mk (Nat.le_trans SZ4.out hk1.1); clear hi1 hb1 hk1)
              go_upto_region 27 with (first | (go_at_call 47; (with_reducible refine ((IH.out k (Nat.le_refl k)).use g _ _ _ _ _ _ _ _ _ _ _ w0 _ ES5.out.rs.is ES5.out.rs.bel HT2.out).mono ?_); rintro e w_6 ⟨v_6, rfl, hr1, hi1, hb1, hk1⟩; obtain ⟨A_6, c_6, rfl⟩ := Kd.N_slice hr1; have HV6 := Aside0.mk (Kd.N_mono (hr1) (fun k hk => Nat.le_trans SZ5.out hk)); have ES6 := Aside0.mk (ES5.out.call hi1 hb1 hk1); have SZ6 := Aside0.mk (Nat.le_trans SZ5.out hk1.1); clear hr1 hi1 hb1 hk1) | ((with_reducible refine xB0 (N := 10) rfl ?_); refine xB9 ?hg (N := 10) ?hd (cs := #[.string (⟨#[]⟩ : ByteArray), .string (⟨#[]⟩ : ByteArray), .int .i64 0, .int .i64 0, .slice none 0 0]) (t := 25) ?hr ?_; (case hd => rfl); (case hg => rfl); (case hr => first | (go_simp; done) | (go_simp; rfl)); intro gb_6 hg wb_6 hbox hb; have BX := Aside0.mk hb; have NB := Aside0.mk hbox; have HG := Aside0.mk hg; obtain ⟨c0, c1, c2, c3, c4, f0, f1, f2, f3, f4⟩ := ex5 hbox; clear hb hbox hg))
              generalize hW : World.setCell (World.setCell (World.setCell (World.setCell (World.setCell wb_6 _ _) _ _) _ _) _ _) _ _ = W_6
              have hge : w_6.heap.size ≤ gb_6 := Nat.le_of_eq HG.out.symm
              have hb6 : Below w_6.heap.size w_6 W_6 := by
                have hb := (((((BX.out.setCell (p := ⟨gb_6, 0, none⟩) hge (.string x.f0)).setCell (p := ⟨gb_6, 1, none⟩) hge (.string x.f1)).setCell (p := ⟨gb_6, 2, none⟩) hge (.int .i64 x.f2)).setCell (p := ⟨gb_6, 3, none⟩) hge (.int .i64 x.f3)).setCell (p := ⟨gb_6, 4, none⟩) hge (.slice A_6 x.f4.length c_6))
                rw [hW] at hb
                exact hb
              have HXn6 := Aside0.mk (show W_6.heap[gb_6]? = some (.cells #[.string x.f0, .string x.f1, .int .i64 x.f2, .int .i64 x.f3, .slice A_6 x.f4.length c_6] 25 (0, 0)) by rw [← hW]; exact (xA1 (xA1 (xA1 (xA1 (xA1 NB.out 0 (.string x.f0) rfl) 1 (.string x.f1) rfl) 2 (.int .i64 x.f2) rfl) 3 (.int .i64 x.f3) rfl) 4 (.slice A_6 x.f4.length c_6) rfl))
              have ESn6 := Aside0.mk (ES6.out.below hb6)
              have HVn6 := Aside0.mk (Kd.N_below HV6.out hb6)
              have GEn6 := Aside0.mk (show w.heap.size ≤ gb_6 from Nat.le_trans ES6.out.rs.kb.1 hge)
              have SZn6 := Aside0.mk (Nat.le_trans SZ6.out hb6.size)
              clear hW BX NB HG c0 c1 c2 c3 c4 f0 f1 f2 f3 f4 hb6 hge
              obtain ⟨hy0, hy1, hy2, hy3, hy4⟩ := ey5 HXn6.out
              have FK0 := Aside0.mk (Kd.FK_mono (xDs HVn6.out) (fun k hk => (show w.heap.size ≤ k ∧ k ≠ w.heap.size ∧ k ≠ bn from by have h1 := LT4.out.1; have h2 := LT4.out.2.1; have h3 := ESn_3.out.rs.kb.1; exact ⟨by omega, by omega, by omega⟩)))
              have FKx := Aside0.mk (show Kd.FK k25 W_6 (fun k => w.heap.size ≤ k ∧ k ≠ w.heap.size ∧ k ≠ bn) x [.string x.f0, .string x.f1, .int .i64 x.f2, .int .i64 x.f3, .slice A_6 x.f4.length c_6] from FK0.out)
              have hnn := (xA4 ESn6.out.nb 4).trans rfl
              have hnf := xA5 ESn6.out.nb 4
              go_upto_region 33 with (((with_reducible refine xB0 (N := 86) rfl ?_); refine Kd.N_lit k25 (w0 := W_6) w.heap.size 25 rfl (N' := 86) rfl (xs := [x]) (inner := [.string x.f0, .string x.f1, .int .i64 x.f2, .int .i64 x.f3, .slice A_6 x.f4.length c_6]) (ok := (fun k => w.heap.size ≤ k ∧ k ≠ w.heap.size ∧ k ≠ bn)) (okp := (fun k => w.heap.size ≤ k ∧ k ≠ w.heap.size ∧ k ≠ bn)) ?hr ((Reps.none _ _).snoc FKx.out rfl) (fun _ hk => hk) ?hf (Below.refl _ _) ?hz (by show 1 ≤ 9223372036854775807; decide) ?_; (case hr => first | (go_simp; done) | (go_simp; rfl)); (case hf => have h1 := ESn6.out.lt; have h2 := ESn6.out.rs.kb.1; exact ⟨h2, by omega, by omega⟩); (case hz => exact ESn6.out.rs.kb.1); intro v7 w7 hN7 hb7 hg7 hat7; obtain ⟨A7, c7, rfl⟩ := Kd.N_slice hN7; have ESo7 := Aside0.mk (ESn6.out.call (ESn6.out.rs.grown hg7 ESn6.out.gg ESn6.out.ww (by simp)).is (ESn6.out.rs.grown hg7 ESn6.out.gg ESn6.out.ww (by simp)).bel (xAk.of_grown hg7 g)); have HN7 := Aside0.mk hN7; have hnn7 := (xA4 ESo7.out.nb 4).trans rfl; have hnf7 := xA5 ESo7.out.nb 4; clear hN7 hb7 hg7 hat7))
              generalize hW : World.setCell w7 _ _ = Wo7
              have ESl7 := Aside0.mk (show ExS w0 w Wo7 g T _ _ _ _ w.heap.size bn op ts 0 pl (.slice A7 1 c7) [x] from by rw [← hW]; exact ESo7.out.setL HN7.out)
              clear hW hnn hnf hnn7 hnf7 HN7
              clear hy0 hy1 hy2 hy3 hy4
              go_upto_region 34 with (go_at_call 46; (with_reducible refine (xA8.calls g _ _ _ _ _ _ _ _ _ _ w0 _ ESl7.out.rs.is ESl7.out.rs.bel HSC.out).mono ?_); rintro e w_8 ⟨rfl, hi1, hb1, hk1⟩; have ES8 := Aside0.mk (ESl7.out.call hi1 hb1 hk1); clear hi1 hb1 hk1)
              obtain ⟨hn0, hn1, hn2, hn3, hn4⟩ := ey5 ES8.out.nb
              obtain ⟨hr0, hr1, hr2, hr3, hr4, hf0, hf1, hf2, hf3, hf4⟩ := ex5 ES8.out.r4
              go_wp2
              have RSz := ((((((((((ES8.out.rs).far (b := w.heap.size) (j := 0) (by have := GW.out; omega) (Nat.le_refl _) WW.out (.string op))).far (b := w.heap.size) (j := 1) (by have := GW.out; omega) (Nat.le_refl _) WW.out (.string ts))).far (b := w.heap.size) (j := 2) (by have := GW.out; omega) (Nat.le_refl _) WW.out (.int .i64 0))).far (b := w.heap.size) (j := 3) (by have := GW.out; omega) (Nat.le_refl _) WW.out (.int .i64 pl))).far (b := w.heap.size) (j := 4) (by have := GW.out; omega) (Nat.le_refl _) WW.out (.slice A7 1 c7))
              have hNz := Kd.N_far (p := ⟨w.heap.size, 4, none⟩) (Kd.N_far (p := ⟨w.heap.size, 3, none⟩) (Kd.N_far (p := ⟨w.heap.size, 2, none⟩) (Kd.N_far (p := ⟨w.heap.size, 1, none⟩) (Kd.N_far (p := ⟨w.heap.size, 0, none⟩) ES8.out.row (fun k hk => hk.2.1) (.string op)) (fun k hk => hk.2.1) (.string ts)) (fun k hk => hk.2.1) (.int .i64 0)) (fun k hk => hk.2.1) (.int .i64 pl)) (fun k hk => hk.2.1) (.slice A7 1 c7)
              refine bodyPost_ret (results_cell_row rfl _ _ w.heap.size 25 #[.string op, .string ts, .int .i64 0, .int .i64 pl, .slice A7 1 c7] (0, 0) _ rfl (xA1 (xA1 (xA1 (xA1 (xA1 ES8.out.r4 0 (.string op) rfl) 1 (.string ts) rfl) 2 (.int .i64 0) rfl) 3 (.int .i64 pl) rfl) 4 (.slice A7 1 c7) rfl) Tryd.underlying25 rfl (by kernel_rfl)) rfl ?_
              exact ⟨_, rfl, Kd.N_mono hNz (fun k hk => hk.1), RSz.is, RSz.bel, RSz.kb⟩
            · skip
              rw [if_neg hq] at htl
              have e4 : (op.toList == ([118, 111, 108, 117, 109, 101] : List UInt8)) = false := beq_eq_false_iff_ne.2 hq
              clear hq
              by_cases hq : op.toList = ([101, 120, 112, 111, 114, 116] : List UInt8)
              rotate_left 1
              · rw [if_neg hq] at htl
                cases htl
              rw [if_pos hq] at htl
              have e5 : (op.toList == ([101, 120, 112, 111, 114, 116] : List UInt8)) = true := by rw [hq]; rfl
              clear hq
              obtain ⟨⟨b, p1, p2, p3, p4⟩, hHT1, htl⟩ := Option.bind_eq_some_iff.mp htl
              try dsimp only at htl
              have HT1 := Aside0.mk hHT1
              clear hHT1
              go_upto_region 30 with (go_at_call 42; (with_reducible refine (xAi.calls g _ _ _ _ _ _ _ _ _ _ _ w0 _ ESn_3.out.rs.is ESn_3.out.rs.bel HT1.out).mono ?_); rintro e w_x ⟨rfl, hi1, hb1, hk1⟩; have ESx := Aside0.mk (ESn_3.out.call hi1 hb1 hk1); clear hi1 hb1 hk1)
              cases b with
              | true =>
                rw [if_pos rfl] at htl
                by_cases hi : 0 ≤ p1 ∧ p1 ≤ 1000000
                rotate_left 1
                · rw [if_neg hi] at htl
                  cases htl
                rw [if_pos hi] at htl
                obtain ⟨hi0, hi9⟩ := hi
                simp only [Option.some.injEq, Prod.mk.injEq] at htl
                obtain ⟨rfl, rfl, rfl, rfl, rfl, rfl⟩ := htl
                obtain ⟨A1, c1, hblk, hge, hC⟩ := ESx.out.rs.is
                have x1 := xBz hblk
                have z1 := xA5 hblk 1
                clear hblk hge hC
                go_upto_region 32 with (fail)
                generalize hW : World.setCell w_x _ _ = Wi4
                have ESi4 := Aside0.mk (show ExS w0 w Wi4 g T (p1 + 1) _ _ _ w.heap.size bn op ts 0 pl _ [] from by rw [← hW]; exact ESx.out.setI _)
                clear hW x1 z1
                have hnn := (xA4 ESi4.out.nb 2).trans rfl
                have hnf := xA5 ESi4.out.nb 2
                go_upto_region 33 with (fail)
                generalize hW : World.setCell Wi4 _ _ = Wn5
                have ESn_5 := Aside0.mk (show ExS w0 w Wn5 g T _ _ _ _ w.heap.size bn op ts 1 pl _ [] from by rw [← hW]; exact ESi4.out.set_ 2 (.int .i64 1) rfl)
                clear hW hnn hnf
                go_upto_region 34 with (go_at_call 46; (with_reducible refine (xA8.calls g _ _ _ _ _ _ _ _ _ _ w0 _ ESn_5.out.rs.is ESn_5.out.rs.bel HSC.out).mono ?_); rintro e w_6 ⟨rfl, hi1, hb1, hk1⟩; have ES6 := Aside0.mk (ESn_5.out.call hi1 hb1 hk1); clear hi1 hb1 hk1)
                obtain ⟨hn0, hn1, hn2, hn3, hn4⟩ := ey5 ES6.out.nb
                obtain ⟨hr0, hr1, hr2, hr3, hr4, hf0, hf1, hf2, hf3, hf4⟩ := ex5 ES6.out.r4
                go_wp2
                have RSz := ((((((((((ES6.out.rs).far (b := w.heap.size) (j := 0) (by have := GW.out; omega) (Nat.le_refl _) WW.out (.string op))).far (b := w.heap.size) (j := 1) (by have := GW.out; omega) (Nat.le_refl _) WW.out (.string ts))).far (b := w.heap.size) (j := 2) (by have := GW.out; omega) (Nat.le_refl _) WW.out (.int .i64 1))).far (b := w.heap.size) (j := 3) (by have := GW.out; omega) (Nat.le_refl _) WW.out (.int .i64 pl))).far (b := w.heap.size) (j := 4) (by have := GW.out; omega) (Nat.le_refl _) WW.out (.slice none 0 0))
                have hNz := Kd.N_far (p := ⟨w.heap.size, 4, none⟩) (Kd.N_far (p := ⟨w.heap.size, 3, none⟩) (Kd.N_far (p := ⟨w.heap.size, 2, none⟩) (Kd.N_far (p := ⟨w.heap.size, 1, none⟩) (Kd.N_far (p := ⟨w.heap.size, 0, none⟩) ES6.out.row (fun k hk => hk.2.1) (.string op)) (fun k hk => hk.2.1) (.string ts)) (fun k hk => hk.2.1) (.int .i64 1)) (fun k hk => hk.2.1) (.int .i64 pl)) (fun k hk => hk.2.1) (.slice none 0 0)
                refine bodyPost_ret (results_cell_row rfl _ _ w.heap.size 25 #[.string op, .string ts, .int .i64 1, .int .i64 pl, .slice none 0 0] (0, 0) _ rfl (xA1 (xA1 (xA1 (xA1 (xA1 ES6.out.r4 0 (.string op) rfl) 1 (.string ts) rfl) 2 (.int .i64 1) rfl) 3 (.int .i64 pl) rfl) 4 (.slice none 0 0) rfl) Tryd.underlying25 rfl (by kernel_rfl)) rfl ?_
                exact ⟨_, rfl, Kd.N_mono hNz (fun k hk => hk.1), RSz.is, RSz.bel, RSz.kb⟩
              | false =>
                rw [if_neg (by decide)] at htl
                simp only [Option.some.injEq, Prod.mk.injEq] at htl
                obtain ⟨rfl, rfl, rfl, rfl, rfl, rfl⟩ := htl
                go_upto_region 34 with (go_at_call 46; (with_reducible refine (xA8.calls g _ _ _ _ _ _ _ _ _ _ w0 _ ESx.out.rs.is ESx.out.rs.bel HSC.out).mono ?_); rintro e w_4 ⟨rfl, hi1, hb1, hk1⟩; have ES4 := Aside0.mk (ESx.out.call hi1 hb1 hk1); clear hi1 hb1 hk1)
                obtain ⟨hn0, hn1, hn2, hn3, hn4⟩ := ey5 ES4.out.nb
                obtain ⟨hr0, hr1, hr2, hr3, hr4, hf0, hf1, hf2, hf3, hf4⟩ := ex5 ES4.out.r4
                go_wp2
                have RSz := ((((((((((ES4.out.rs).far (b := w.heap.size) (j := 0) (by have := GW.out; omega) (Nat.le_refl _) WW.out (.string op))).far (b := w.heap.size) (j := 1) (by have := GW.out; omega) (Nat.le_refl _) WW.out (.string ts))).far (b := w.heap.size) (j := 2) (by have := GW.out; omega) (Nat.le_refl _) WW.out (.int .i64 0))).far (b := w.heap.size) (j := 3) (by have := GW.out; omega) (Nat.le_refl _) WW.out (.int .i64 pl))).far (b := w.heap.size) (j := 4) (by have := GW.out; omega) (Nat.le_refl _) WW.out (.slice none 0 0))
                have hNz := Kd.N_far (p := ⟨w.heap.size, 4, none⟩) (Kd.N_far (p := ⟨w.heap.size, 3, none⟩) (Kd.N_far (p := ⟨w.heap.size, 2, none⟩) (Kd.N_far (p := ⟨w.heap.size, 1, none⟩) (Kd.N_far (p := ⟨w.heap.size, 0, none⟩) ES4.out.row (fun k hk => hk.2.1) (.string op)) (fun k hk => hk.2.1) (.string ts)) (fun k hk => hk.2.1) (.int .i64 0)) (fun k hk => hk.2.1) (.int .i64 pl)) (fun k hk => hk.2.1) (.slice none 0 0)
                refine bodyPost_ret (results_cell_row rfl _ _ w.heap.size 25 #[.string op, .string ts, .int .i64 0, .int .i64 pl, .slice none 0 0] (0, 0) _ rfl (xA1 (xA1 (xA1 (xA1 (xA1 ES4.out.r4 0 (.string op) rfl) 1 (.string ts) rfl) 2 (.int .i64 0) rfl) 3 (.int .i64 pl) rfl) 4 (.slice none 0 0) rfl) Tryd.underlying25 rfl (by kernel_rfl)) rfl ?_
                exact ⟨_, rfl, Kd.N_mono hNz (fun k hk => hk.1), RSz.is, RSz.bel, RSz.kb⟩
end Go.Proofs.YtknbfhhmjbnemaaDoor.P
end
section
namespace Go.Proofs.YtknbfhhmjbnemaaDoor.P
open Go.RowKit Go.Proofs.YtknbfhhmjbnemaaDoorW.PrintWords Go.Proofs.YtknbfhhmjbnemaaDoorW.PrintLast Go.Proofs.YtknbfhhmjbnemaaDoorW.PrintMore
attribute [local go_sem] xBh xBp

/-! ### xB5: function 71 -/
def xB5.f (a0 : Int) : Option (Bool) := if a0 ≥ 97 then (some (decide (a0 ≤ 122))) else (some false)
set_option maxHeartbeats 8000000 in
set_option maxRecDepth 100000 in
theorem xB5.calls (a0 : Int) (r : Bool) (w : World) (h : xB5.f a0 = some r) :
  Calls Tryd.prog 71 #[.int .u8 a0] w fun e w' => e = .returned (.bool r) ∧ Drawn0 w w' := by
 have H : (if a0 ≥ 97 then (some (decide (a0 ≤ 122))) else (some false)) = some r := h
 clear h
 by_cases c2 : a0 ≥ 97
 ·rw [if_pos c2] at H
  have c2b0 : decide (97 ≤ a0) = true := decide_eq_true c2
  clear c2
  obtain rfl := Option.some.inj H
  go_enter Tryd.func71, Tryd.ntmps71
  go_wp2
  go_ret
  exact ⟨by first | rfl | (simp; done) | (simp [*]; done), by repeat (first | exact Drawn0.refl _ | apply Drawn0.step)⟩
 ·rw [if_neg c2] at H
  have c2b0 : decide (97 ≤ a0) = false := decide_eq_false c2
  clear c2
  obtain rfl := Option.some.inj H
  go_enter Tryd.func71, Tryd.ntmps71
  go_wp2
  go_ret
  exact ⟨by first | rfl | (simp; done) | (simp [*]; done), by repeat (first | exact Drawn0.refl _ | apply Drawn0.step)⟩

end Go.Proofs.YtknbfhhmjbnemaaDoor.P
end
section
namespace Go.Proofs.YtknbfhhmjbnemaaDoor.P
open Go.RowKit Go.Proofs.YtknbfhhmjbnemaaDoorW.PrintWords Go.Proofs.YtknbfhhmjbnemaaDoorW.PrintLast Go.Proofs.YtknbfhhmjbnemaaDoorW.PrintMore
attribute [local go_sem] xBh xBp

/-! ### xC2: function 74 -/
def xC2.f (a0 : ByteArray) (a1 : Int) : Option (Bool) := if a1 ≥ (a0.size : Int) then (some true) else (if 0 ≤ a1 then (if a1 < (a0.size : Int) then ((xB5.f (bt a0 a1)).bind fun t212 => (if t212 = true then (some false) else (some ((bt a0 a1) != 95)))) else (none)) else (none))
set_option maxHeartbeats 8000000 in
set_option maxRecDepth 100000 in
theorem xC2.calls (a0 : ByteArray) (a1 : Int) (r : Bool) (w : World) (h : xC2.f a0 a1 = some r) :
  Calls Tryd.prog 74 #[.string a0, .int .i64 a1] w fun e w' => e = .returned (.bool r) ∧ Drawn0 w w' := by
 have H : (if a1 ≥ (a0.size : Int) then (some true) else (if 0 ≤ a1 then (if a1 < (a0.size : Int) then ((xB5.f (bt a0 a1)).bind fun t212 => (if t212 = true then (some false) else (some ((bt a0 a1) != 95)))) else (none)) else (none))) = some r := h
 clear h
 by_cases c3 : a1 ≥ (a0.size : Int)
 ·rw [if_pos c3] at H
  have c3b0 : decide ((a0.size : Int) ≤ a1) = true := decide_eq_true c3
  clear c3
  obtain rfl := Option.some.inj H
  go_enter Tryd.func74, Tryd.ntmps74
  go_wp2
  go_ret
  exact ⟨by first | rfl | (simp; done) | (simp [*]; done), by repeat (first | exact Drawn0.refl _ | apply Drawn0.step)⟩
 ·rw [if_neg c3] at H
  have c3b0 : decide ((a0.size : Int) ≤ a1) = false := decide_eq_false c3
  clear c3
  by_cases c4 : 0 ≤ a1
  ·rw [if_pos c4] at H
   have c4b0 : decide (0 ≤ a1) = true := decide_eq_true c4
   clear c4
   by_cases c5 : a1 < (a0.size : Int)
   ·rw [if_pos c5] at H
    have c5b0 : decide (a1 < (a0.size : Int)) = true := decide_eq_true c5
    clear c5
    replace H := Option.bind_eq_some_iff.mp H
    obtain ⟨t212, A70, H⟩ := H
    replace H : (if t212 = true then (some false) else (some ((bt a0 a1) != 95))) = some r := H
    have A7 := Aside0.mk A70
    clear A70
    by_cases c8 : t212 = true
    ·subst c8
     have H1 : (some false) = some r := by rw [if_pos rfl] at H; exact H
     clear H
     have H := H1
     clear H1
     obtain rfl := Option.some.inj H
     have p6 : 0 ≤ (a1 : Int) := of_decide_eq_true (by first | (with_reducible assumption) | assumption)
     have q6 : a1 < (a0.size : Int) := of_decide_eq_true (by first | (with_reducible assumption) | assumption)
     have hx6 := xD7 a0 a1
     replace p6 := eq_true p6
     replace q6 := eq_true q6
     go_enter Tryd.func74, Tryd.ntmps74
     go_wp2_with (first | (go_at_call 71; (with_reducible refine (xB5.calls (bt a0 a1) true _ A7.out).mono ?_); rintro e w' ⟨rfl, ⟨nd, rfl⟩⟩))
     go_ret
     exact ⟨by first | rfl | (simp; done) | (simp [*]; done), by repeat (first | exact Drawn0.refl _ | apply Drawn0.step)⟩
    ·replace c8 := Bool.eq_false_iff.mpr c8
     subst c8
     have H1 : (some ((bt a0 a1) != 95)) = some r := by rw [if_neg (show ¬ (false = true) by decide)] at H; exact H
     clear H
     have H := H1
     clear H1
     obtain rfl := Option.some.inj H
     have p6 : 0 ≤ (a1 : Int) := of_decide_eq_true (by first | (with_reducible assumption) | assumption)
     have q6 : a1 < (a0.size : Int) := of_decide_eq_true (by first | (with_reducible assumption) | assumption)
     have hx6 := xD7 a0 a1
     replace p6 := eq_true p6
     replace q6 := eq_true q6
     go_enter Tryd.func74, Tryd.ntmps74
     go_wp2_with (first | (go_at_call 71; (with_reducible refine (xB5.calls (bt a0 a1) false _ A7.out).mono ?_); rintro e w' ⟨rfl, ⟨nd, rfl⟩⟩; have p9 : 0 ≤ (a1 : Int) := of_decide_eq_true (by first | (with_reducible assumption) | assumption); have q9 : a1 < (a0.size : Int) := of_decide_eq_true (by first | (with_reducible assumption) | assumption); have hx9 := xD7 a0 a1; replace p9 := eq_true p9; replace q9 := eq_true q9))
     go_ret
     exact ⟨by first | rfl | (simp; done) | (simp [*]; done), by repeat (first | exact Drawn0.refl _ | apply Drawn0.step)⟩
   ·rw [if_neg c5] at H
    exact absurd H (by simp)
  ·rw [if_neg c4] at H
   exact absurd H (by simp)

end Go.Proofs.YtknbfhhmjbnemaaDoor.P
end
section
namespace Go.Proofs.YtknbfhhmjbnemaaDoor.P
open Go.RowKit Go.Proofs.YtknbfhhmjbnemaaDoorW.PrintWords Go.Proofs.YtknbfhhmjbnemaaDoorW.PrintLast Go.Proofs.YtknbfhhmjbnemaaDoorW.PrintMore
attribute [local go_sem] xBh xBp

/-! ### xAs: function 72 -/
def xAs.f (a0 : Int) : Option (Bool) := if a0 ≥ 48 then (some (decide (a0 ≤ 57))) else (some false)
set_option maxHeartbeats 8000000 in
set_option maxRecDepth 100000 in
theorem xAs.calls (a0 : Int) (r : Bool) (w : World) (h : xAs.f a0 = some r) :
  Calls Tryd.prog 72 #[.int .u8 a0] w fun e w' => e = .returned (.bool r) ∧ Drawn0 w w' := by
 have H : (if a0 ≥ 48 then (some (decide (a0 ≤ 57))) else (some false)) = some r := h
 clear h
 by_cases c2 : a0 ≥ 48
 ·rw [if_pos c2] at H
  have c2b0 : decide (48 ≤ a0) = true := decide_eq_true c2
  clear c2
  obtain rfl := Option.some.inj H
  go_enter Tryd.func72, Tryd.ntmps72
  go_wp2
  go_ret
  exact ⟨by first | rfl | (simp; done) | (simp [*]; done), by repeat (first | exact Drawn0.refl _ | apply Drawn0.step)⟩
 ·rw [if_neg c2] at H
  have c2b0 : decide (48 ≤ a0) = false := decide_eq_false c2
  clear c2
  obtain rfl := Option.some.inj H
  go_enter Tryd.func72, Tryd.ntmps72
  go_wp2
  go_ret
  exact ⟨by first | rfl | (simp; done) | (simp [*]; done), by repeat (first | exact Drawn0.refl _ | apply Drawn0.step)⟩

end Go.Proofs.YtknbfhhmjbnemaaDoor.P
end
section
namespace Go.Proofs.YtknbfhhmjbnemaaDoor.P
open Go.RowKit Go.Proofs.YtknbfhhmjbnemaaDoorW.PrintWords Go.Proofs.YtknbfhhmjbnemaaDoorW.PrintLast Go.Proofs.YtknbfhhmjbnemaaDoorW.PrintMore
attribute [local go_sem] xBh xBp

/-! ### xBq: function 87 -/
def xBq.f (a0 : Int) : Option (Bool) := (xAs.f a0).bind fun t208 => (if t208 = true then (some true) else (if a0 ≥ 97 then (some (decide (a0 ≤ 102))) else (some false)))
set_option maxHeartbeats 8000000 in
set_option maxRecDepth 100000 in
theorem xBq.calls (a0 : Int) (r : Bool) (w : World) (h : xBq.f a0 = some r) :
  Calls Tryd.prog 87 #[.int .u8 a0] w fun e w' => e = .returned (.bool r) ∧ Drawn0 w w' := by
 have H : ((xAs.f a0).bind fun t208 => (if t208 = true then (some true) else (if a0 ≥ 97 then (some (decide (a0 ≤ 102))) else (some false)))) = some r := h
 clear h
 replace H := Option.bind_eq_some_iff.mp H
 obtain ⟨t208, A20, H⟩ := H
 replace H : (if t208 = true then (some true) else (if a0 ≥ 97 then (some (decide (a0 ≤ 102))) else (some false))) = some r := H
 have A2 := Aside0.mk A20
 clear A20
 by_cases c3 : t208 = true
 ·subst c3
  have H1 : (some true) = some r := by rw [if_pos rfl] at H; exact H
  clear H
  have H := H1
  clear H1
  obtain rfl := Option.some.inj H
  go_enter Tryd.func87, Tryd.ntmps87
  go_wp2_with (first | ((with_reducible refine xAo (f := 72) rfl ?_); refine xBo (some 4) rfl rfl Tryd.func72 (by kernel_rfl) rfl #[.int .u8 a0] rfl (by (try simp only [List.map_toArray, List.map_cons, List.map_nil]); first | done | rfl | (simp only [List.length_drop, List.length_take]; rfl)) ?_; (with_reducible refine (xAs.calls a0 true _ A2.out).mono ?_); rintro e w' ⟨rfl, ⟨nd, rfl⟩⟩; refine ⟨_, rfl, ?_⟩))
  go_ret
  exact ⟨by first | rfl | (simp; done) | (simp [*]; done), by repeat (first | exact Drawn0.refl _ | apply Drawn0.step)⟩
 ·replace c3 := Bool.eq_false_iff.mpr c3
  subst c3
  have H1 : (if a0 ≥ 97 then (some (decide (a0 ≤ 102))) else (some false)) = some r := by rw [if_neg (show ¬ (false = true) by decide)] at H; exact H
  clear H
  have H := H1
  clear H1
  by_cases c4 : a0 ≥ 97
  ·rw [if_pos c4] at H
   have c4b0 : decide (97 ≤ a0) = true := decide_eq_true c4
   clear c4
   obtain rfl := Option.some.inj H
   go_enter Tryd.func87, Tryd.ntmps87
   go_wp2_with (first | ((with_reducible refine xAo (f := 72) rfl ?_); refine xBo (some 4) rfl rfl Tryd.func72 (by kernel_rfl) rfl #[.int .u8 a0] rfl (by (try simp only [List.map_toArray, List.map_cons, List.map_nil]); first | done | rfl | (simp only [List.length_drop, List.length_take]; rfl)) ?_; (with_reducible refine (xAs.calls a0 false _ A2.out).mono ?_); rintro e w' ⟨rfl, ⟨nd, rfl⟩⟩; refine ⟨_, rfl, ?_⟩))
   go_ret
   exact ⟨by first | rfl | (simp; done) | (simp [*]; done), by repeat (first | exact Drawn0.refl _ | apply Drawn0.step)⟩
  ·rw [if_neg c4] at H
   have c4b0 : decide (97 ≤ a0) = false := decide_eq_false c4
   clear c4
   obtain rfl := Option.some.inj H
   go_enter Tryd.func87, Tryd.ntmps87
   go_wp2_with (first | ((with_reducible refine xAo (f := 72) rfl ?_); refine xBo (some 4) rfl rfl Tryd.func72 (by kernel_rfl) rfl #[.int .u8 a0] rfl (by (try simp only [List.map_toArray, List.map_cons, List.map_nil]); first | done | rfl | (simp only [List.length_drop, List.length_take]; rfl)) ?_; (with_reducible refine (xAs.calls a0 false _ A2.out).mono ?_); rintro e w' ⟨rfl, ⟨nd, rfl⟩⟩; refine ⟨_, rfl, ?_⟩))
   go_ret
   exact ⟨by first | rfl | (simp; done) | (simp [*]; done), by repeat (first | exact Drawn0.refl _ | apply Drawn0.step)⟩

end Go.Proofs.YtknbfhhmjbnemaaDoor.P
end
section
namespace Go.Proofs.YtknbfhhmjbnemaaDoor.P
open Go.RowKit Go.Proofs.YtknbfhhmjbnemaaDoorW.PrintWords Go.Proofs.YtknbfhhmjbnemaaDoorW.PrintLast Go.Proofs.YtknbfhhmjbnemaaDoorW.PrintMore
attribute [local go_sem] xBh xBp

/-! ### xBn: function 86 -/
def xBn.f (a0 : Int) : Option (Bool) := (xB5.f a0).bind fun t206 => (if t206 = true then (some true) else ((xAs.f a0).bind fun t207 => (if t207 = true then (some true) else (some (a0 == 95)))))
set_option maxHeartbeats 8000000 in
set_option maxRecDepth 100000 in
theorem xBn.calls (a0 : Int) (r : Bool) (w : World) (h : xBn.f a0 = some r) :
  Calls Tryd.prog 86 #[.int .u8 a0] w fun e w' => e = .returned (.bool r) ∧ Drawn0 w w' := by
 have H : ((xB5.f a0).bind fun t206 => (if t206 = true then (some true) else ((xAs.f a0).bind fun t207 => (if t207 = true then (some true) else (some (a0 == 95)))))) = some r := h
 clear h
 replace H := Option.bind_eq_some_iff.mp H
 obtain ⟨t206, A20, H⟩ := H
 replace H : (if t206 = true then (some true) else ((xAs.f a0).bind fun t207 => (if t207 = true then (some true) else (some (a0 == 95))))) = some r := H
 have A2 := Aside0.mk A20
 clear A20
 by_cases c3 : t206 = true
 ·subst c3
  have H1 : (some true) = some r := by rw [if_pos rfl] at H; exact H
  clear H
  have H := H1
  clear H1
  obtain rfl := Option.some.inj H
  go_enter Tryd.func86, Tryd.ntmps86
  go_wp2_with (first | ((with_reducible refine xAo (f := 71) rfl ?_); refine xBo (some 4) rfl rfl Tryd.func71 (by kernel_rfl) rfl #[.int .u8 a0] rfl (by (try simp only [List.map_toArray, List.map_cons, List.map_nil]); first | done | rfl | (simp only [List.length_drop, List.length_take]; rfl)) ?_; (with_reducible refine (xB5.calls a0 true _ A2.out).mono ?_); rintro e w' ⟨rfl, ⟨nd, rfl⟩⟩; refine ⟨_, rfl, ?_⟩))
  go_ret
  exact ⟨by first | rfl | (simp; done) | (simp [*]; done), by repeat (first | exact Drawn0.refl _ | apply Drawn0.step)⟩
 ·replace c3 := Bool.eq_false_iff.mpr c3
  subst c3
  have H1 : ((xAs.f a0).bind fun t207 => (if t207 = true then (some true) else (some (a0 == 95)))) = some r := by rw [if_neg (show ¬ (false = true) by decide)] at H; exact H
  clear H
  have H := H1
  clear H1
  replace H := Option.bind_eq_some_iff.mp H
  obtain ⟨t207, A40, H⟩ := H
  replace H : (if t207 = true then (some true) else (some (a0 == 95))) = some r := H
  have A4 := Aside0.mk A40
  clear A40
  by_cases c5 : t207 = true
  ·subst c5
   have H1 : (some true) = some r := by rw [if_pos rfl] at H; exact H
   clear H
   have H := H1
   clear H1
   obtain rfl := Option.some.inj H
   go_enter Tryd.func86, Tryd.ntmps86
   go_wp2_with (first | ((with_reducible refine xAo (f := 71) rfl ?_); refine xBo (some 4) rfl rfl Tryd.func71 (by kernel_rfl) rfl #[.int .u8 a0] rfl (by (try simp only [List.map_toArray, List.map_cons, List.map_nil]); first | done | rfl | (simp only [List.length_drop, List.length_take]; rfl)) ?_; (with_reducible refine (xB5.calls a0 false _ A2.out).mono ?_); rintro e w' ⟨rfl, ⟨nd, rfl⟩⟩; refine ⟨_, rfl, ?_⟩) | (go_at_call 72; (with_reducible refine (xAs.calls a0 true _ A4.out).mono ?_); rintro e w' ⟨rfl, ⟨nd, rfl⟩⟩))
   go_ret
   exact ⟨by first | rfl | (simp; done) | (simp [*]; done), by repeat (first | exact Drawn0.refl _ | apply Drawn0.step)⟩
  ·replace c5 := Bool.eq_false_iff.mpr c5
   subst c5
   have H1 : (some (a0 == 95)) = some r := by rw [if_neg (show ¬ (false = true) by decide)] at H; exact H
   clear H
   have H := H1
   clear H1
   obtain rfl := Option.some.inj H
   go_enter Tryd.func86, Tryd.ntmps86
   go_wp2_with (first | ((with_reducible refine xAo (f := 71) rfl ?_); refine xBo (some 4) rfl rfl Tryd.func71 (by kernel_rfl) rfl #[.int .u8 a0] rfl (by (try simp only [List.map_toArray, List.map_cons, List.map_nil]); first | done | rfl | (simp only [List.length_drop, List.length_take]; rfl)) ?_; (with_reducible refine (xB5.calls a0 false _ A2.out).mono ?_); rintro e w' ⟨rfl, ⟨nd, rfl⟩⟩; refine ⟨_, rfl, ?_⟩) | (go_at_call 72; (with_reducible refine (xAs.calls a0 false _ A4.out).mono ?_); rintro e w' ⟨rfl, ⟨nd, rfl⟩⟩))
   go_ret
   exact ⟨by first | rfl | (simp; done) | (simp [*]; done), by repeat (first | exact Drawn0.refl _ | apply Drawn0.step)⟩

end Go.Proofs.YtknbfhhmjbnemaaDoor.P
end
section
namespace Go.Proofs.YtknbfhhmjbnemaaDoor.P
open Go.RowKit Go.Proofs.YtknbfhhmjbnemaaDoorW.PrintWords Go.Proofs.YtknbfhhmjbnemaaDoorW.PrintLast Go.Proofs.YtknbfhhmjbnemaaDoorW.PrintMore
attribute [local go_sem] xBh xBp

/-! ### xAf: function 73 -/
mutual
def xAf.l0 : Nat → ByteArray → Int → Int → Bool → Option (Int)
 | 0, _, _, _, _ => none
 | k + 1, x0, x1, x2, x7 => if x1 < (x0.size : Int) then (xAf.j1 k x0 x1 x2 x7) else (xAf.j1 k x0 x1 x2 false)
def xAf.j1 : Nat → ByteArray → Int → Int → Bool → Option (Int)
 | 0, _, _, _, _ => none
 | k + 1, x0, x1, x2, x14 => if x14 = true then (if x2 = 0 then (if 0 ≤ x1 then (if x1 < (x0.size : Int) then ((xBn.f (bt x0 x1)).bind fun t209 => (if t209 = true then (xAf.l0 k x0 (wrap64 (x1 + 1)) x2 t209) else (xAf.l0 k x0 x1 x2 t209))) else (none)) else (none)) else (if x2 = 1 then (if 0 ≤ x1 then (if x1 < (x0.size : Int) then ((xAs.f (bt x0 x1)).bind fun t210 => (if t210 = true then (xAf.l0 k x0 (wrap64 (x1 + 1)) x2 t210) else (xAf.l0 k x0 x1 x2 t210))) else (none)) else (none)) else (if 0 ≤ x1 then (if x1 < (x0.size : Int) then ((xBq.f (bt x0 x1)).bind fun t211 => (if t211 = true then (xAf.l0 k x0 (wrap64 (x1 + 1)) x2 t211) else (xAf.l0 k x0 x1 x2 t211))) else (none)) else (none)))) else (some x1)
end
def xAf.f (k : Nat) (a0 : ByteArray) (a1 : Int) (a2 : Int) : Option (Int) := xAf.l0 k a0 a1 a2 true
set_option maxHeartbeats 8000000 in
set_option maxRecDepth 100000 in
theorem xAf.calls (k : Nat) (a0 : ByteArray) (a1 : Int) (a2 : Int) (r : Int) (w : World) (h : xAf.f k a0 a1 a2 = some r) :
  Calls Tryd.prog 73 #[.string a0, .int .i64 a1, .int .i64 a2] w fun e w' => e = .returned (.int .i64 r) ∧ Drawn0 w w' := by
 have H : (xAf.l0 k a0 a1 a2 true) = some r := h
 clear h
 have H' := Aside0.mk H
 clear H
 go_enter Tryd.func73, Tryd.ntmps73
 go_wp2
 go_loopg [1, 7] k (fun kq v1 v7 w' => ∃ (x1_1 : Int) (x7_1 : Bool), v1 = .int .i64 x1_1 ∧ v7 = .bool x7_1 ∧ Aside0 (xAf.l0 kq a0 x1_1 a2 x7_1 = some r) ∧ Aside0 (kq ≤ k) ∧ Drawn0 w w')
 case atStart => exact ⟨(a1), (true), (by first | rfl | (simp; done) | (simp [*]; done)), (by first | rfl | (simp; done) | (simp [*]; done)), H', ⟨Nat.le_refl _⟩, by repeat (first | exact Drawn0.refl _ | apply Drawn0.step)⟩
 case round =>
  clear H'
  try clear p2
  obtain ⟨x1_1, x7_1, rfl, rfl, HA, HK1, ⟨m1, rfl⟩⟩ := hrel
  cases gk with
  | zero => exact absurd HA.out (by simp [xAf.l0])
  | succ k1 =>
   have H := HA.out
   clear HA
   simp only [xAf.l0] at H
   have HC4 := Aside0.mk H
   clear H
   go_upto_region 2 with (fail)
   go_cut [14] (fun v14 wc => ∃ (kq : Nat) (x14_3 : Bool), v14 = .bool x14_3 ∧ Aside0 (xAf.j1 kq a0 x1_1 a2 x14_3 = some r) ∧ Aside0 (kq ≤ k1) ∧ Drawn0 w wc)
   case first =>
    have H := HC4.out
    clear HC4
    by_cases c5 : x1_1 < (a0.size : Int)
    ·rw [if_pos c5] at H
     have c5b0 : decide (x1_1 < (a0.size : Int)) = true := decide_eq_true c5
     clear c5
     (first | rw [c5b0] | (simp only [xB1, xB2]; rw [c5b0]) | skip)
     have H' := Aside0.mk H
     clear H
     go_wp2
     go_meet
     case rel => exact ⟨_, (x7_1), (by first | rfl | (simp; done) | (simp [*]; done)), H', ⟨by have := HK1.out; first | omega | exact Nat.le_refl _⟩, by repeat (first | exact Drawn0.refl _ | apply Drawn0.step)⟩
    ·rw [if_neg c5] at H
     have c5b0 : decide (x1_1 < (a0.size : Int)) = false := decide_eq_false c5
     clear c5
     (first | rw [c5b0] | (simp only [xB1, xB2]; rw [c5b0]) | skip)
     have H' := Aside0.mk H
     clear H
     go_wp2
     go_meet
     case rel => exact ⟨_, (false), (by first | rfl | (simp; done) | (simp [*]; done)), H', ⟨by have := HK1.out; first | omega | exact Nat.le_refl _⟩, by repeat (first | exact Drawn0.refl _ | apply Drawn0.step)⟩
   case rest =>
    clear HC4
    try clear p2
    try clear c5
    try clear c5b0
    try clear p2
    obtain ⟨kq, x14_3, rfl, HA, HJ3, ⟨mc3, rfl⟩⟩ := hcut
    cases kq with
    | zero => exact absurd HA.out (by simp [xAf.j1])
    | succ kj3 =>
     have H := HA.out
     clear HA
     simp only [xAf.j1] at H
     by_cases c6 : x14_3 = true
     ·subst c6
      have H1 : (if a2 = 0 then (if 0 ≤ x1_1 then (if x1_1 < (a0.size : Int) then ((xBn.f (bt a0 x1_1)).bind fun t209 => (if t209 = true then (xAf.l0 kj3 a0 (wrap64 (x1_1 + 1)) a2 t209) else (xAf.l0 kj3 a0 x1_1 a2 t209))) else (none)) else (none)) else (if a2 = 1 then (if 0 ≤ x1_1 then (if x1_1 < (a0.size : Int) then ((xAs.f (bt a0 x1_1)).bind fun t210 => (if t210 = true then (xAf.l0 kj3 a0 (wrap64 (x1_1 + 1)) a2 t210) else (xAf.l0 kj3 a0 x1_1 a2 t210))) else (none)) else (none)) else (if 0 ≤ x1_1 then (if x1_1 < (a0.size : Int) then ((xBq.f (bt a0 x1_1)).bind fun t211 => (if t211 = true then (xAf.l0 kj3 a0 (wrap64 (x1_1 + 1)) a2 t211) else (xAf.l0 kj3 a0 x1_1 a2 t211))) else (none)) else (none)))) = some r := by rw [if_pos rfl] at H; exact H
      clear H
      have H := H1
      clear H1
      by_cases c7 : a2 = 0
      ·rw [if_pos c7] at H
       have c7b0 : (a2 == 0) = true := beq_iff_eq.mpr c7
       have c7b1 : (a2 != 0) = false := bne_eq_false_iff_eq.mpr c7
       clear c7
       by_cases c8 : 0 ≤ x1_1
       ·rw [if_pos c8] at H
        have c8b0 : decide (0 ≤ x1_1) = true := decide_eq_true c8
        clear c8
        by_cases c9 : x1_1 < (a0.size : Int)
        ·rw [if_pos c9] at H
         have c9b0 : decide (x1_1 < (a0.size : Int)) = true := decide_eq_true c9
         clear c9
         replace H := Option.bind_eq_some_iff.mp H
         obtain ⟨t209, A110, H⟩ := H
         replace H : (if t209 = true then (xAf.l0 kj3 a0 (wrap64 (x1_1 + 1)) a2 t209) else (xAf.l0 kj3 a0 x1_1 a2 t209)) = some r := H
         have A11 := Aside0.mk A110
         clear A110
         by_cases c12 : t209 = true
         ·subst c12
          have H1 : (xAf.l0 kj3 a0 (wrap64 (x1_1 + 1)) a2 true) = some r := by rw [if_pos rfl] at H; exact H
          clear H
          have H := H1
          clear H1
          have H' := Aside0.mk H
          clear H
          have p10 : 0 ≤ (x1_1 : Int) := of_decide_eq_true (by first | (with_reducible assumption) | assumption)
          have q10 : x1_1 < (a0.size : Int) := of_decide_eq_true (by first | (with_reducible assumption) | assumption)
          have hx10 := xD7 a0 x1_1
          replace p10 := eq_true p10
          replace q10 := eq_true q10
          go_wp2_with (first | ((with_reducible refine xAo (f := 86) rfl ?_); refine xBo (some 25) rfl rfl Tryd.func86 (by kernel_rfl) rfl #[.int .u8 (bt a0 x1_1)] rfl (by (try simp only [List.map_toArray, List.map_cons, List.map_nil]); first | done | rfl | (simp only [List.length_drop, List.length_take]; rfl)) ?_; (with_reducible refine (xBn.calls (bt a0 x1_1) true _ A11.out).mono ?_); rintro e w' ⟨rfl, ⟨nd, rfl⟩⟩; refine ⟨_, rfl, ?_⟩))
          go_roundg kj3
          case measure => have := HK1.out; have := HJ3.out; omega
          case rel => exact ⟨(wrap64 (x1_1 + 1)), (true), (by first | rfl | (simp; done) | (simp [*]; done)), (by first | rfl | (simp; done) | (simp [*]; done)), H', ⟨by have := HK1.out; have := HJ3.out; omega⟩, by repeat (first | exact Drawn0.refl _ | apply Drawn0.step)⟩
         ·replace c12 := Bool.eq_false_iff.mpr c12
          subst c12
          have H1 : (xAf.l0 kj3 a0 x1_1 a2 false) = some r := by rw [if_neg (show ¬ (false = true) by decide)] at H; exact H
          clear H
          have H := H1
          clear H1
          have H' := Aside0.mk H
          clear H
          have p10 : 0 ≤ (x1_1 : Int) := of_decide_eq_true (by first | (with_reducible assumption) | assumption)
          have q10 : x1_1 < (a0.size : Int) := of_decide_eq_true (by first | (with_reducible assumption) | assumption)
          have hx10 := xD7 a0 x1_1
          replace p10 := eq_true p10
          replace q10 := eq_true q10
          go_wp2_with (first | ((with_reducible refine xAo (f := 86) rfl ?_); refine xBo (some 25) rfl rfl Tryd.func86 (by kernel_rfl) rfl #[.int .u8 (bt a0 x1_1)] rfl (by (try simp only [List.map_toArray, List.map_cons, List.map_nil]); first | done | rfl | (simp only [List.length_drop, List.length_take]; rfl)) ?_; (with_reducible refine (xBn.calls (bt a0 x1_1) false _ A11.out).mono ?_); rintro e w' ⟨rfl, ⟨nd, rfl⟩⟩; refine ⟨_, rfl, ?_⟩))
          go_roundg kj3
          case measure => have := HK1.out; have := HJ3.out; omega
          case rel => exact ⟨(x1_1), (false), (by first | rfl | (simp; done) | (simp [*]; done)), (by first | rfl | (simp; done) | (simp [*]; done)), H', ⟨by have := HK1.out; have := HJ3.out; omega⟩, by repeat (first | exact Drawn0.refl _ | apply Drawn0.step)⟩
        ·rw [if_neg c9] at H
         exact absurd H (by simp)
       ·rw [if_neg c8] at H
        exact absurd H (by simp)
      ·rw [if_neg c7] at H
       have c7b0 : (a2 == 0) = false := beq_eq_false_iff_ne.mpr c7
       have c7b1 : (a2 != 0) = true := bne_iff_ne.mpr c7
       by_cases c13 : a2 = 1
       ·rw [if_pos c13] at H
        have c13b0 : (a2 == 1) = true := beq_iff_eq.mpr c13
        have c13b1 : (a2 != 1) = false := bne_eq_false_iff_eq.mpr c13
        clear c13
        by_cases c14 : 0 ≤ x1_1
        ·rw [if_pos c14] at H
         have c14b0 : decide (0 ≤ x1_1) = true := decide_eq_true c14
         clear c14
         by_cases c15 : x1_1 < (a0.size : Int)
         ·rw [if_pos c15] at H
          have c15b0 : decide (x1_1 < (a0.size : Int)) = true := decide_eq_true c15
          clear c15
          replace H := Option.bind_eq_some_iff.mp H
          obtain ⟨t210, A170, H⟩ := H
          replace H : (if t210 = true then (xAf.l0 kj3 a0 (wrap64 (x1_1 + 1)) a2 t210) else (xAf.l0 kj3 a0 x1_1 a2 t210)) = some r := H
          have A17 := Aside0.mk A170
          clear A170
          by_cases c18 : t210 = true
          ·subst c18
           have H1 : (xAf.l0 kj3 a0 (wrap64 (x1_1 + 1)) a2 true) = some r := by rw [if_pos rfl] at H; exact H
           clear H
           have H := H1
           clear H1
           have H' := Aside0.mk H
           clear H
           have p16 : 0 ≤ (x1_1 : Int) := of_decide_eq_true (by first | (with_reducible assumption) | assumption)
           have q16 : x1_1 < (a0.size : Int) := of_decide_eq_true (by first | (with_reducible assumption) | assumption)
           have hx16 := xD7 a0 x1_1
           replace p16 := eq_true p16
           replace q16 := eq_true q16
           go_wp2_with (first | ((with_reducible refine xAo (f := 72) rfl ?_); refine xBo (some 31) rfl rfl Tryd.func72 (by kernel_rfl) rfl #[.int .u8 (bt a0 x1_1)] rfl (by (try simp only [List.map_toArray, List.map_cons, List.map_nil]); first | done | rfl | (simp only [List.length_drop, List.length_take]; rfl)) ?_; (with_reducible refine (xAs.calls (bt a0 x1_1) true _ A17.out).mono ?_); rintro e w' ⟨rfl, ⟨nd, rfl⟩⟩; refine ⟨_, rfl, ?_⟩))
           go_roundg kj3
           case measure => have := HK1.out; have := HJ3.out; omega
           case rel => exact ⟨(wrap64 (x1_1 + 1)), (true), (by first | rfl | (simp; done) | (simp [*]; done)), (by first | rfl | (simp; done) | (simp [*]; done)), H', ⟨by have := HK1.out; have := HJ3.out; omega⟩, by repeat (first | exact Drawn0.refl _ | apply Drawn0.step)⟩
          ·replace c18 := Bool.eq_false_iff.mpr c18
           subst c18
           have H1 : (xAf.l0 kj3 a0 x1_1 a2 false) = some r := by rw [if_neg (show ¬ (false = true) by decide)] at H; exact H
           clear H
           have H := H1
           clear H1
           have H' := Aside0.mk H
           clear H
           have p16 : 0 ≤ (x1_1 : Int) := of_decide_eq_true (by first | (with_reducible assumption) | assumption)
           have q16 : x1_1 < (a0.size : Int) := of_decide_eq_true (by first | (with_reducible assumption) | assumption)
           have hx16 := xD7 a0 x1_1
           replace p16 := eq_true p16
           replace q16 := eq_true q16
           go_wp2_with (first | ((with_reducible refine xAo (f := 72) rfl ?_); refine xBo (some 31) rfl rfl Tryd.func72 (by kernel_rfl) rfl #[.int .u8 (bt a0 x1_1)] rfl (by (try simp only [List.map_toArray, List.map_cons, List.map_nil]); first | done | rfl | (simp only [List.length_drop, List.length_take]; rfl)) ?_; (with_reducible refine (xAs.calls (bt a0 x1_1) false _ A17.out).mono ?_); rintro e w' ⟨rfl, ⟨nd, rfl⟩⟩; refine ⟨_, rfl, ?_⟩))
           go_roundg kj3
           case measure => have := HK1.out; have := HJ3.out; omega
           case rel => exact ⟨(x1_1), (false), (by first | rfl | (simp; done) | (simp [*]; done)), (by first | rfl | (simp; done) | (simp [*]; done)), H', ⟨by have := HK1.out; have := HJ3.out; omega⟩, by repeat (first | exact Drawn0.refl _ | apply Drawn0.step)⟩
         ·rw [if_neg c15] at H
          exact absurd H (by simp)
        ·rw [if_neg c14] at H
         exact absurd H (by simp)
       ·rw [if_neg c13] at H
        have c13b0 : (a2 == 1) = false := beq_eq_false_iff_ne.mpr c13
        have c13b1 : (a2 != 1) = true := bne_iff_ne.mpr c13
        by_cases c19 : 0 ≤ x1_1
        ·rw [if_pos c19] at H
         have c19b0 : decide (0 ≤ x1_1) = true := decide_eq_true c19
         clear c19
         by_cases c20 : x1_1 < (a0.size : Int)
         ·rw [if_pos c20] at H
          have c20b0 : decide (x1_1 < (a0.size : Int)) = true := decide_eq_true c20
          clear c20
          replace H := Option.bind_eq_some_iff.mp H
          obtain ⟨t211, A220, H⟩ := H
          replace H : (if t211 = true then (xAf.l0 kj3 a0 (wrap64 (x1_1 + 1)) a2 t211) else (xAf.l0 kj3 a0 x1_1 a2 t211)) = some r := H
          have A22 := Aside0.mk A220
          clear A220
          by_cases c23 : t211 = true
          ·subst c23
           have H1 : (xAf.l0 kj3 a0 (wrap64 (x1_1 + 1)) a2 true) = some r := by rw [if_pos rfl] at H; exact H
           clear H
           have H := H1
           clear H1
           have H' := Aside0.mk H
           clear H
           have p21 : 0 ≤ (x1_1 : Int) := of_decide_eq_true (by first | (with_reducible assumption) | assumption)
           have q21 : x1_1 < (a0.size : Int) := of_decide_eq_true (by first | (with_reducible assumption) | assumption)
           have hx21 := xD7 a0 x1_1
           replace p21 := eq_true p21
           replace q21 := eq_true q21
           go_wp2_with (first | ((with_reducible refine xAo (f := 87) rfl ?_); refine xBo (some 19) rfl rfl Tryd.func87 (by kernel_rfl) rfl #[.int .u8 (bt a0 x1_1)] rfl (by (try simp only [List.map_toArray, List.map_cons, List.map_nil]); first | done | rfl | (simp only [List.length_drop, List.length_take]; rfl)) ?_; (with_reducible refine (xBq.calls (bt a0 x1_1) true _ A22.out).mono ?_); rintro e w' ⟨rfl, ⟨nd, rfl⟩⟩; refine ⟨_, rfl, ?_⟩))
           go_roundg kj3
           case measure => have := HK1.out; have := HJ3.out; omega
           case rel => exact ⟨(wrap64 (x1_1 + 1)), (true), (by first | rfl | (simp; done) | (simp [*]; done)), (by first | rfl | (simp; done) | (simp [*]; done)), H', ⟨by have := HK1.out; have := HJ3.out; omega⟩, by repeat (first | exact Drawn0.refl _ | apply Drawn0.step)⟩
          ·replace c23 := Bool.eq_false_iff.mpr c23
           subst c23
           have H1 : (xAf.l0 kj3 a0 x1_1 a2 false) = some r := by rw [if_neg (show ¬ (false = true) by decide)] at H; exact H
           clear H
           have H := H1
           clear H1
           have H' := Aside0.mk H
           clear H
           have p21 : 0 ≤ (x1_1 : Int) := of_decide_eq_true (by first | (with_reducible assumption) | assumption)
           have q21 : x1_1 < (a0.size : Int) := of_decide_eq_true (by first | (with_reducible assumption) | assumption)
           have hx21 := xD7 a0 x1_1
           replace p21 := eq_true p21
           replace q21 := eq_true q21
           go_wp2_with (first | ((with_reducible refine xAo (f := 87) rfl ?_); refine xBo (some 19) rfl rfl Tryd.func87 (by kernel_rfl) rfl #[.int .u8 (bt a0 x1_1)] rfl (by (try simp only [List.map_toArray, List.map_cons, List.map_nil]); first | done | rfl | (simp only [List.length_drop, List.length_take]; rfl)) ?_; (with_reducible refine (xBq.calls (bt a0 x1_1) false _ A22.out).mono ?_); rintro e w' ⟨rfl, ⟨nd, rfl⟩⟩; refine ⟨_, rfl, ?_⟩))
           go_roundg kj3
           case measure => have := HK1.out; have := HJ3.out; omega
           case rel => exact ⟨(x1_1), (false), (by first | rfl | (simp; done) | (simp [*]; done)), (by first | rfl | (simp; done) | (simp [*]; done)), H', ⟨by have := HK1.out; have := HJ3.out; omega⟩, by repeat (first | exact Drawn0.refl _ | apply Drawn0.step)⟩
         ·rw [if_neg c20] at H
          exact absurd H (by simp)
        ·rw [if_neg c19] at H
         exact absurd H (by simp)
     ·replace c6 := Bool.eq_false_iff.mpr c6
      subst c6
      have H1 : (some x1_1) = some r := by rw [if_neg (show ¬ (false = true) by decide)] at H; exact H
      clear H
      have H := H1
      clear H1
      obtain rfl := Option.some.inj H
      go_wp2
      go_ret
      exact ⟨by first | rfl | (simp; done) | (simp [*]; done), by repeat (first | exact Drawn0.refl _ | apply Drawn0.step)⟩

end Go.Proofs.YtknbfhhmjbnemaaDoor.P
end
section
namespace Go.Proofs.YtknbfhhmjbnemaaDoor.P
open Go.RowKit Go.Proofs.YtknbfhhmjbnemaaDoorW.PrintWords Go.Proofs.YtknbfhhmjbnemaaDoorW.PrintLast Go.Proofs.YtknbfhhmjbnemaaDoorW.PrintMore

/-! ref10's small functions, plainly -/
theorem xG6 (c : Int) : xB5.f c = some (xCd c) := by
 unfold xB5.f xCd
 by_cases h : c ≥ 97
 ·rw [if_pos h, decide_eq_true (show 97 ≤ c from h)]; simp
 ·rw [if_neg h, decide_eq_false (show ¬ 97 ≤ c from h)]; simp
theorem xFb (c : Int) : xAs.f c = some (xAv c) := by
 unfold xAs.f xAv
 by_cases h : c ≥ 48
 ·rw [if_pos h, decide_eq_true (show 48 ≤ c from h)]; simp
 ·rw [if_neg h, decide_eq_false (show ¬ 48 ≤ c from h)]; simp
theorem xLw (c : Int) : xBn.f c = some (xCe c) := by
 unfold xBn.f xCe
 rw [xG6, xFb]
 simp only [Option.bind_some]
 cases xCd c <;> cases xAv c <;> simp
theorem ref_hexy (c : Int) : xBq.f c = some (pHex c) := by
 unfold xBq.f pHex
 rw [xFb]
 simp only [Option.bind_some]
 cases xAv c
 ·by_cases h : c ≥ 97
  ·rw [if_neg (by decide), if_pos h, decide_eq_true (show 97 ≤ c from h)]; simp
  ·rw [if_neg (by decide), if_neg h, decide_eq_false (show ¬ 97 ≤ c from h)]; simp
 ·simp
def xI8 (kind : Int) : Int → Bool := if kind = 0 then xCe else if kind = 1 then xAv else pHex
theorem xK4 (s : ByteArray) (kind : Int) (hs : s.size ≤ 140737488351232) : ∀ (f k i : Nat), s.size - i = f → i ≤ s.size → 2 * f + 4 < k → xAf.l0 k s (i : Int) kind true = some ((xBc (xI8 kind) s f i : Nat) : Int)
 | 0, k, i, hf, hi, hk => by
  obtain ⟨k, rfl⟩ : ∃ m, k = m + 2 := ⟨k - 2, by omega⟩
  rw [xAf.l0, if_neg (by omega), xAf.j1, if_neg (by decide)]
  rfl
 | f + 1, k, i, hf, hi, hk => by
  obtain ⟨k, rfl⟩ : ∃ m, k = m + 4 := ⟨k - 4, by omega⟩
  have h1 : (i : Int) < (s.size : Int) := by omega
  have h2 : (0 : Int) ≤ (i : Int) := by omega
  have e0 : wrap64 ((i : Int) + 1) = ((i + 1 : Nat) : Int) := by unfold wrap64; omega
  have ih := xK4 s kind hs f (k + 2) (i + 1) (by omega) (by omega) (by omega)
  have hstop : ∀ t : Int, xAf.l0 (k + 2) s (i : Int) t false = some (i : Int) := fun t => by
   rw [xAf.l0, if_pos h1, xAf.j1, if_neg (by decide)]
  rw [xAf.l0, if_pos h1, xAf.j1, if_pos rfl]
  have hE : xBc (xI8 kind) s (f + 1) i = if xI8 kind (bt s (i : Int)) = true then xBc (xI8 kind) s f (i + 1) else i := by
   show (if i < s.size ∧ xI8 kind (bt s (i : Int)) = true then xBc (xI8 kind) s f (i + 1) else i) = _
   by_cases hp : xI8 kind (bt s (i : Int)) = true
   ·rw [if_pos ⟨by omega, hp⟩, if_pos hp]
   ·rw [if_neg (fun h => hp h.2), if_neg hp]
  rw [hE]
  unfold xI8 at ih ⊢
  by_cases k0 : kind = 0
  ·rw [if_pos k0] at ih ⊢
   rw [if_pos k0, if_pos h2, if_pos h1, xLw]
   simp only [Option.bind_some, e0]
   cases hp : xCe (bt s (i : Int))
   ·rw [if_neg (by decide), if_neg (by decide), hstop]
   ·rw [if_pos rfl, if_pos rfl, ih]
  ·rw [if_neg k0] at ih ⊢
   rw [if_neg k0]
   by_cases k1 : kind = 1
   ·rw [if_pos k1] at ih ⊢
    rw [if_pos k1, if_pos h2, if_pos h1, xFb]
    simp only [Option.bind_some, e0]
    cases hp : xAv (bt s (i : Int))
    ·rw [if_neg (by decide), if_neg (by decide), hstop]
    ·rw [if_pos rfl, if_pos rfl, ih]
   ·rw [if_neg k1] at ih ⊢
    rw [if_neg k1, if_pos h2, if_pos h1, ref_hexy]
    simp only [Option.bind_some, e0]
    cases hp : pHex (bt s (i : Int))
    ·rw [if_neg (by decide), if_neg (by decide), hstop]
    ·rw [if_pos rfl, if_pos rfl, ih]
theorem xJi (s : ByteArray) (kind : Int) (i : Nat) (hs : s.size ≤ 140737488351232) (hi : i ≤ s.size) : xAf.f (2 * s.size + 5) s (i : Int) kind = some ((xBc (xI8 kind) s (s.size - i) i : Nat) : Int) :=
 xK4 s kind hs (s.size - i) _ i rfl hi (by omega)
theorem xK5 (s : ByteArray) (i : Nat) (hi : i ≤ s.size) : xC2.f s (i : Int) = some (!xFw s i) := by
 unfold xC2.f xFw
 by_cases h : i < s.size
 ·rw [if_neg (by omega), if_pos (by omega), if_pos (by omega), xG6, decide_eq_true h]
  simp only [Option.bind_some]
  cases xCd (bt s (i : Int))
  ·simp [bne]
  ·simp
 ·rw [if_pos (by omega), decide_eq_false h]; simp
/-- The number of figures. -/
def xE5 (l : List Int) : Int := l.foldl (fun n b => 10 * n + (b - 48)) 0
theorem xJj (l : List Int) (b : Int) : xE5 (l ++ [b]) = 10 * xE5 l + (b - 48) := by
 unfold xE5; rw [List.foldl_append]; rfl
theorem xHn : ∀ (l : List Int) (n : Int), 0 ≤ n → (∀ x ∈ l, 48 ≤ x ∧ x ≤ 57) → 0 ≤ l.foldl (fun n b => 10 * n + (b - 48)) n ∧ l.foldl (fun n b => 10 * n + (b - 48)) n < (n + 1) * (10 : Int) ^ l.length
 | [], n, h0, _ => by simp; omega
 | b :: l, n, h0, h => by
  have h2 := h b (List.mem_cons_self ..)
  have ih := xHn l (10 * n + (b - 48)) (by omega) (fun x hx => h x (List.mem_cons_of_mem _ hx))
  rw [List.foldl_cons, List.length_cons, Int.pow_succ]
  refine ⟨ih.1, Int.lt_of_lt_of_le ih.2 ?_⟩
  have h3 : 10 * n + (b - 48) + 1 ≤ (n + 1) * 10 := by omega
  have h4 : (0 : Int) ≤ (10 : Int) ^ l.length := Int.le_of_lt (Int.pow_pos (by decide))
  calc (10 * n + (b - 48) + 1) * (10 : Int) ^ l.length ≤ ((n + 1) * 10) * (10 : Int) ^ l.length := Int.mul_le_mul_of_nonneg_right h3 h4
   _ = (n + 1) * ((10 : Int) ^ l.length * 10) := by rw [Int.mul_assoc, Int.mul_comm 10]
theorem xIt (l : List Int) (h : ∀ x ∈ l, 48 ≤ x ∧ x ≤ 57) : 0 ≤ xE5 l ∧ xE5 l < (10 : Int) ^ l.length := by
 have := xHn l 0 (Int.le_refl _) h
 unfold xE5
 omega
theorem pow10_le {l : List Int} (h : l.length ≤ 9) : (10 : Int) ^ l.length ≤ 1000000000 := by
 have h2 : ∀ n : Nat, n ≤ 9 → (10 : Int) ^ n ≤ 1000000000 := by decide
 exact h2 _ h
def xI6 (a0 : ByteArray) (a1 : Int) : Option (Int × ByteArray × Int × Int × Int × Int × Int) :=
 if 0 ≤ a1 ∧ a1 < (a0.size : Int) ∧ a0.size ≤ 140737488351232 then
  if xCd (bt a0 a1) = true then
   if a1.toNat + 16 < xBc xCe a0 (a0.size - a1.toNat) a1.toNat then some (0, ⟨#[]⟩, 0, a1, (xBc xCe a0 (a0.size - a1.toNat) a1.toNat : Nat), 102, a1)
   else some (0, a0.extract a1.toNat (xBc xCe a0 (a0.size - a1.toNat) a1.toNat), 0, a1, (xBc xCe a0 (a0.size - a1.toNat) a1.toNat : Nat), 0, -1)
  else if xAv (bt a0 a1) = true then
   if a1.toNat + 9 < xBc xAv a0 (a0.size - a1.toNat) a1.toNat then some (0, ⟨#[]⟩, 0, a1, (xBc xAv a0 (a0.size - a1.toNat) a1.toNat : Nat), 102, a1)
   else if xFw a0 (xBc xAv a0 (a0.size - a1.toNat) a1.toNat) = true then some (0, ⟨#[]⟩, 0, a1, (xBc xAv a0 (a0.size - a1.toNat) a1.toNat : Nat), 101, (xBc xAv a0 (a0.size - a1.toNat) a1.toNat : Nat))
   else some (1, ⟨#[]⟩, xE5 (((xAj a0).drop a1.toNat).take (xBc xAv a0 (a0.size - a1.toNat) a1.toNat - a1.toNat)), a1, (xBc xAv a0 (a0.size - a1.toNat) a1.toNat : Nat), 0, -1)
  else if bt a0 a1 = 36 then
   if xBc pHex a0 (a0.size - (a1.toNat + 1)) (a1.toNat + 1) = a1.toNat + 1 then some (0, ⟨#[]⟩, 0, a1, (xBc pHex a0 (a0.size - (a1.toNat + 1)) (a1.toNat + 1) : Nat), 101, (xBc pHex a0 (a0.size - (a1.toNat + 1)) (a1.toNat + 1) : Nat))
   else if a1.toNat + 129 < xBc pHex a0 (a0.size - (a1.toNat + 1)) (a1.toNat + 1) then some (0, ⟨#[]⟩, 0, a1, (xBc pHex a0 (a0.size - (a1.toNat + 1)) (a1.toNat + 1) : Nat), 102, a1)
   else if xFw a0 (xBc pHex a0 (a0.size - (a1.toNat + 1)) (a1.toNat + 1)) = true then some (0, ⟨#[]⟩, 0, a1, (xBc pHex a0 (a0.size - (a1.toNat + 1)) (a1.toNat + 1) : Nat), 101, (xBc pHex a0 (a0.size - (a1.toNat + 1)) (a1.toNat + 1) : Nat))
   else some (2, a0.extract (a1.toNat + 1) (xBc pHex a0 (a0.size - (a1.toNat + 1)) (a1.toNat + 1)), 0, a1, (xBc pHex a0 (a0.size - (a1.toNat + 1)) (a1.toNat + 1) : Nat), 0, -1)
  else if bt a0 a1 = 40 ∨ bt a0 a1 = 41 ∨ bt a0 a1 = 44 ∨ bt a0 a1 = 61 ∨ bt a0 a1 = 59 then some (3, a0.extract a1.toNat (a1.toNat + 1), 0, a1, a1 + 1, 0, -1)
  else some (0, ⟨#[]⟩, 0, a1, a1, 101, a1)
 else none
theorem xLy (s : ByteArray) (i : Nat) (hs : s.size ≤ 140737488351232) (hi : i ≤ s.size) : xAf.f (2 * s.size + 5) s (i : Int) 0 = some ((xBc xCe s (s.size - i) i : Nat) : Int) := xJi s 0 i hs hi
theorem xM0 (s : ByteArray) (i : Nat) (hs : s.size ≤ 140737488351232) (hi : i ≤ s.size) : xAf.f (2 * s.size + 5) s (i : Int) 1 = some ((xBc xAv s (s.size - i) i : Nat) : Int) := xJi s 1 i hs hi
theorem xLz (s : ByteArray) (i : Nat) (hs : s.size ≤ 140737488351232) (hi : i ≤ s.size) : xAf.f (2 * s.size + 5) s (i : Int) 2 = some ((xBc pHex s (s.size - i) i : Nat) : Int) := xJi s 2 i hs hi
/-- Where ref10's one stands: the result's cells, the token's. -/
structure OnS (w W : World) (b4 b8 : Nat) (k : Int) (s : ByteArray) (n a : Int) : Prop where
 bel : Below w.heap.size w W
 r4 : W.heap[b4]? = some (.cells #[.int .i64 0, .string ⟨#[]⟩, .int .i64 0, .int .i64 0] 60 (0, 0))
 t8 : W.heap[b8]? = some (.cells #[.int .i64 k, .string s, .int .i64 n, .int .i64 a] 60 (0, 0))
 g4 : w.heap.size ≤ b4
 g8 : w.heap.size ≤ b8
 ne : b4 ≠ b8
section
variable {w W W1 : World} {b4 b8 : Nat} {k n a k' n' a' : Int} {s s' : ByteArray}
theorem OnS.below (h : OnS w W b4 b8 k s n a) (hb : Below W.heap.size W W1) : OnS w W1 b4 b8 k s n a := ⟨xBv h.bel h.bel.size hb, xAx h.r4 hb, xAx h.t8 hb, h.g4, h.g8, h.ne⟩
theorem OnS.drew (h : OnS w W b4 b8 k s n a) : OnS w W.drew b4 b8 k s n a := h.below (xCb (Below.refl _ _))
theorem OnS.call (h : OnS w W b4 b8 k s n a) (hd : Drawn0 W W1) : OnS w W1 b4 b8 k s n a := h.below hd.below
theorem OnS.set_ (h : OnS w W b4 b8 k s n a) (j : Nat) (u : Value) (hj : (#[.int .i64 k, .string s, .int .i64 n, .int .i64 a] : Array Value).setIfInBounds j u = #[.int .i64 k', .string s', .int .i64 n', .int .i64 a']) : OnS w (W.setCell ⟨b8, j, none⟩ u) b4 b8 k' s' n' a' :=
 ⟨h.bel.setCell h.g8 u, xAh (p := ⟨b8, j, none⟩) h.r4 h.ne _, xA1 h.t8 j u hj, h.g4, h.g8, h.ne⟩
end
end Go.Proofs.YtknbfhhmjbnemaaDoor.P
end
section
namespace Go.Proofs.YtknbfhhmjbnemaaDoor.P
open Go.RowKit Go.Proofs.YtknbfhhmjbnemaaDoorW.PrintWords Go.Proofs.YtknbfhhmjbnemaaDoorW.PrintLast Go.Proofs.YtknbfhhmjbnemaaDoorW.PrintMore
attribute [local go_sem] xBh xBp

/-! ### xC0: function 40 -/
-- IMPORTS Derived.Test.YtknbfhhmjbnemaaDoorRef10
def xC0.f (a0 : ByteArray) (a1 : Int) : Option (Int × ByteArray × Int × Int × Int × Int × Int) := xI6 a0 a1
set_option maxHeartbeats 16000000 in
set_option maxRecDepth 100000 in
theorem xC0.calls (a0 : ByteArray) (a1 : Int) (r1 : Int) (r2 : ByteArray) (r3 : Int) (r4 : Int) (r5 : Int) (r6 : Int) (r7 : Int) (w : World) (h : xC0.f a0 a1 = some (r1, r2, r3, r4, r5, r6, r7)) :
    Calls Tryd.prog 40 #[.string a0, .int .i64 a1] w fun e w' => e = .returned (.tuple #[.agg #[.int .i64 r1, .string r2, .int .i64 r3, .int .i64 r4], .int .i64 r5, .int .i64 r6, .int .i64 r7]) ∧ Below w.heap.size w w' := by
  have hu60 := Tryd.underlying60
  unfold xC0.f xI6 at h
  by_cases hc : 0 ≤ a1 ∧ a1 < (a0.size : Int) ∧ a0.size ≤ 140737488351232
  rw [if_pos hc] at h
  rotate_left 1
  · rw [if_neg hc] at h
    cases h
  obtain ⟨h0, h1, hs⟩ := hc
  obtain ⟨i, rfl⟩ : ∃ i : Nat, a1 = (i : Int) := ⟨a1.toNat, by omega⟩
  simp only [Int.toNat_natCast] at h
  have hi : i < a0.size := by omega
  have HS := Aside0.mk hs
  have HI := Aside0.mk hi
  have hb := xD7 a0 i (by simpa using hi)
  simp only [Int.toNat_natCast] at hb
  obtain ⟨c, hcc⟩ : ∃ c, c = bt a0 (i : Int) := ⟨_, rfl⟩
  rw [← hcc] at hb h
  have HCC := Aside0.mk hcc
  clear hcc
  have HR4 := Aside0.mk (xBj w (.cells #[.int .i64 0, .string (⟨#[]⟩ : ByteArray), .int .i64 0, .int .i64 0] 60))
  have HB4 := Aside0.mk (xA2 (Below.refl w.heap.size w) (.cells #[.int .i64 0, .string (⟨#[]⟩ : ByteArray), .int .i64 0, .int .i64 0] 60))
  go_enter Tryd.func40, Tryd.ntmps40
  go_upto_region 3 with (first | ((with_reducible refine xB0 (N := 8) rfl ?_); refine xB9 ?hg (N := 8) ?hd (cs := #[.int .i64 0, .string (⟨#[]⟩ : ByteArray), .int .i64 0, .int .i64 0]) (t := 60) ?hr ?_; (case hd => rfl); (case hg => rfl); (case hr => first | (go_simp; done) | (go_simp; rfl)); intro b8 hg w3 hbox hb8; have BX := Aside0.mk hb8; have NB := Aside0.mk hbox; have HG := Aside0.mk hg; obtain ⟨c0, c1, c2, c3, f0, f1, f2, f3⟩ := ex4 hbox; clear hb8 hbox hg))
  generalize hW : World.setCell (World.setCell (World.setCell (World.setCell w3 _ _) _ _) _ _) _ _ = W3
  have OS := Aside0.mk (show OnS w W3 w.heap.size b8 0 ⟨#[]⟩ 0 (i : Int) from by
      have hge : w.heap.size + 1 ≤ b8 := by have := HG.out; rw [World.size_alloc] at this; omega
      have o3 : OnS w w3 w.heap.size b8 0 ⟨#[]⟩ 0 0 := ⟨xBv HB4.out HB4.out.size BX.out, xAx HR4.out BX.out, NB.out, Nat.le_refl _, by omega, by omega⟩
      rw [← hW]; exact (((o3.set_ 0 (.int .i64 0) rfl).set_ 1 (.string ⟨#[]⟩) rfl).set_ 2 (.int .i64 0) rfl).set_ 3 (.int .i64 (i : Int)) rfl)
  clear hW BX NB HG c0 c1 c2 c3 f0 f1 f2 f3 HR4 HB4 hb
  go_upto_region 4 with (go_at_call 71; (with_reducible refine (xB5.calls c _ _ (xG6 c)).mono ?_); rintro e wq1 ⟨rfl, hd⟩; have OS1 := Aside0.mk (OS.out.call hd); clear hd)
  go_upto_region 5 with (go_at_call 72; (with_reducible refine (xAs.calls c _ _ (xFb c)).mono ?_); rintro e wq2 ⟨rfl, hd⟩; have OS2 := Aside0.mk (OS1.out.call hd); clear hd)
  cases hL : xCd c with
  | true =>
    rw [hL, if_pos rfl] at h
    have hE := xE7 xCe a0 (a0.size - i) (i) (by omega)
    have hEa := xEp xCe a0 (a0.size - i) (i)
    have HEN := Aside0.mk (xLy a0 i hs (by omega))
    generalize xBc xCe a0 (a0.size - i) i = e at *
    have q0 : (0 : Int) ≤ (i : Int) := by omega
    have q1 : (i : Int) ≤ 140737488351232 := by omega
    have q2 : (e : Int) ≤ 140737488351232 := by omega
    have q3 : (i : Int) ≤ (e : Int) := by omega
    have q4 : (e : Int) ≤ (a0.size : Int) := by omega
    clear hL
    go_upto_region 7 with (go_at_call 73; (with_reducible refine (xAf.calls _ a0 _ 0 _ _ HEN.out).mono ?_); rintro e wq3 ⟨rfl, hd⟩; have OS3 := Aside0.mk (OS2.out.call hd); clear hd)
    by_cases hl : i + 16 < e
    · skip
      rw [if_pos hl] at h
      simp only [Option.some.injEq, Prod.mk.injEq] at h
      obtain ⟨rfl, rfl, rfl, rfl, rfl, rfl, rfl⟩ := h
      have d1 : decide ((e : Int) - (i : Int) > 16) = true := decide_eq_true (by omega)
      have d2 : decide (16 < (e : Int) - (i : Int)) = true := decide_eq_true (by omega)
      obtain ⟨ht0, ht1, ht2, ht3⟩ := ey4 OS3.out.t8
      obtain ⟨hr0, hr1, hr2, hr3, hf0, hf1, hf2, hf3⟩ := ex4 OS3.out.r4
      go_wp2
      refine bodyPost_ret (xBl (rs := [.cell 4 60, .tmp 5, .tmp 6, .tmp 7]) rfl (by simp) (.cell w.heap.size 60 #[.int .i64 0, .string ⟨#[]⟩, .int .i64 0, .int .i64 (i : Int)] (0, 0) _ rfl (xA1 ((xA1 ((xA1 ((xA1 (OS3.out.r4) 0 (.int .i64 0) rfl)) 1 (.string ⟨#[]⟩) rfl)) 2 (.int .i64 0) rfl)) 3 (.int .i64 (i : Int)) rfl) Tryd.underlying60 rfl (by kernel_rfl) (.tmp (.tmp (.tmp .nil))))) rfl ?_
      exact ⟨by first | rfl | simp, ((((((((OS3.out.bel).setCell (p := ⟨w.heap.size, 0, none⟩) (Nat.le_refl _) (.int .i64 0))).setCell (p := ⟨w.heap.size, 1, none⟩) (Nat.le_refl _) (.string ⟨#[]⟩))).setCell (p := ⟨w.heap.size, 2, none⟩) (Nat.le_refl _) (.int .i64 0))).setCell (p := ⟨w.heap.size, 3, none⟩) (Nat.le_refl _) (.int .i64 (i : Int)))⟩
    · skip
      rw [if_neg hl] at h
      simp only [Option.some.injEq, Prod.mk.injEq] at h
      obtain ⟨rfl, rfl, rfl, rfl, rfl, rfl, rfl⟩ := h
      have d1 : decide ((e : Int) - (i : Int) > 16) = false := decide_eq_false (by omega)
      have d2 : decide (16 < (e : Int) - (i : Int)) = false := decide_eq_false (by omega)
      clear hl hE hEa
      obtain ⟨ht0, ht1, ht2, ht3, hg0, hg1, hg2, hg3⟩ := ex4 OS3.out.t8
      go_upto_region 10 with (fail)
      generalize hW : World.setCell wq3 _ _ = Ws4
      have OS4 := Aside0.mk (show OnS w Ws4 w.heap.size b8 0 (a0.extract i e) 0 (i : Int) from by rw [← hW]; exact OS3.out.set_ 1 (.string (a0.extract i e)) rfl)
      clear hW ht0 ht1 ht2 ht3 hg0 hg1 hg2 hg3
      obtain ⟨ht0, ht1, ht2, ht3⟩ := ey4 OS4.out.t8
      obtain ⟨hr0, hr1, hr2, hr3, hf0, hf1, hf2, hf3⟩ := ex4 OS4.out.r4
      go_wp2
      refine bodyPost_ret (xBl (rs := [.cell 4 60, .tmp 5, .tmp 6, .tmp 7]) rfl (by simp) (.cell w.heap.size 60 #[.int .i64 0, .string (a0.extract i e), .int .i64 0, .int .i64 (i : Int)] (0, 0) _ rfl (xA1 ((xA1 ((xA1 ((xA1 (OS4.out.r4) 0 (.int .i64 0) rfl)) 1 (.string (a0.extract i e)) rfl)) 2 (.int .i64 0) rfl)) 3 (.int .i64 (i : Int)) rfl) Tryd.underlying60 rfl (by kernel_rfl) (.tmp (.tmp (.tmp .nil))))) rfl ?_
      exact ⟨by first | rfl | simp, ((((((((OS4.out.bel).setCell (p := ⟨w.heap.size, 0, none⟩) (Nat.le_refl _) (.int .i64 0))).setCell (p := ⟨w.heap.size, 1, none⟩) (Nat.le_refl _) (.string (a0.extract i e)))).setCell (p := ⟨w.heap.size, 2, none⟩) (Nat.le_refl _) (.int .i64 0))).setCell (p := ⟨w.heap.size, 3, none⟩) (Nat.le_refl _) (.int .i64 (i : Int)))⟩
  | false =>
    rw [hL, if_neg (by decide)] at h
    clear hL
    cases hF : xAv c with
    | true =>
      rw [hF, if_pos rfl] at h
      have hE := xE7 xAv a0 (a0.size - i) (i) (by omega)
      have hEa := xEp xAv a0 (a0.size - i) (i)
      have HEN := Aside0.mk (xM0 a0 i hs (by omega))
      generalize xBc xAv a0 (a0.size - i) i = e at *
      have q0 : (0 : Int) ≤ (i : Int) := by omega
      have q1 : (i : Int) ≤ 140737488351232 := by omega
      have q2 : (e : Int) ≤ 140737488351232 := by omega
      have q3 : (i : Int) ≤ (e : Int) := by omega
      have q4 : (e : Int) ≤ (a0.size : Int) := by omega
      have HBA := Aside0.mk (xK5 a0 e (by omega))
      clear hF
      go_upto_region 13 with (go_at_call 73; (with_reducible refine (xAf.calls _ a0 _ 1 _ _ HEN.out).mono ?_); rintro e wq5 ⟨rfl, hd⟩; have OS5 := Aside0.mk (OS2.out.call hd); clear hd)
      go_upto_region 14 with (go_at_call 74; (with_reducible refine (xC2.calls a0 _ _ _ HBA.out).mono ?_); rintro e wq6 ⟨rfl, hd⟩; have OS6 := Aside0.mk (OS5.out.call hd); clear hd)
      by_cases hl : i + 9 < e
      · skip
        rw [if_pos hl] at h
        simp only [Option.some.injEq, Prod.mk.injEq] at h
        obtain ⟨rfl, rfl, rfl, rfl, rfl, rfl, rfl⟩ := h
        have d1 : decide ((e : Int) - (i : Int) > 9) = true := decide_eq_true (by omega)
        have d2 : decide (9 < (e : Int) - (i : Int)) = true := decide_eq_true (by omega)
        obtain ⟨ht0, ht1, ht2, ht3⟩ := ey4 OS6.out.t8
        obtain ⟨hr0, hr1, hr2, hr3, hf0, hf1, hf2, hf3⟩ := ex4 OS6.out.r4
        go_wp2
        refine bodyPost_ret (xBl (rs := [.cell 4 60, .tmp 5, .tmp 6, .tmp 7]) rfl (by simp) (.cell w.heap.size 60 #[.int .i64 0, .string ⟨#[]⟩, .int .i64 0, .int .i64 (i : Int)] (0, 0) _ rfl (xA1 ((xA1 ((xA1 ((xA1 (OS6.out.r4) 0 (.int .i64 0) rfl)) 1 (.string ⟨#[]⟩) rfl)) 2 (.int .i64 0) rfl)) 3 (.int .i64 (i : Int)) rfl) Tryd.underlying60 rfl (by kernel_rfl) (.tmp (.tmp (.tmp .nil))))) rfl ?_
        exact ⟨by first | rfl | simp, ((((((((OS6.out.bel).setCell (p := ⟨w.heap.size, 0, none⟩) (Nat.le_refl _) (.int .i64 0))).setCell (p := ⟨w.heap.size, 1, none⟩) (Nat.le_refl _) (.string ⟨#[]⟩))).setCell (p := ⟨w.heap.size, 2, none⟩) (Nat.le_refl _) (.int .i64 0))).setCell (p := ⟨w.heap.size, 3, none⟩) (Nat.le_refl _) (.int .i64 (i : Int)))⟩
      · skip
        rw [if_neg hl] at h
        have d1 : decide ((e : Int) - (i : Int) > 9) = false := decide_eq_false (by omega)
        have d2 : decide (9 < (e : Int) - (i : Int)) = false := decide_eq_false (by omega)
        cases hG : xFw a0 e with
        | true =>
          rw [hG, if_pos rfl] at h
          simp only [Option.some.injEq, Prod.mk.injEq] at h
          obtain ⟨rfl, rfl, rfl, rfl, rfl, rfl, rfl⟩ := h
          obtain ⟨ht0, ht1, ht2, ht3⟩ := ey4 OS6.out.t8
          obtain ⟨hr0, hr1, hr2, hr3, hf0, hf1, hf2, hf3⟩ := ex4 OS6.out.r4
          go_wp2
          refine bodyPost_ret (xBl (rs := [.cell 4 60, .tmp 5, .tmp 6, .tmp 7]) rfl (by simp) (.cell w.heap.size 60 #[.int .i64 0, .string ⟨#[]⟩, .int .i64 0, .int .i64 (i : Int)] (0, 0) _ rfl (xA1 ((xA1 ((xA1 ((xA1 (OS6.out.r4) 0 (.int .i64 0) rfl)) 1 (.string ⟨#[]⟩) rfl)) 2 (.int .i64 0) rfl)) 3 (.int .i64 (i : Int)) rfl) Tryd.underlying60 rfl (by kernel_rfl) (.tmp (.tmp (.tmp .nil))))) rfl ?_
          exact ⟨by first | rfl | simp, ((((((((OS6.out.bel).setCell (p := ⟨w.heap.size, 0, none⟩) (Nat.le_refl _) (.int .i64 0))).setCell (p := ⟨w.heap.size, 1, none⟩) (Nat.le_refl _) (.string ⟨#[]⟩))).setCell (p := ⟨w.heap.size, 2, none⟩) (Nat.le_refl _) (.int .i64 0))).setCell (p := ⟨w.heap.size, 3, none⟩) (Nat.le_refl _) (.int .i64 (i : Int)))⟩
        | false =>
          rw [hG, if_neg (by decide)] at h
          simp only [Option.some.injEq, Prod.mk.injEq] at h
          obtain ⟨rfl, rfl, rfl, rfl, rfl, rfl, rfl⟩ := h
          have HL9 := Aside0.mk hl
          have HEA := Aside0.mk hEa
          have HEE := Aside0.mk hE
          clear hG hl hEa hE
          obtain ⟨ht0, ht1, ht2, ht3, hg0, hg1, hg2, hg3⟩ := ex4 OS6.out.t8
          go_upto_region 19 with (fail)
          generalize hW : World.setCell wq6 _ _ = Ws7
          have OS7 := Aside0.mk (show OnS w Ws7 w.heap.size b8 1 ⟨#[]⟩ 0 (i : Int) from by rw [← hW]; exact OS6.out.set_ 0 (.int .i64 1) rfl)
          clear hW ht0 ht1 ht2 ht3 hg0 hg1 hg2 hg3
          go_upto_block 0 with (fail)
          go_wp2_with (fail)
          clear OS6 d1 d2
          go_loopg [15] (e - i) (fun kx v15 wr => ∃ p : Nat, i ≤ p ∧ p ≤ e ∧ e - p ≤ kx ∧ v15 = .int .i64 (p : Int) ∧ Aside0 (OnS w wr w.heap.size b8 1 ⟨#[]⟩ (xE5 (((xAj a0).drop i).take (p - i))) (i : Int)))
          case atStart => exact ⟨i, Nat.le_refl _, by omega, by omega, rfl, ⟨by rw [Nat.sub_self, List.take_zero]; exact OS7.out⟩⟩
          case round =>
            clear OS7
            obtain ⟨p, hp1, hp2, hg, rfl, OL⟩ := hrel
            by_cases hlt : p < e
            · skip
              have hd : decide ((p : Int) < (e : Int)) = true := decide_eq_true (by omega)
              have hfd := HEA.out p hp1 hlt
              have hsz := HS.out
              have hb := xD7 a0 p (by have := HEE.out; simpa using (show p < a0.size by omega))
              simp only [Int.toNat_natCast] at hb
              have hrn := xIt (((xAj a0).drop i).take (p - i)) (seg_fig a0 i p (by have := HEE.out; omega) (fun j hj1 hj2 => HEA.out j hj1 (by omega)))
              have hlen : (((xAj a0).drop i).take (p - i)).length ≤ 9 := by rw [List.length_take]; have := HL9.out; omega
              have hsn : xE5 (((xAj a0).drop i).take (p + 1 - i)) = 10 * xE5 (((xAj a0).drop i).take (p - i)) + (bt a0 (p : Int) - 48) := by rw [seg_snoc a0 i p hp1 (by have := HEE.out; omega), xJj]
              have hpw := pow10_le hlen
              generalize xE5 (((xAj a0).drop i).take (p - i)) = m at *
              have hfr : 48 ≤ bt a0 (p : Int) ∧ bt a0 (p : Int) ≤ 57 := by unfold xAv at hfd; simpa using hfd
              generalize hdd : bt a0 (p : Int) = d at *
              obtain ⟨hf1, hf2⟩ := hfr
              obtain ⟨hm1, hm2⟩ := hrn
              have hm3 : m ≤ 1000000000 := by omega
              have HSM := Aside0.mk hsn
              clear hsn hm2 hpw hlen hfd hdd
              obtain ⟨ht0, ht1, ht2, ht3, hg0, hg1, hg2, hg3⟩ := ex4 OL.out.t8
              go_wp2
              go_region
              go_wp2
              go_roundg (e - (p + 1))
              case measure => omega
              case rel =>
                exact ⟨p + 1, by omega, by omega, Nat.le_refl _, by go_num, ⟨by rw [HSM.out]; exact (OL.out.set_ 2 _ rfl).drew⟩⟩
            · skip
              have hd : decide ((p : Int) < (e : Int)) = false := decide_eq_false (by omega)
              obtain rfl : p = e := by omega
              skip
              obtain ⟨ht0, ht1, ht2, ht3⟩ := ey4 OL.out.t8
              obtain ⟨hr0, hr1, hr2, hr3, hf0, hf1, hf2, hf3⟩ := ex4 OL.out.r4
              go_wp2
              refine bodyPost_ret (xBl (rs := [.cell 4 60, .tmp 5, .tmp 6, .tmp 7]) rfl (by simp) (.cell w.heap.size 60 #[.int .i64 1, .string ⟨#[]⟩, .int .i64 (xE5 (((xAj a0).drop i).take (p - i))), .int .i64 (i : Int)] (0, 0) _ rfl (xA1 ((xA1 ((xA1 ((xA1 (OL.out.r4) 0 (.int .i64 1) rfl)) 1 (.string ⟨#[]⟩) rfl)) 2 (.int .i64 (xE5 (((xAj a0).drop i).take (p - i)))) rfl)) 3 (.int .i64 (i : Int)) rfl) Tryd.underlying60 rfl (by kernel_rfl) (.tmp (.tmp (.tmp .nil))))) rfl ?_
              exact ⟨by first | rfl | simp, ((((((((OL.out.bel).setCell (p := ⟨w.heap.size, 0, none⟩) (Nat.le_refl _) (.int .i64 1))).setCell (p := ⟨w.heap.size, 1, none⟩) (Nat.le_refl _) (.string ⟨#[]⟩))).setCell (p := ⟨w.heap.size, 2, none⟩) (Nat.le_refl _) (.int .i64 (xE5 (((xAj a0).drop i).take (p - i)))))).setCell (p := ⟨w.heap.size, 3, none⟩) (Nat.le_refl _) (.int .i64 (i : Int)))⟩
    | false =>
      rw [hF, if_neg (by decide)] at h
      clear hF
      by_cases hD : c = 36
      · skip
        rw [if_pos hD] at h
        have e36 : (c == 36) = true := by rw [hD]; rfl
        have hE := xE7 pHex a0 (a0.size - (i + 1)) ((i + 1)) (by omega)
        have hEa := xEp pHex a0 (a0.size - (i + 1)) ((i + 1))
        have HEN := Aside0.mk (xLz a0 (i + 1) hs (by omega))
        generalize xBc pHex a0 (a0.size - (i + 1)) (i + 1) = e at *
        have hci : ((i + 1 : Nat) : Int) = (i : Int) + 1 := by omega
        rw [hci] at HEN
        clear hci
        have q0 : (0 : Int) ≤ (i : Int) := by omega
        have q1 : (i : Int) ≤ 140737488351232 := by omega
        have q2 : (e : Int) ≤ 140737488351232 := by omega
        have q3 : (i : Int) ≤ (e : Int) := by omega
        have q4 : (e : Int) ≤ (a0.size : Int) := by omega
        have HBA := Aside0.mk (xK5 a0 e (by omega))
        have q5 : (i : Int) + 1 ≤ (e : Int) := by omega
        have q5b : (i : Int) < (e : Int) := by omega
        have q5c : i < e ∨ e = i + 1 := by omega
        have q7 : (0 : Int) ≤ (i : Int) + 1 := by omega
        have q8 : (-1 : Int) ≤ (i : Int) := by omega
        have q9 : i + 1 ≤ e := by omega
        have q9b : i < e := by omega
        clear q5c
        clear hD
        go_upto_region 26 with (go_at_call 73; (with_reducible refine (xAf.calls _ a0 _ 2 _ _ HEN.out).mono ?_); rintro e wq8 ⟨rfl, hd⟩; have OS8 := Aside0.mk (OS2.out.call hd); clear hd)
        go_upto_region 27 with (go_at_call 74; (with_reducible refine (xC2.calls a0 _ _ _ HBA.out).mono ?_); rintro e wq9 ⟨rfl, hd⟩; have OS9 := Aside0.mk (OS8.out.call hd); clear hd)
        by_cases hl0 : e = i + 1
        · skip
          rw [if_pos hl0] at h
          simp only [Option.some.injEq, Prod.mk.injEq] at h
          obtain ⟨rfl, rfl, rfl, rfl, rfl, rfl, rfl⟩ := h
          have d0 : ((e : Int) == (i : Int) + 1) = true := by simp; omega
          obtain ⟨ht0, ht1, ht2, ht3⟩ := ey4 OS9.out.t8
          obtain ⟨hr0, hr1, hr2, hr3, hf0, hf1, hf2, hf3⟩ := ex4 OS9.out.r4
          go_wp2
          refine bodyPost_ret (xBl (rs := [.cell 4 60, .tmp 5, .tmp 6, .tmp 7]) rfl (by simp) (.cell w.heap.size 60 #[.int .i64 0, .string ⟨#[]⟩, .int .i64 0, .int .i64 (i : Int)] (0, 0) _ rfl (xA1 ((xA1 ((xA1 ((xA1 (OS9.out.r4) 0 (.int .i64 0) rfl)) 1 (.string ⟨#[]⟩) rfl)) 2 (.int .i64 0) rfl)) 3 (.int .i64 (i : Int)) rfl) Tryd.underlying60 rfl (by kernel_rfl) (.tmp (.tmp (.tmp .nil))))) rfl ?_
          exact ⟨by first | rfl | simp, ((((((((OS9.out.bel).setCell (p := ⟨w.heap.size, 0, none⟩) (Nat.le_refl _) (.int .i64 0))).setCell (p := ⟨w.heap.size, 1, none⟩) (Nat.le_refl _) (.string ⟨#[]⟩))).setCell (p := ⟨w.heap.size, 2, none⟩) (Nat.le_refl _) (.int .i64 0))).setCell (p := ⟨w.heap.size, 3, none⟩) (Nat.le_refl _) (.int .i64 (i : Int)))⟩
        · skip
          rw [if_neg hl0] at h
          have d0 : ((e : Int) == (i : Int) + 1) = false := by simp; omega
          by_cases hl : i + 129 < e
          · skip
            rw [if_pos hl] at h
            simp only [Option.some.injEq, Prod.mk.injEq] at h
            obtain ⟨rfl, rfl, rfl, rfl, rfl, rfl, rfl⟩ := h
            have d1 : decide ((e : Int) - (i : Int) - 1 > 128) = true := decide_eq_true (by omega)
            have d2 : decide (128 < (e : Int) - (i : Int) - 1) = true := decide_eq_true (by omega)
            obtain ⟨ht0, ht1, ht2, ht3⟩ := ey4 OS9.out.t8
            obtain ⟨hr0, hr1, hr2, hr3, hf0, hf1, hf2, hf3⟩ := ex4 OS9.out.r4
            go_wp2
            refine bodyPost_ret (xBl (rs := [.cell 4 60, .tmp 5, .tmp 6, .tmp 7]) rfl (by simp) (.cell w.heap.size 60 #[.int .i64 0, .string ⟨#[]⟩, .int .i64 0, .int .i64 (i : Int)] (0, 0) _ rfl (xA1 ((xA1 ((xA1 ((xA1 (OS9.out.r4) 0 (.int .i64 0) rfl)) 1 (.string ⟨#[]⟩) rfl)) 2 (.int .i64 0) rfl)) 3 (.int .i64 (i : Int)) rfl) Tryd.underlying60 rfl (by kernel_rfl) (.tmp (.tmp (.tmp .nil))))) rfl ?_
            exact ⟨by first | rfl | simp, ((((((((OS9.out.bel).setCell (p := ⟨w.heap.size, 0, none⟩) (Nat.le_refl _) (.int .i64 0))).setCell (p := ⟨w.heap.size, 1, none⟩) (Nat.le_refl _) (.string ⟨#[]⟩))).setCell (p := ⟨w.heap.size, 2, none⟩) (Nat.le_refl _) (.int .i64 0))).setCell (p := ⟨w.heap.size, 3, none⟩) (Nat.le_refl _) (.int .i64 (i : Int)))⟩
          · skip
            rw [if_neg hl] at h
            have d1 : decide ((e : Int) - (i : Int) - 1 > 128) = false := decide_eq_false (by omega)
            have d2 : decide (128 < (e : Int) - (i : Int) - 1) = false := decide_eq_false (by omega)
            cases hG : xFw a0 e with
            | true =>
              rw [hG, if_pos rfl] at h
              simp only [Option.some.injEq, Prod.mk.injEq] at h
              obtain ⟨rfl, rfl, rfl, rfl, rfl, rfl, rfl⟩ := h
              obtain ⟨ht0, ht1, ht2, ht3⟩ := ey4 OS9.out.t8
              obtain ⟨hr0, hr1, hr2, hr3, hf0, hf1, hf2, hf3⟩ := ex4 OS9.out.r4
              go_wp2
              refine bodyPost_ret (xBl (rs := [.cell 4 60, .tmp 5, .tmp 6, .tmp 7]) rfl (by simp) (.cell w.heap.size 60 #[.int .i64 0, .string ⟨#[]⟩, .int .i64 0, .int .i64 (i : Int)] (0, 0) _ rfl (xA1 ((xA1 ((xA1 ((xA1 (OS9.out.r4) 0 (.int .i64 0) rfl)) 1 (.string ⟨#[]⟩) rfl)) 2 (.int .i64 0) rfl)) 3 (.int .i64 (i : Int)) rfl) Tryd.underlying60 rfl (by kernel_rfl) (.tmp (.tmp (.tmp .nil))))) rfl ?_
              exact ⟨by first | rfl | simp, ((((((((OS9.out.bel).setCell (p := ⟨w.heap.size, 0, none⟩) (Nat.le_refl _) (.int .i64 0))).setCell (p := ⟨w.heap.size, 1, none⟩) (Nat.le_refl _) (.string ⟨#[]⟩))).setCell (p := ⟨w.heap.size, 2, none⟩) (Nat.le_refl _) (.int .i64 0))).setCell (p := ⟨w.heap.size, 3, none⟩) (Nat.le_refl _) (.int .i64 (i : Int)))⟩
            | false =>
              rw [hG, if_neg (by decide)] at h
              simp only [Option.some.injEq, Prod.mk.injEq] at h
              obtain ⟨rfl, rfl, rfl, rfl, rfl, rfl, rfl⟩ := h
              clear hG hl hl0 hE hEa
              obtain ⟨ht0, ht1, ht2, ht3, hg0, hg1, hg2, hg3⟩ := ex4 OS9.out.t8
              go_upto_region 34 with (fail)
              generalize hW : World.setCell wq9 _ _ = Ws10
              have OS10 := Aside0.mk (show OnS w Ws10 w.heap.size b8 2 ⟨#[]⟩ 0 (i : Int) from by rw [← hW]; exact OS9.out.set_ 0 (.int .i64 2) rfl)
              clear hW ht0 ht1 ht2 ht3 hg0 hg1 hg2 hg3
              have q6 : (a0.extract (i + 1) e) = a0.extract ((i : Int) + 1).toNat e := by congr 1
              obtain ⟨ht0, ht1, ht2, ht3, hg0, hg1, hg2, hg3⟩ := ex4 OS10.out.t8
              go_upto_region 35 with (fail)
              generalize hW : World.setCell Ws10 _ _ = Ws11
              have OS11 := Aside0.mk (show OnS w Ws11 w.heap.size b8 2 (a0.extract (i + 1) e) 0 (i : Int) from by rw [← hW]; exact OS10.out.set_ 1 (.string (a0.extract (i + 1) e)) rfl)
              clear hW ht0 ht1 ht2 ht3 hg0 hg1 hg2 hg3
              obtain ⟨ht0, ht1, ht2, ht3⟩ := ey4 OS11.out.t8
              obtain ⟨hr0, hr1, hr2, hr3, hf0, hf1, hf2, hf3⟩ := ex4 OS11.out.r4
              go_wp2
              refine bodyPost_ret (xBl (rs := [.cell 4 60, .tmp 5, .tmp 6, .tmp 7]) rfl (by simp) (.cell w.heap.size 60 #[.int .i64 2, .string (a0.extract (i + 1) e), .int .i64 0, .int .i64 (i : Int)] (0, 0) _ rfl (xA1 ((xA1 ((xA1 ((xA1 (OS11.out.r4) 0 (.int .i64 2) rfl)) 1 (.string (a0.extract (i + 1) e)) rfl)) 2 (.int .i64 0) rfl)) 3 (.int .i64 (i : Int)) rfl) Tryd.underlying60 rfl (by kernel_rfl) (.tmp (.tmp (.tmp .nil))))) rfl ?_
              exact ⟨by first | rfl | simp, ((((((((OS11.out.bel).setCell (p := ⟨w.heap.size, 0, none⟩) (Nat.le_refl _) (.int .i64 2))).setCell (p := ⟨w.heap.size, 1, none⟩) (Nat.le_refl _) (.string (a0.extract (i + 1) e)))).setCell (p := ⟨w.heap.size, 2, none⟩) (Nat.le_refl _) (.int .i64 0))).setCell (p := ⟨w.heap.size, 3, none⟩) (Nat.le_refl _) (.int .i64 (i : Int)))⟩
      · skip
        rw [if_neg hD] at h
        have e36 : (c == 36) = false := by simpa using hD
        by_cases hS : c = 40 ∨ c = 41 ∨ c = 44 ∨ c = 61 ∨ c = 59
        · skip
          rw [if_pos hS] at h
          simp only [Option.some.injEq, Prod.mk.injEq] at h
          obtain ⟨rfl, rfl, rfl, rfl, rfl, rfl, rfl⟩ := h
          have q1 : (i : Int) ≤ 140737488351232 := by omega
          have q2 : (i : Int) + 1 ≤ (a0.size : Int) := by omega
          have q0 : (0 : Int) ≤ (i : Int) := by omega
          have q7 : (i : Int) ≤ (i : Int) + 1 := by omega
          have q8 : (i : Int) < (a0.size : Int) := by omega
          have HEX : a0.extract ((i : Int)).toNat ((i : Int) + 1).toNat = a0.extract i (i + 1) := by congr 1
          rcases hS with rfl | rfl | rfl | rfl | rfl
          all_goals skip
          · skip
            have b0 : ((40 : Int) == 40) = true := by decide
            obtain ⟨ht0, ht1, ht2, ht3, hg0, hg1, hg2, hg3⟩ := ex4 OS2.out.t8
            go_upto_region 38 with (fail)
            generalize hW : World.setCell wq2 _ _ = Ws12
            have OS12 := Aside0.mk (show OnS w Ws12 w.heap.size b8 3 ⟨#[]⟩ 0 (i : Int) from by rw [← hW]; exact OS2.out.set_ 0 (.int .i64 3) rfl)
            clear hW ht0 ht1 ht2 ht3 hg0 hg1 hg2 hg3
            obtain ⟨ht0, ht1, ht2, ht3, hg0, hg1, hg2, hg3⟩ := ex4 OS12.out.t8
            go_upto_region 39 with (fail)
            generalize hW : World.setCell Ws12 _ _ = Ws13
            have OS13 := Aside0.mk (show OnS w Ws13 w.heap.size b8 3 (a0.extract i (i + 1)) 0 (i : Int) from by rw [← hW]; exact OS12.out.set_ 1 (.string (a0.extract i (i + 1))) rfl)
            clear hW ht0 ht1 ht2 ht3 hg0 hg1 hg2 hg3
            obtain ⟨ht0, ht1, ht2, ht3⟩ := ey4 OS13.out.t8
            obtain ⟨hr0, hr1, hr2, hr3, hf0, hf1, hf2, hf3⟩ := ex4 OS13.out.r4
            go_wp2
            refine bodyPost_ret (xBl (rs := [.cell 4 60, .tmp 5, .tmp 6, .tmp 7]) rfl (by simp) (.cell w.heap.size 60 #[.int .i64 3, .string (a0.extract i (i + 1)), .int .i64 0, .int .i64 (i : Int)] (0, 0) _ rfl (xA1 ((xA1 ((xA1 ((xA1 (OS13.out.r4) 0 (.int .i64 3) rfl)) 1 (.string (a0.extract i (i + 1))) rfl)) 2 (.int .i64 0) rfl)) 3 (.int .i64 (i : Int)) rfl) Tryd.underlying60 rfl (by kernel_rfl) (.tmp (.tmp (.tmp .nil))))) rfl ?_
            exact ⟨by first | rfl | simp, ((((((((OS13.out.bel).setCell (p := ⟨w.heap.size, 0, none⟩) (Nat.le_refl _) (.int .i64 3))).setCell (p := ⟨w.heap.size, 1, none⟩) (Nat.le_refl _) (.string (a0.extract i (i + 1))))).setCell (p := ⟨w.heap.size, 2, none⟩) (Nat.le_refl _) (.int .i64 0))).setCell (p := ⟨w.heap.size, 3, none⟩) (Nat.le_refl _) (.int .i64 (i : Int)))⟩
          · skip
            have b0 : ((41 : Int) == 40) = false := by decide
            have b1 : ((41 : Int) == 41) = true := by decide
            obtain ⟨ht0, ht1, ht2, ht3, hg0, hg1, hg2, hg3⟩ := ex4 OS2.out.t8
            go_upto_region 38 with (fail)
            generalize hW : World.setCell wq2 _ _ = Ws14
            have OS14 := Aside0.mk (show OnS w Ws14 w.heap.size b8 3 ⟨#[]⟩ 0 (i : Int) from by rw [← hW]; exact OS2.out.set_ 0 (.int .i64 3) rfl)
            clear hW ht0 ht1 ht2 ht3 hg0 hg1 hg2 hg3
            obtain ⟨ht0, ht1, ht2, ht3, hg0, hg1, hg2, hg3⟩ := ex4 OS14.out.t8
            go_upto_region 39 with (fail)
            generalize hW : World.setCell Ws14 _ _ = Ws15
            have OS15 := Aside0.mk (show OnS w Ws15 w.heap.size b8 3 (a0.extract i (i + 1)) 0 (i : Int) from by rw [← hW]; exact OS14.out.set_ 1 (.string (a0.extract i (i + 1))) rfl)
            clear hW ht0 ht1 ht2 ht3 hg0 hg1 hg2 hg3
            obtain ⟨ht0, ht1, ht2, ht3⟩ := ey4 OS15.out.t8
            obtain ⟨hr0, hr1, hr2, hr3, hf0, hf1, hf2, hf3⟩ := ex4 OS15.out.r4
            go_wp2
            refine bodyPost_ret (xBl (rs := [.cell 4 60, .tmp 5, .tmp 6, .tmp 7]) rfl (by simp) (.cell w.heap.size 60 #[.int .i64 3, .string (a0.extract i (i + 1)), .int .i64 0, .int .i64 (i : Int)] (0, 0) _ rfl (xA1 ((xA1 ((xA1 ((xA1 (OS15.out.r4) 0 (.int .i64 3) rfl)) 1 (.string (a0.extract i (i + 1))) rfl)) 2 (.int .i64 0) rfl)) 3 (.int .i64 (i : Int)) rfl) Tryd.underlying60 rfl (by kernel_rfl) (.tmp (.tmp (.tmp .nil))))) rfl ?_
            exact ⟨by first | rfl | simp, ((((((((OS15.out.bel).setCell (p := ⟨w.heap.size, 0, none⟩) (Nat.le_refl _) (.int .i64 3))).setCell (p := ⟨w.heap.size, 1, none⟩) (Nat.le_refl _) (.string (a0.extract i (i + 1))))).setCell (p := ⟨w.heap.size, 2, none⟩) (Nat.le_refl _) (.int .i64 0))).setCell (p := ⟨w.heap.size, 3, none⟩) (Nat.le_refl _) (.int .i64 (i : Int)))⟩
          · skip
            have b0 : ((44 : Int) == 40) = false := by decide
            have b1 : ((44 : Int) == 41) = false := by decide
            have b2 : ((44 : Int) == 44) = true := by decide
            obtain ⟨ht0, ht1, ht2, ht3, hg0, hg1, hg2, hg3⟩ := ex4 OS2.out.t8
            go_upto_region 38 with (fail)
            generalize hW : World.setCell wq2 _ _ = Ws16
            have OS16 := Aside0.mk (show OnS w Ws16 w.heap.size b8 3 ⟨#[]⟩ 0 (i : Int) from by rw [← hW]; exact OS2.out.set_ 0 (.int .i64 3) rfl)
            clear hW ht0 ht1 ht2 ht3 hg0 hg1 hg2 hg3
            obtain ⟨ht0, ht1, ht2, ht3, hg0, hg1, hg2, hg3⟩ := ex4 OS16.out.t8
            go_upto_region 39 with (fail)
            generalize hW : World.setCell Ws16 _ _ = Ws17
            have OS17 := Aside0.mk (show OnS w Ws17 w.heap.size b8 3 (a0.extract i (i + 1)) 0 (i : Int) from by rw [← hW]; exact OS16.out.set_ 1 (.string (a0.extract i (i + 1))) rfl)
            clear hW ht0 ht1 ht2 ht3 hg0 hg1 hg2 hg3
            obtain ⟨ht0, ht1, ht2, ht3⟩ := ey4 OS17.out.t8
            obtain ⟨hr0, hr1, hr2, hr3, hf0, hf1, hf2, hf3⟩ := ex4 OS17.out.r4
            go_wp2
            refine bodyPost_ret (xBl (rs := [.cell 4 60, .tmp 5, .tmp 6, .tmp 7]) rfl (by simp) (.cell w.heap.size 60 #[.int .i64 3, .string (a0.extract i (i + 1)), .int .i64 0, .int .i64 (i : Int)] (0, 0) _ rfl (xA1 ((xA1 ((xA1 ((xA1 (OS17.out.r4) 0 (.int .i64 3) rfl)) 1 (.string (a0.extract i (i + 1))) rfl)) 2 (.int .i64 0) rfl)) 3 (.int .i64 (i : Int)) rfl) Tryd.underlying60 rfl (by kernel_rfl) (.tmp (.tmp (.tmp .nil))))) rfl ?_
            exact ⟨by first | rfl | simp, ((((((((OS17.out.bel).setCell (p := ⟨w.heap.size, 0, none⟩) (Nat.le_refl _) (.int .i64 3))).setCell (p := ⟨w.heap.size, 1, none⟩) (Nat.le_refl _) (.string (a0.extract i (i + 1))))).setCell (p := ⟨w.heap.size, 2, none⟩) (Nat.le_refl _) (.int .i64 0))).setCell (p := ⟨w.heap.size, 3, none⟩) (Nat.le_refl _) (.int .i64 (i : Int)))⟩
          · skip
            have b0 : ((61 : Int) == 40) = false := by decide
            have b1 : ((61 : Int) == 41) = false := by decide
            have b2 : ((61 : Int) == 44) = false := by decide
            have b3 : ((61 : Int) == 61) = true := by decide
            obtain ⟨ht0, ht1, ht2, ht3, hg0, hg1, hg2, hg3⟩ := ex4 OS2.out.t8
            go_upto_region 38 with (fail)
            generalize hW : World.setCell wq2 _ _ = Ws18
            have OS18 := Aside0.mk (show OnS w Ws18 w.heap.size b8 3 ⟨#[]⟩ 0 (i : Int) from by rw [← hW]; exact OS2.out.set_ 0 (.int .i64 3) rfl)
            clear hW ht0 ht1 ht2 ht3 hg0 hg1 hg2 hg3
            obtain ⟨ht0, ht1, ht2, ht3, hg0, hg1, hg2, hg3⟩ := ex4 OS18.out.t8
            go_upto_region 39 with (fail)
            generalize hW : World.setCell Ws18 _ _ = Ws19
            have OS19 := Aside0.mk (show OnS w Ws19 w.heap.size b8 3 (a0.extract i (i + 1)) 0 (i : Int) from by rw [← hW]; exact OS18.out.set_ 1 (.string (a0.extract i (i + 1))) rfl)
            clear hW ht0 ht1 ht2 ht3 hg0 hg1 hg2 hg3
            obtain ⟨ht0, ht1, ht2, ht3⟩ := ey4 OS19.out.t8
            obtain ⟨hr0, hr1, hr2, hr3, hf0, hf1, hf2, hf3⟩ := ex4 OS19.out.r4
            go_wp2
            refine bodyPost_ret (xBl (rs := [.cell 4 60, .tmp 5, .tmp 6, .tmp 7]) rfl (by simp) (.cell w.heap.size 60 #[.int .i64 3, .string (a0.extract i (i + 1)), .int .i64 0, .int .i64 (i : Int)] (0, 0) _ rfl (xA1 ((xA1 ((xA1 ((xA1 (OS19.out.r4) 0 (.int .i64 3) rfl)) 1 (.string (a0.extract i (i + 1))) rfl)) 2 (.int .i64 0) rfl)) 3 (.int .i64 (i : Int)) rfl) Tryd.underlying60 rfl (by kernel_rfl) (.tmp (.tmp (.tmp .nil))))) rfl ?_
            exact ⟨by first | rfl | simp, ((((((((OS19.out.bel).setCell (p := ⟨w.heap.size, 0, none⟩) (Nat.le_refl _) (.int .i64 3))).setCell (p := ⟨w.heap.size, 1, none⟩) (Nat.le_refl _) (.string (a0.extract i (i + 1))))).setCell (p := ⟨w.heap.size, 2, none⟩) (Nat.le_refl _) (.int .i64 0))).setCell (p := ⟨w.heap.size, 3, none⟩) (Nat.le_refl _) (.int .i64 (i : Int)))⟩
          · skip
            have b0 : ((59 : Int) == 40) = false := by decide
            have b1 : ((59 : Int) == 41) = false := by decide
            have b2 : ((59 : Int) == 44) = false := by decide
            have b3 : ((59 : Int) == 61) = false := by decide
            have b4 : ((59 : Int) == 59) = true := by decide
            obtain ⟨ht0, ht1, ht2, ht3, hg0, hg1, hg2, hg3⟩ := ex4 OS2.out.t8
            go_upto_region 38 with (fail)
            generalize hW : World.setCell wq2 _ _ = Ws20
            have OS20 := Aside0.mk (show OnS w Ws20 w.heap.size b8 3 ⟨#[]⟩ 0 (i : Int) from by rw [← hW]; exact OS2.out.set_ 0 (.int .i64 3) rfl)
            clear hW ht0 ht1 ht2 ht3 hg0 hg1 hg2 hg3
            obtain ⟨ht0, ht1, ht2, ht3, hg0, hg1, hg2, hg3⟩ := ex4 OS20.out.t8
            go_upto_region 39 with (fail)
            generalize hW : World.setCell Ws20 _ _ = Ws21
            have OS21 := Aside0.mk (show OnS w Ws21 w.heap.size b8 3 (a0.extract i (i + 1)) 0 (i : Int) from by rw [← hW]; exact OS20.out.set_ 1 (.string (a0.extract i (i + 1))) rfl)
            clear hW ht0 ht1 ht2 ht3 hg0 hg1 hg2 hg3
            obtain ⟨ht0, ht1, ht2, ht3⟩ := ey4 OS21.out.t8
            obtain ⟨hr0, hr1, hr2, hr3, hf0, hf1, hf2, hf3⟩ := ex4 OS21.out.r4
            go_wp2
            refine bodyPost_ret (xBl (rs := [.cell 4 60, .tmp 5, .tmp 6, .tmp 7]) rfl (by simp) (.cell w.heap.size 60 #[.int .i64 3, .string (a0.extract i (i + 1)), .int .i64 0, .int .i64 (i : Int)] (0, 0) _ rfl (xA1 ((xA1 ((xA1 ((xA1 (OS21.out.r4) 0 (.int .i64 3) rfl)) 1 (.string (a0.extract i (i + 1))) rfl)) 2 (.int .i64 0) rfl)) 3 (.int .i64 (i : Int)) rfl) Tryd.underlying60 rfl (by kernel_rfl) (.tmp (.tmp (.tmp .nil))))) rfl ?_
            exact ⟨by first | rfl | simp, ((((((((OS21.out.bel).setCell (p := ⟨w.heap.size, 0, none⟩) (Nat.le_refl _) (.int .i64 3))).setCell (p := ⟨w.heap.size, 1, none⟩) (Nat.le_refl _) (.string (a0.extract i (i + 1))))).setCell (p := ⟨w.heap.size, 2, none⟩) (Nat.le_refl _) (.int .i64 0))).setCell (p := ⟨w.heap.size, 3, none⟩) (Nat.le_refl _) (.int .i64 (i : Int)))⟩
        · skip
          rw [if_neg hS] at h
          simp only [Option.some.injEq, Prod.mk.injEq] at h
          obtain ⟨rfl, rfl, rfl, rfl, rfl, rfl, rfl⟩ := h
          have b0 : (c == 40) = false := by simp; omega
          have b1 : (c == 41) = false := by simp; omega
          have b2 : (c == 44) = false := by simp; omega
          have b3 : (c == 61) = false := by simp; omega
          have b4 : (c == 59) = false := by simp; omega
          clear hS hD
          obtain ⟨ht0, ht1, ht2, ht3⟩ := ey4 OS2.out.t8
          obtain ⟨hr0, hr1, hr2, hr3, hf0, hf1, hf2, hf3⟩ := ex4 OS2.out.r4
          go_wp2
          refine bodyPost_ret (xBl (rs := [.cell 4 60, .tmp 5, .tmp 6, .tmp 7]) rfl (by simp) (.cell w.heap.size 60 #[.int .i64 0, .string ⟨#[]⟩, .int .i64 0, .int .i64 (i : Int)] (0, 0) _ rfl (xA1 ((xA1 ((xA1 ((xA1 (OS2.out.r4) 0 (.int .i64 0) rfl)) 1 (.string ⟨#[]⟩) rfl)) 2 (.int .i64 0) rfl)) 3 (.int .i64 (i : Int)) rfl) Tryd.underlying60 rfl (by kernel_rfl) (.tmp (.tmp (.tmp .nil))))) rfl ?_
          exact ⟨by first | rfl | simp, ((((((((OS2.out.bel).setCell (p := ⟨w.heap.size, 0, none⟩) (Nat.le_refl _) (.int .i64 0))).setCell (p := ⟨w.heap.size, 1, none⟩) (Nat.le_refl _) (.string ⟨#[]⟩))).setCell (p := ⟨w.heap.size, 2, none⟩) (Nat.le_refl _) (.int .i64 0))).setCell (p := ⟨w.heap.size, 3, none⟩) (Nat.le_refl _) (.int .i64 (i : Int)))⟩

end Go.Proofs.YtknbfhhmjbnemaaDoor.P
end
section
namespace Go.Proofs.YtknbfhhmjbnemaaDoor.P
open Go.RowKit Go.Proofs.YtknbfhhmjbnemaaDoorW.PrintWords Go.Proofs.YtknbfhhmjbnemaaDoorW.PrintLast Go.Proofs.YtknbfhhmjbnemaaDoorW.PrintMore
attribute [local go_sem] xBh xBp

/-! ### xA9: function 39 -/
mutual
def xA9.l0 : Nat → ByteArray → Int → Option (Int)
 | 0, _, _ => none
 | k + 1, x0, x1 => if x1 < (x0.size : Int) then (if 0 ≤ x1 then (if (bt x0 x1) = 9 then (xA9.j1 k x0 x1 true) else (if (bt x0 x1) = 10 then (xA9.j1 k x0 x1 true) else (if (bt x0 x1) = 13 then (xA9.j1 k x0 x1 true) else (xA9.j1 k x0 x1 ((bt x0 x1) == 32))))) else (none)) else (some x1)
def xA9.j1 : Nat → ByteArray → Int → Bool → Option (Int)
 | 0, _, _, _ => none
 | k + 1, x0, x1, x10 => if x10 = true then (xA9.l0 k x0 (wrap64 (x1 + 1))) else (if (wrap64 (x1 + 1)) < (x0.size : Int) then (if 0 ≤ x1 then (if x1 < (x0.size : Int) then (if (bt x0 x1) = 47 then (if 0 ≤ (wrap64 (x1 + 1)) then (xA9.j2 k x0 x1 ((bt x0 (wrap64 (x1 + 1))) == 47)) else (none)) else (xA9.j2 k x0 x1 false)) else (none)) else (none)) else (xA9.j2 k x0 x1 false))
def xA9.j2 : Nat → ByteArray → Int → Bool → Option (Int)
 | 0, _, _, _ => none
 | k + 1, x0, x1, x35 => if x35 = true then (xA9.l1 k x0 x1) else (some x1)
def xA9.l1 : Nat → ByteArray → Int → Option (Int)
 | 0, _, _ => none
 | k + 1, x0, x1 => if x1 < (x0.size : Int) then (if 0 ≤ x1 then (if (bt x0 x1) = 10 then (xA9.l0 k x0 x1) else (xA9.l1 k x0 (wrap64 (x1 + 1)))) else (none)) else (xA9.l0 k x0 x1)
end
def xA9.f (k : Nat) (a0 : ByteArray) (a1 : Int) : Option (Int) := xA9.l0 k a0 a1
set_option maxHeartbeats 8000000 in
set_option maxRecDepth 100000 in
theorem xA9.calls (k : Nat) (a0 : ByteArray) (a1 : Int) (r : Int) (w : World) (h : xA9.f k a0 a1 = some r) :
  Calls Tryd.prog 39 #[.string a0, .int .i64 a1] w fun e w' => e = .returned (.int .i64 r) ∧ Drawn0 w w' := by
 have H : (xA9.l0 k a0 a1) = some r := h
 clear h
 have H' := Aside0.mk H
 clear H
 go_enter Tryd.func39, Tryd.ntmps39
 go_wp2
 go_loopg [1] k (fun kq v1 w' => ∃ (x1_1 : Int), v1 = .int .i64 x1_1 ∧ Aside0 (xA9.l0 kq a0 x1_1 = some r) ∧ Aside0 (kq ≤ k) ∧ Drawn0 w w')
 case atStart => exact ⟨(a1), (by first | rfl | (simp; done) | (simp [*]; done)), H', ⟨Nat.le_refl _⟩, by repeat (first | exact Drawn0.refl _ | apply Drawn0.step)⟩
 case round =>
  clear H'
  try clear p2
  obtain ⟨x1_1, rfl, HA, HK1, ⟨m1, rfl⟩⟩ := hrel
  cases gk with
  | zero => exact absurd HA.out (by simp [xA9.l0])
  | succ k1 =>
   have H := HA.out
   clear HA
   simp only [xA9.l0] at H
   by_cases c3 : x1_1 < (a0.size : Int)
   ·rw [if_pos c3] at H
    have c3b0 : decide (x1_1 < (a0.size : Int)) = true := decide_eq_true c3
    clear c3
    have HC4 := Aside0.mk H
    clear H
    go_upto_region 3 with (fail)
    go_cut [10] (fun v10 wc => ∃ (kq : Nat) (x10_3 : Bool), v10 = .bool x10_3 ∧ Aside0 (xA9.j1 kq a0 x1_1 x10_3 = some r) ∧ Aside0 (kq ≤ k1) ∧ Drawn0 w wc)
    case first =>
     have H := HC4.out
     clear HC4
     by_cases c5 : 0 ≤ x1_1
     ·rw [if_pos c5] at H
      have c5b0 : decide (0 ≤ x1_1) = true := decide_eq_true c5
      clear c5
      (first | rw [c5b0] | (simp only [xB1, xB2]; rw [c5b0]) | skip)
      by_cases c7 : (bt a0 x1_1) = 9
      ·rw [if_pos c7] at H
       have c7b0 : ((bt a0 x1_1) == 9) = true := beq_iff_eq.mpr c7
       have c7b1 : ((bt a0 x1_1) != 9) = false := bne_eq_false_iff_eq.mpr c7
       clear c7
       have H' := Aside0.mk H
       clear H
       have p6 : 0 ≤ (x1_1 : Int) := of_decide_eq_true (by first | (with_reducible assumption) | assumption)
       have q6 : x1_1 < (a0.size : Int) := of_decide_eq_true (by first | (with_reducible assumption) | assumption)
       have hx6 := xD7 a0 x1_1
       replace p6 := eq_true p6
       replace q6 := eq_true q6
       go_wp2
       go_meet
       case rel => exact ⟨_, (true), (by first | rfl | (simp; done) | (simp [*]; done)), H', ⟨by have := HK1.out; first | omega | exact Nat.le_refl _⟩, by repeat (first | exact Drawn0.refl _ | apply Drawn0.step)⟩
      ·rw [if_neg c7] at H
       have c7b0 : ((bt a0 x1_1) == 9) = false := beq_eq_false_iff_ne.mpr c7
       have c7b1 : ((bt a0 x1_1) != 9) = true := bne_iff_ne.mpr c7
       by_cases c9 : (bt a0 x1_1) = 10
       ·rw [if_pos c9] at H
        have c9b0 : ((bt a0 x1_1) == 10) = true := beq_iff_eq.mpr c9
        have c9b1 : ((bt a0 x1_1) != 10) = false := bne_eq_false_iff_eq.mpr c9
        clear c9
        have H' := Aside0.mk H
        clear H
        have p6 : 0 ≤ (x1_1 : Int) := of_decide_eq_true (by first | (with_reducible assumption) | assumption)
        have q6 : x1_1 < (a0.size : Int) := of_decide_eq_true (by first | (with_reducible assumption) | assumption)
        have hx6 := xD7 a0 x1_1
        replace p6 := eq_true p6
        replace q6 := eq_true q6
        have p8 : 0 ≤ (x1_1 : Int) := of_decide_eq_true (by first | (with_reducible assumption) | assumption)
        have q8 : x1_1 < (a0.size : Int) := of_decide_eq_true (by first | (with_reducible assumption) | assumption)
        have hx8 := xD7 a0 x1_1
        replace p8 := eq_true p8
        replace q8 := eq_true q8
        go_wp2
        go_meet
        case rel => exact ⟨_, (true), (by first | rfl | (simp; done) | (simp [*]; done)), H', ⟨by have := HK1.out; first | omega | exact Nat.le_refl _⟩, by repeat (first | exact Drawn0.refl _ | apply Drawn0.step)⟩
       ·rw [if_neg c9] at H
        have c9b0 : ((bt a0 x1_1) == 10) = false := beq_eq_false_iff_ne.mpr c9
        have c9b1 : ((bt a0 x1_1) != 10) = true := bne_iff_ne.mpr c9
        by_cases c11 : (bt a0 x1_1) = 13
        ·rw [if_pos c11] at H
         have c11b0 : ((bt a0 x1_1) == 13) = true := beq_iff_eq.mpr c11
         have c11b1 : ((bt a0 x1_1) != 13) = false := bne_eq_false_iff_eq.mpr c11
         clear c11
         have H' := Aside0.mk H
         clear H
         have p6 : 0 ≤ (x1_1 : Int) := of_decide_eq_true (by first | (with_reducible assumption) | assumption)
         have q6 : x1_1 < (a0.size : Int) := of_decide_eq_true (by first | (with_reducible assumption) | assumption)
         have hx6 := xD7 a0 x1_1
         replace p6 := eq_true p6
         replace q6 := eq_true q6
         have p8 : 0 ≤ (x1_1 : Int) := of_decide_eq_true (by first | (with_reducible assumption) | assumption)
         have q8 : x1_1 < (a0.size : Int) := of_decide_eq_true (by first | (with_reducible assumption) | assumption)
         have hx8 := xD7 a0 x1_1
         replace p8 := eq_true p8
         replace q8 := eq_true q8
         have p10 : 0 ≤ (x1_1 : Int) := of_decide_eq_true (by first | (with_reducible assumption) | assumption)
         have q10 : x1_1 < (a0.size : Int) := of_decide_eq_true (by first | (with_reducible assumption) | assumption)
         have hx10 := xD7 a0 x1_1
         replace p10 := eq_true p10
         replace q10 := eq_true q10
         go_wp2
         go_meet
         case rel => exact ⟨_, (true), (by first | rfl | (simp; done) | (simp [*]; done)), H', ⟨by have := HK1.out; first | omega | exact Nat.le_refl _⟩, by repeat (first | exact Drawn0.refl _ | apply Drawn0.step)⟩
        ·rw [if_neg c11] at H
         have c11b0 : ((bt a0 x1_1) == 13) = false := beq_eq_false_iff_ne.mpr c11
         have c11b1 : ((bt a0 x1_1) != 13) = true := bne_iff_ne.mpr c11
         have H' := Aside0.mk H
         clear H
         have p6 : 0 ≤ (x1_1 : Int) := of_decide_eq_true (by first | (with_reducible assumption) | assumption)
         have q6 : x1_1 < (a0.size : Int) := of_decide_eq_true (by first | (with_reducible assumption) | assumption)
         have hx6 := xD7 a0 x1_1
         replace p6 := eq_true p6
         replace q6 := eq_true q6
         have p8 : 0 ≤ (x1_1 : Int) := of_decide_eq_true (by first | (with_reducible assumption) | assumption)
         have q8 : x1_1 < (a0.size : Int) := of_decide_eq_true (by first | (with_reducible assumption) | assumption)
         have hx8 := xD7 a0 x1_1
         replace p8 := eq_true p8
         replace q8 := eq_true q8
         have p10 : 0 ≤ (x1_1 : Int) := of_decide_eq_true (by first | (with_reducible assumption) | assumption)
         have q10 : x1_1 < (a0.size : Int) := of_decide_eq_true (by first | (with_reducible assumption) | assumption)
         have hx10 := xD7 a0 x1_1
         replace p10 := eq_true p10
         replace q10 := eq_true q10
         have p12 : 0 ≤ (x1_1 : Int) := of_decide_eq_true (by first | (with_reducible assumption) | assumption)
         have q12 : x1_1 < (a0.size : Int) := of_decide_eq_true (by first | (with_reducible assumption) | assumption)
         have hx12 := xD7 a0 x1_1
         replace p12 := eq_true p12
         replace q12 := eq_true q12
         go_wp2
         go_meet
         case rel => exact ⟨_, (((bt a0 x1_1) == 32)), (by first | rfl | (simp; done) | (simp [*]; done)), H', ⟨by have := HK1.out; first | omega | exact Nat.le_refl _⟩, by repeat (first | exact Drawn0.refl _ | apply Drawn0.step)⟩
     ·rw [if_neg c5] at H
      exact absurd H (by simp)
    case rest =>
     clear HC4
     try clear c1
     try clear p1
     try clear q1
     try clear hx1
     try clear p2
     try clear c3
     try clear c3b0
     try clear c5
     try clear c5b0
     try clear p6
     try clear q6
     try clear hx6
     try clear c7
     try clear c7b0
     try clear c7b1
     try clear p8
     try clear q8
     try clear hx8
     try clear c9
     try clear c9b0
     try clear c9b1
     try clear p10
     try clear q10
     try clear hx10
     try clear c11
     try clear c11b0
     try clear c11b1
     try clear p12
     try clear q12
     try clear hx12
     try clear p10
     try clear p12
     try clear p2
     try clear p6
     try clear p8
     try clear q10
     try clear q12
     try clear q6
     try clear q8
     obtain ⟨kq, x10_3, rfl, HA, HJ3, ⟨mc3, rfl⟩⟩ := hcut
     cases kq with
     | zero => exact absurd HA.out (by simp [xA9.j1])
     | succ kj3 =>
      have H := HA.out
      clear HA
      simp only [xA9.j1] at H
      by_cases c13 : x10_3 = true
      ·subst c13
       have H1 : (xA9.l0 kj3 a0 (wrap64 (x1_1 + 1))) = some r := by rw [if_pos rfl] at H; exact H
       clear H
       have H := H1
       clear H1
       have H' := Aside0.mk H
       clear H
       go_wp2
       go_roundg kj3
       case measure => have := HK1.out; have := HJ3.out; omega
       case rel => exact ⟨(wrap64 (x1_1 + 1)), (by first | rfl | (simp; done) | (simp [*]; done)), H', ⟨by have := HK1.out; have := HJ3.out; omega⟩, by repeat (first | exact Drawn0.refl _ | apply Drawn0.step)⟩
      ·replace c13 := Bool.eq_false_iff.mpr c13
       subst c13
       have H1 : (if (wrap64 (x1_1 + 1)) < (a0.size : Int) then (if 0 ≤ x1_1 then (if x1_1 < (a0.size : Int) then (if (bt a0 x1_1) = 47 then (if 0 ≤ (wrap64 (x1_1 + 1)) then (xA9.j2 kj3 a0 x1_1 ((bt a0 (wrap64 (x1_1 + 1))) == 47)) else (none)) else (xA9.j2 kj3 a0 x1_1 false)) else (none)) else (none)) else (xA9.j2 kj3 a0 x1_1 false)) = some r := by rw [if_neg (show ¬ (false = true) by decide)] at H; exact H
       clear H
       have H := H1
       clear H1
       have HC14 := Aside0.mk H
       clear H
       go_upto_region 5 with (fail)
       go_cut [35] (fun v35 wc => ∃ (kq : Nat) (x35_13 : Bool), v35 = .bool x35_13 ∧ Aside0 (xA9.j2 kq a0 x1_1 x35_13 = some r) ∧ Aside0 (kq ≤ kj3) ∧ Drawn0 w wc)
       case first =>
        have H := HC14.out
        clear HC14
        by_cases c15 : (wrap64 (x1_1 + 1)) < (a0.size : Int)
        ·rw [if_pos c15] at H
         have c15b0 : decide ((wrap64 (x1_1 + 1)) < (a0.size : Int)) = true := decide_eq_true c15
         clear c15
         (first | rw [c15b0] | (simp only [xB1, xB2]; rw [c15b0]) | skip)
         by_cases c16 : 0 ≤ x1_1
         ·rw [if_pos c16] at H
          have c16b0 : decide (0 ≤ x1_1) = true := decide_eq_true c16
          clear c16
          by_cases c17 : x1_1 < (a0.size : Int)
          ·rw [if_pos c17] at H
           have c17b0 : decide (x1_1 < (a0.size : Int)) = true := decide_eq_true c17
           clear c17
           by_cases c19 : (bt a0 x1_1) = 47
           ·rw [if_pos c19] at H
            have c19b0 : ((bt a0 x1_1) == 47) = true := beq_iff_eq.mpr c19
            have c19b1 : ((bt a0 x1_1) != 47) = false := bne_eq_false_iff_eq.mpr c19
            clear c19
            obtain ⟨ji20, hji20⟩ : ∃ j_ : Int, (wrap64 (x1_1 + 1)) = j_ := ⟨_, rfl⟩
            replace H : (if 0 ≤ (ji20) then (xA9.j2 kj3 a0 x1_1 ((bt a0 (ji20)) == 47)) else (none)) = some r := by first | (rw [hji20] at H; exact H) | (simp only [hji20] at H ⊢; exact H)
            (try rw [hji20] at c15b0)
            have hji20w : (IntKind.i64.wrap (x1_1 + 1)) = ji20 := (xB1 _).trans hji20
            by_cases c21 : 0 ≤ (ji20)
            ·rw [if_pos c21] at H
             have c21b0 : decide (0 ≤ (ji20)) = true := decide_eq_true c21
             clear c21
             have H' := Aside0.mk H
             clear H
             have p18 : 0 ≤ (x1_1 : Int) := of_decide_eq_true (by first | (with_reducible assumption) | assumption)
             have q18 : x1_1 < (a0.size : Int) := of_decide_eq_true (by first | (with_reducible assumption) | assumption)
             have hx18 := xD7 a0 x1_1
             replace p18 := eq_true p18
             replace q18 := eq_true q18
             have p22 : 0 ≤ ((ji20) : Int) := of_decide_eq_true (by first | (with_reducible assumption) | assumption)
             have q22 : (ji20) < (a0.size : Int) := of_decide_eq_true (by first | (with_reducible assumption) | assumption)
             have hx22 := xD7 a0 (ji20)
             replace p22 := eq_true p22
             replace q22 := eq_true q22
             go_wp2
             go_meet
             case rel => exact ⟨_, (((bt a0 (ji20)) == 47)), (by first | rfl | (simp; done) | (simp only [← hji20] <;> (first | rfl | simp)) | (simp [*]; done)), H', ⟨by have := HK1.out; have := HJ3.out; first | omega | exact Nat.le_refl _⟩, by repeat (first | exact Drawn0.refl _ | apply Drawn0.step)⟩
            ·rw [if_neg c21] at H
             exact absurd H (by simp)
           ·rw [if_neg c19] at H
            have c19b0 : ((bt a0 x1_1) == 47) = false := beq_eq_false_iff_ne.mpr c19
            have c19b1 : ((bt a0 x1_1) != 47) = true := bne_iff_ne.mpr c19
            have H' := Aside0.mk H
            clear H
            have p18 : 0 ≤ (x1_1 : Int) := of_decide_eq_true (by first | (with_reducible assumption) | assumption)
            have q18 : x1_1 < (a0.size : Int) := of_decide_eq_true (by first | (with_reducible assumption) | assumption)
            have hx18 := xD7 a0 x1_1
            replace p18 := eq_true p18
            replace q18 := eq_true q18
            go_wp2
            go_meet
            case rel => exact ⟨_, (false), (by first | rfl | (simp; done) | (simp [*]; done)), H', ⟨by have := HK1.out; have := HJ3.out; first | omega | exact Nat.le_refl _⟩, by repeat (first | exact Drawn0.refl _ | apply Drawn0.step)⟩
          ·rw [if_neg c17] at H
           exact absurd H (by simp)
         ·rw [if_neg c16] at H
          exact absurd H (by simp)
        ·rw [if_neg c15] at H
         have c15b0 : decide ((wrap64 (x1_1 + 1)) < (a0.size : Int)) = false := decide_eq_false c15
         clear c15
         (first | rw [c15b0] | (simp only [xB1, xB2]; rw [c15b0]) | skip)
         have H' := Aside0.mk H
         clear H
         go_wp2
         go_meet
         case rel => exact ⟨_, (false), (by first | rfl | (simp; done) | (simp [*]; done)), H', ⟨by have := HK1.out; have := HJ3.out; first | omega | exact Nat.le_refl _⟩, by repeat (first | exact Drawn0.refl _ | apply Drawn0.step)⟩
       case rest =>
        clear HC14
        try clear c1
        try clear p1
        try clear q1
        try clear hx1
        try clear c2
        try clear p2
        try clear q2
        try clear hx2
        try clear c3
        try clear c3b0
        try clear c5
        try clear c5b0
        try clear p6
        try clear q6
        try clear hx6
        try clear c7
        try clear c7b0
        try clear c7b1
        try clear p8
        try clear q8
        try clear hx8
        try clear c9
        try clear c9b0
        try clear c9b1
        try clear p10
        try clear q10
        try clear hx10
        try clear c11
        try clear c11b0
        try clear c11b1
        try clear p12
        try clear q12
        try clear hx12
        try clear c13
        try clear c15
        try clear c15b0
        try clear c16
        try clear c16b0
        try clear c17
        try clear c17b0
        try clear p18
        try clear q18
        try clear hx18
        try clear c19
        try clear c19b0
        try clear c19b1
        try clear c21
        try clear c21b0
        try clear p22
        try clear q22
        try clear hx22
        try clear p1
        try clear p10
        try clear p12
        try clear p18
        try clear p2
        try clear p22
        try clear p6
        try clear p8
        try clear q1
        try clear q10
        try clear q12
        try clear q18
        try clear q22
        try clear q6
        try clear q8
        obtain ⟨kq, x35_13, rfl, HA, HJ13, ⟨mc13, rfl⟩⟩ := hcut
        cases kq with
        | zero => exact absurd HA.out (by simp [xA9.j2])
        | succ kj13 =>
         have H := HA.out
         clear HA
         simp only [xA9.j2] at H
         by_cases c23 : x35_13 = true
         ·subst c23
          have H1 : (xA9.l1 kj13 a0 x1_1) = some r := by rw [if_pos rfl] at H; exact H
          clear H
          have H := H1
          clear H1
          have H' := Aside0.mk H
          clear H
          go_wp2
          go_loopg [1] kj13 (fun kq v1 w' => ∃ (x1_4 : Int), v1 = .int .i64 x1_4 ∧ Aside0 (xA9.l1 kq a0 x1_4 = some r) ∧ Aside0 (kq ≤ kj13) ∧ Drawn0 w w')
          case atStart => exact ⟨(x1_1), (by first | rfl | (simp; done) | (simp [*]; done)), H', ⟨Nat.le_refl _⟩, by repeat (first | exact Drawn0.refl _ | apply Drawn0.step)⟩
          case round =>
           clear H'
           try clear c1
           try clear p1
           try clear q1
           try clear hx1
           try clear c2
           try clear p2
           try clear q2
           try clear hx2
           try clear c3
           try clear c3b0
           try clear c5
           try clear c5b0
           try clear p6
           try clear q6
           try clear hx6
           try clear c7
           try clear c7b0
           try clear c7b1
           try clear p8
           try clear q8
           try clear hx8
           try clear c9
           try clear c9b0
           try clear c9b1
           try clear p10
           try clear q10
           try clear hx10
           try clear c11
           try clear c11b0
           try clear c11b1
           try clear p12
           try clear q12
           try clear hx12
           try clear c13
           try clear c15
           try clear c15b0
           try clear c16
           try clear c16b0
           try clear c17
           try clear c17b0
           try clear p18
           try clear q18
           try clear hx18
           try clear c19
           try clear c19b0
           try clear c19b1
           try clear c21
           try clear c21b0
           try clear p22
           try clear q22
           try clear hx22
           try clear c23
           try clear p1
           try clear p10
           try clear p12
           try clear p18
           try clear p2
           try clear p22
           try clear p6
           try clear p8
           try clear q1
           try clear q10
           try clear q12
           try clear q18
           try clear q2
           try clear q22
           try clear q6
           try clear q8
           obtain ⟨x1_4, rfl, HA, HK4, ⟨m4, rfl⟩⟩ := hrel
           cases gk with
           | zero => exact absurd HA.out (by simp [xA9.l1])
           | succ k4 =>
            have H := HA.out
            clear HA
            simp only [xA9.l1] at H
            by_cases c24 : x1_4 < (a0.size : Int)
            ·rw [if_pos c24] at H
             have c24b0 : decide (x1_4 < (a0.size : Int)) = true := decide_eq_true c24
             clear c24
             by_cases c25 : 0 ≤ x1_4
             ·rw [if_pos c25] at H
              have c25b0 : decide (0 ≤ x1_4) = true := decide_eq_true c25
              clear c25
              by_cases c27 : (bt a0 x1_4) = 10
              ·rw [if_pos c27] at H
               have c27b0 : ((bt a0 x1_4) == 10) = true := beq_iff_eq.mpr c27
               have c27b1 : ((bt a0 x1_4) != 10) = false := bne_eq_false_iff_eq.mpr c27
               clear c27
               have H' := Aside0.mk H
               clear H
               have p26 : 0 ≤ (x1_4 : Int) := of_decide_eq_true (by first | (with_reducible assumption) | assumption)
               have q26 : x1_4 < (a0.size : Int) := of_decide_eq_true (by first | (with_reducible assumption) | assumption)
               have hx26 := xD7 a0 x1_4
               replace p26 := eq_true p26
               replace q26 := eq_true q26
               go_wp2
               go_roundg k4
               case measure => have := HK1.out; have := HJ3.out; have := HJ13.out; have := HK4.out; omega
               case rel => exact ⟨(x1_4), (by first | rfl | (simp; done) | (simp [*]; done)), H', ⟨by have := HK1.out; have := HJ3.out; have := HJ13.out; have := HK4.out; omega⟩, by repeat (first | exact Drawn0.refl _ | apply Drawn0.step)⟩
              ·rw [if_neg c27] at H
               have c27b0 : ((bt a0 x1_4) == 10) = false := beq_eq_false_iff_ne.mpr c27
               have c27b1 : ((bt a0 x1_4) != 10) = true := bne_iff_ne.mpr c27
               have H' := Aside0.mk H
               clear H
               have p26 : 0 ≤ (x1_4 : Int) := of_decide_eq_true (by first | (with_reducible assumption) | assumption)
               have q26 : x1_4 < (a0.size : Int) := of_decide_eq_true (by first | (with_reducible assumption) | assumption)
               have hx26 := xD7 a0 x1_4
               replace p26 := eq_true p26
               replace q26 := eq_true q26
               go_wp2
               go_roundg k4
               case measure => have := HK1.out; have := HJ3.out; have := HJ13.out; have := HK4.out; omega
               case rel => exact ⟨(wrap64 (x1_4 + 1)), (by first | rfl | (simp; done) | (simp [*]; done)), H', ⟨by have := HK1.out; have := HJ3.out; have := HJ13.out; have := HK4.out; omega⟩, by repeat (first | exact Drawn0.refl _ | apply Drawn0.step)⟩
             ·rw [if_neg c25] at H
              exact absurd H (by simp)
            ·rw [if_neg c24] at H
             have c24b0 : decide (x1_4 < (a0.size : Int)) = false := decide_eq_false c24
             clear c24
             have H' := Aside0.mk H
             clear H
             go_wp2
             go_roundg k4
             case measure => have := HK1.out; have := HJ3.out; have := HJ13.out; have := HK4.out; omega
             case rel => exact ⟨(x1_4), (by first | rfl | (simp; done) | (simp [*]; done)), H', ⟨by have := HK1.out; have := HJ3.out; have := HJ13.out; have := HK4.out; omega⟩, by repeat (first | exact Drawn0.refl _ | apply Drawn0.step)⟩
         ·replace c23 := Bool.eq_false_iff.mpr c23
          subst c23
          have H1 : (some x1_1) = some r := by rw [if_neg (show ¬ (false = true) by decide)] at H; exact H
          clear H
          have H := H1
          clear H1
          obtain rfl := Option.some.inj H
          go_wp2
          go_ret
          exact ⟨by first | rfl | (simp; done) | (simp [*]; done), by repeat (first | exact Drawn0.refl _ | apply Drawn0.step)⟩
   ·rw [if_neg c3] at H
    have c3b0 : decide (x1_1 < (a0.size : Int)) = false := decide_eq_false c3
    clear c3
    obtain rfl := Option.some.inj H
    go_wp2
    go_ret
    exact ⟨by first | rfl | (simp; done) | (simp [*]; done), by repeat (first | exact Drawn0.refl _ | apply Drawn0.step)⟩

end Go.Proofs.YtknbfhhmjbnemaaDoor.P
end
section
namespace Go.Proofs.YtknbfhhmjbnemaaDoor.P
open Go.RowKit Go.Proofs.YtknbfhhmjbnemaaDoorW.PrintWords Go.Proofs.YtknbfhhmjbnemaaDoorW.PrintLast Go.Proofs.YtknbfhhmjbnemaaDoorW.PrintMore
attribute [local go_sem] xBh xBp

/-! ### xAw: function 20 -/
def xAw.l0 : Nat → ByteArray → List (S60) → Int → Option ((List (S60)) × Int × Int)
 | 0, _, _, _ => none
 | k + 1, x0, x5, x6 => if x6 < (x0.size : Int) then (if (x5.length : Int) = 500 then (some (([] : List (S60)), 103, x6)) else ((xC0.f x0 x6).bind fun bt214 => (if bt214.2.2.2.2.2.1 = 0 then (if x5.length < 3518437208883 then ((xA9.f k x0 bt214.2.2.2.2.1).bind fun t225 => (xAw.l0 k x0 (x5 ++ [(⟨bt214.1, bt214.2.1, bt214.2.2.1, bt214.2.2.2.1⟩ : S60)]) t225)) else (none)) else (some (([] : List (S60)), bt214.2.2.2.2.2.1, bt214.2.2.2.2.2.2))))) else (some (x5, 0, (-1)))
def xAw.f (k : Nat) (a0 : ByteArray) : Option ((List (S60)) × Int × Int) := if (a0.size : Int) > 2000 then (some (([] : List (S60)), 103, 0)) else ((xA9.f k a0 0).bind fun t213 => (xAw.l0 k a0 ([] : List (S60)) t213))
set_option maxHeartbeats 8000000 in
set_option maxRecDepth 100000 in
theorem xAw.calls (k : Nat) (a0 : ByteArray) (r1 : List (S60)) (r2 : Int) (r3 : Int) (w : World) (h : xAw.f k a0 = some (r1, r2, r3)) :
  Calls Tryd.prog 20 #[.string a0] w fun e w' => ∃ v0_ : Value, e = .returned (.tuple #[v0_, .int .i64 r2, .int .i64 r3]) ∧ Kd.R k60 60 w' w.heap.size (fun _ => True) v0_ r1 ∧ Below w.heap.size w w' := by
 have hu60 := Tryd.underlying60
 have HB := Aside0.mk (Below.refl w.heap.size w)
 have H : (if (a0.size : Int) > 2000 then (some (([] : List (S60)), 103, 0)) else ((xA9.f k a0 0).bind fun t213 => (xAw.l0 k a0 ([] : List (S60)) t213))) = some (r1, r2, r3) := h
 clear h
 by_cases c2 : (a0.size : Int) > 2000
 ·rw [if_pos c2] at H
  have c2b0 : decide (2000 < (a0.size : Int)) = true := decide_eq_true c2
  have c2b1 : decide (2000 < a0.size) = true := decide_eq_true (by omega)
  clear c2
  simp only [Option.some.injEq, Prod.mk.injEq] at H
  obtain ⟨rfl, rfl, rfl⟩ := H
  go_enter Tryd.func20, Tryd.ntmps20
  go_wp2
  go_ret3
  exact ⟨_, by first | rfl | (simp <;> rfl) | (simp [*] <;> rfl), by first | exact Kd.R_nil _ _ _ _ _ | exact Kd.N_nil _ _ _ _ _ | exact Kd.V_nil _ _ _ _ _ | exact Kd.Q_nil _ _ _ _ _ | exact Kd.S_nil _ _ _ _ _, by repeat (first | (with_reducible first | exact HB.out | apply xA2 | apply xA0 | apply xA3) | exact HB.out)⟩
 ·rw [if_neg c2] at H
  have c2b0 : decide (2000 < (a0.size : Int)) = false := decide_eq_false c2
  have c2b1 : decide (2000 < a0.size) = false := decide_eq_false (by omega)
  clear c2
  replace H := Option.bind_eq_some_iff.mp H
  obtain ⟨t213, A30, H⟩ := H
  replace H : (xAw.l0 k a0 ([] : List (S60)) t213) = some (r1, r2, r3) := H
  have A3 := Aside0.mk A30
  clear A30
  have H' := Aside0.mk H
  clear H
  go_enter Tryd.func20, Tryd.ntmps20
  go_wp2_with (first | ((with_reducible refine xAo (f := 39) rfl ?_); refine xBo (some 15) rfl rfl Tryd.func39 (by kernel_rfl) rfl #[.string a0, .int .i64 0] rfl (by (try simp only [List.map_toArray, List.map_cons, List.map_nil]); first | done | rfl | (simp only [List.length_drop, List.length_take]; rfl)) ?_; (with_reducible refine (xA9.calls k a0 0 t213 _ A3.out).mono ?_); rintro e w' ⟨rfl, ⟨nd, rfl⟩⟩; refine ⟨_, rfl, ?_⟩))
  go_loopg [5, 6] k (fun kq v5 v6 w' => ∃ (x5_1 : List (S60)) (x6_1 : Int), v6 = .int .i64 x6_1 ∧ Aside0 (xAw.l0 kq a0 x5_1 x6_1 = some (r1, r2, r3)) ∧ Aside0 (kq ≤ k) ∧ Aside0 (Kd.R k60 60 w' w.heap.size (fun _ => True) v5 x5_1) ∧ Aside0 (Below w.heap.size w w'))
  case atStart => exact ⟨(([] : List (S60))), (t213), (by first | rfl | (simp; done) | (simp [*]; done)), H', ⟨Nat.le_refl _⟩, ⟨by first | exact Kd.R_nil _ _ _ _ _ | exact Kd.N_nil _ _ _ _ _ | exact Kd.V_nil _ _ _ _ _ | exact Kd.Q_nil _ _ _ _ _ | exact Kd.S_nil _ _ _ _ _⟩, ⟨by repeat (first | (with_reducible first | exact HB.out | apply xA2 | apply xA0 | apply xA3) | exact HB.out)⟩⟩
  case round =>
   clear H'
   try clear c2
   try clear c2b0
   try clear c2b1
   try clear p2
   try clear c3
   obtain ⟨x5_1, x6_1, rfl, HA, HK1, HO_5, HB⟩ := hrel
   cases gk with
   | zero => exact absurd HA.out (by simp [xAw.l0])
   | succ k1 =>
    have H := HA.out
    clear HA
    simp only [xAw.l0] at H
    by_cases c4 : x6_1 < (a0.size : Int)
    ·rw [if_pos c4] at H
     have c4b0 : decide (x6_1 < (a0.size : Int)) = true := decide_eq_true c4
     clear c4
     by_cases c5 : (x5_1.length : Int) = 500
     ·rw [if_pos c5] at H
      have c5b0 : ((x5_1.length : Int) == 500) = true := beq_iff_eq.mpr c5
      have c5b1 : ((x5_1.length : Int) != 500) = false := bne_eq_false_iff_eq.mpr c5
      clear c5
      simp only [Option.some.injEq, Prod.mk.injEq] at H
      obtain ⟨rfl, rfl, rfl⟩ := H
      obtain ⟨Ao6, co6, eo6⟩ := Kd.R_slice HO_5.out
      subst eo6
      go_wp2
      go_ret3
      exact ⟨_, by first | rfl | (simp <;> rfl) | (simp [*] <;> rfl), by first | exact Kd.R_nil _ _ _ _ _ | exact Kd.N_nil _ _ _ _ _ | exact Kd.V_nil _ _ _ _ _ | exact Kd.Q_nil _ _ _ _ _ | exact Kd.S_nil _ _ _ _ _, by repeat (first | (with_reducible first | exact HB.out | apply xA2 | apply xA0 | apply xA3) | exact HB.out)⟩
     ·rw [if_neg c5] at H
      have c5b0 : ((x5_1.length : Int) == 500) = false := beq_eq_false_iff_ne.mpr c5
      have c5b1 : ((x5_1.length : Int) != 500) = true := bne_iff_ne.mpr c5
      replace H := Option.bind_eq_some_iff.mp H
      obtain ⟨⟨t214, t215, t216, t217, t218, t219, t220⟩, A70, H⟩ := H
      replace H : (if t219 = 0 then (if x5_1.length < 3518437208883 then ((xA9.f k1 a0 t218).bind fun t225 => (xAw.l0 k1 a0 (x5_1 ++ [(⟨t214, t215, t216, t217⟩ : S60)]) t225)) else (none)) else (some (([] : List (S60)), t219, t220))) = some (r1, r2, r3) := H
      have A7 := Aside0.mk A70
      clear A70
      by_cases c8 : t219 = 0
      ·rw [if_pos c8] at H
       have c8b0 : (t219 == 0) = true := beq_iff_eq.mpr c8
       have c8b1 : (t219 != 0) = false := bne_eq_false_iff_eq.mpr c8
       clear c8
       by_cases c9 : x5_1.length < 3518437208883
       ·rw [if_pos c9] at H
        have LMc9 := Aside0.mk c9
        clear c9
        obtain ⟨y222, hy222⟩ : ∃ y_ : List (S60), y_ = (x5_1 ++ [(⟨t214, t215, t216, t217⟩ : S60)]) := ⟨_, rfl⟩
        replace H : ((xA9.f k1 a0 t218).bind fun t225 => (xAw.l0 k1 a0 y222 t225)) = some (r1, r2, r3) := by first | (rw [hy222]; with_reducible exact H) | (have H2_ := (Option.bind_some _ _).symm.trans H; rw [hy222]; with_reducible exact H2_) | (have H2_ := (Option.bind_some _ _).symm.trans H; with_reducible exact H2_) | with_reducible exact H | (rw [hy222]; exact H) | exact H
        have Ny222 := Aside0.mk hy222
        clear hy222
        replace H := Option.bind_eq_some_iff.mp H
        obtain ⟨t225, A100, H⟩ := H
        replace H : (xAw.l0 k1 a0 y222 t225) = some (r1, r2, r3) := H
        have A10 := Aside0.mk A100
        clear A100
        have H' := Aside0.mk H
        clear H
        obtain ⟨Ao11, co11, eo11⟩ := Kd.R_slice HO_5.out
        subst eo11
        go_wp2_with (first | ((with_reducible refine xAo (f := 40) rfl ?_); refine xBo (some 27) rfl rfl Tryd.func40 (by kernel_rfl) rfl #[.string a0, .int .i64 x6_1] rfl (by (try simp only [List.map_toArray, List.map_cons, List.map_nil]); first | done | rfl | (simp only [List.length_drop, List.length_take]; rfl)) ?_; (with_reducible refine (xC0.calls a0 x6_1 t214 t215 t216 t217 t218 t219 t220 _ A7.out).mono ?_); rintro e w12 ⟨rfl, hb⟩; refine ⟨_, rfl, ?_⟩; have n0_ := Aside0.mk (Kd.R_below (by (with_reducible repeat (first | apply Kd.R_alloc | apply Kd.R_drewN | apply Kd.R_drew)); exact HO_5.out) hb); have n1_ := Aside0.mk (xAz (by repeat (first | (with_reducible first | exact HB.out | apply xA2 | apply xA0 | apply xA3) | exact HB.out)) hb); clear HO_5; clear HB; have HO_5 := n0_; have HB := n1_; clear n0_ n1_; (try clear hb); (try clear hb2); (try clear hk); (try clear hi)) | ((with_reducible refine xB0 (N := 7) rfl ?_); refine xB9 ?hg (N := 7) ?hd (cs := #[.int .i64 0, .string (⟨#[]⟩ : ByteArray), .int .i64 0, .int .i64 0]) (t := 60) ?hr ?_; (case hd => rfl); (case hg => rfl); (case hr => first | (go_simp; done) | (go_simp; rfl)); intro gb221 hg w13 hbox hb; have n0_ := Aside0.mk (Kd.R_below (Kd.R_elderB (by (with_reducible repeat (first | apply Kd.R_alloc | apply Kd.R_drewN | apply Kd.R_drew)); exact HO_5.out) gb221 (Nat.le_of_eq hg.symm)) hb); have n1_ := Aside0.mk (xAz (by repeat (first | (with_reducible first | exact HB.out | apply xA2 | apply xA0 | apply xA3) | exact HB.out)) hb); have n2_ := Aside0.mk (hbox); have n3_ := Aside0.mk ((by rw [hg]; exact (xBa (by repeat (first | (with_reducible first | exact HB.out | apply xA2 | apply xA0 | apply xA3) | exact HB.out))) : w.heap.size ≤ gb221)); have n4_ := Aside0.mk ((by rw [hg]; exact (xBa (by repeat (first | (with_reducible first | exact HB.out | apply xA2 | apply xA0 | apply xA3) | exact HB.out))) : w.heap.size ≤ gb221)); clear HO_5; clear HB; have HO_5 := n0_; have HB := n1_; have BK221 := n2_; have GW221 := n3_; have GE221 := n4_; clear n0_ n1_ n2_ n3_ n4_; clear hb hbox hg; obtain ⟨hcz14_0, hcz14_1, hcz14_2, hcz14_3, hfz14_0, hfz14_1, hfz14_2, hfz14_3⟩ := ex4 BK221.out) | ((with_reducible refine xCh (b := .append) (xs := #[.tmp 36, .tmp 38]) rfl ?_); at_builtin; refine Kd.R_append k60 (w0 := w) w.heap.size rfl (.tmp 36) (.tmp 38) 36 60 (.agg #[(.int .i64 0), (.string ⟨#[]⟩), (.int .i64 0), (.int .i64 0)]) 40 rfl Tryd.underlying36 info60 rfl (by decide) (by omega) (.slice Ao11 x5_1.length co11) x5_1 (⟨t214, t215, t216, t217⟩ : S60) [.int .i64 t214, .string t215, .int .i64 t216, .int .i64 t217] (fun k_ => k_ ≠ gb221) (fun _ => False) rfl (by first | (go_simp; done) | (go_simp; rfl)) ?aP (fun _ hk => hk.elim) ?aF ?aO ?aB ?aS ?aL ?_; (case aP => exact xMg _ _ _ (⟨t214, t215, t216, t217⟩ : S60)); (case aB => exact (by repeat (first | (with_reducible first | exact HB.out | apply xA2 | apply xA0 | apply xA3 | refine xAa ?_ GE221.out) | exact HB.out))); (case aF => exact (fun k_ hk => Kd.freshB (g := gb221) (o := .cells #[.int .i64 t214, .string t215, .int .i64 t216, .int .i64 t217] 60 (0, 0)) (by (with_reducible repeat (first | refine xA7 ?_ _ | refine xAc ?_ | refine xA6 ?_ _)); refine xA1 (cs := #[.int .i64 t214, .string t215, .int .i64 t216, .int .i64 0]) ?_ 3 _ rfl; (with_reducible repeat (first | refine xA7 ?_ _ | refine xAc ?_ | refine xA6 ?_ _)); refine xA1 (cs := #[.int .i64 t214, .string t215, .int .i64 0, .int .i64 0]) ?_ 2 _ rfl; (with_reducible repeat (first | refine xA7 ?_ _ | refine xAc ?_ | refine xA6 ?_ _)); refine xA1 (cs := #[.int .i64 t214, .string (⟨#[]⟩ : ByteArray), .int .i64 0, .int .i64 0]) ?_ 1 _ rfl; (with_reducible repeat (first | refine xA7 ?_ _ | refine xAc ?_ | refine xA6 ?_ _)); refine xA1 (cs := #[.int .i64 0, .string (⟨#[]⟩ : ByteArray), .int .i64 0, .int .i64 0]) ?_ 0 _ rfl; (with_reducible repeat (first | refine xA7 ?_ _ | refine xAc ?_ | refine xA6 ?_ _)); exact BK221.out) k_ hk)); (case aO => exact (by (with_reducible repeat (first | apply Kd.R_alloc | apply Kd.R_drewN | apply Kd.R_drew)); exact Kd.R_mono (Kd.R_far (p := ⟨gb221, 3, none⟩) (Kd.R_far (p := ⟨gb221, 2, none⟩) (Kd.R_far (p := ⟨gb221, 1, none⟩) (Kd.R_far (p := ⟨gb221, 0, none⟩) (Kd.R_mono HO_5.out (fun k_ hk => (⟨hk, hk.2⟩ : _ ∧ k_ ≠ gb221))) (fun _ hk => hk.2) (.int .i64 t214)) (fun _ hk => hk.2) (.string t215)) (fun _ hk => hk.2) (.int .i64 t216)) (fun _ hk => hk.2) (.int .i64 t217)) (fun _ hk => hk.1.2))); (case aS => exact (xBa (by repeat (first | (with_reducible first | exact HB.out | apply xA2 | apply xA0 | apply xA3 | refine xAa ?_ GE221.out) | exact HB.out)))); (case aL => have := LMc9.out; omega); intro v223 w15 ho hb hg hat; rw [← Ny222.out] at ho; have n0_ := Aside0.mk (xBk (g := gb221) (o := .cells #[.int .i64 t214, .string t215, .int .i64 t216, .int .i64 t217] 60 (0, 0)) (by (with_reducible repeat (first | refine xA7 ?_ _ | refine xAc ?_ | refine xA6 ?_ _)); refine xA1 (cs := #[.int .i64 t214, .string t215, .int .i64 t216, .int .i64 0]) ?_ 3 _ rfl; (with_reducible repeat (first | refine xA7 ?_ _ | refine xAc ?_ | refine xA6 ?_ _)); refine xA1 (cs := #[.int .i64 t214, .string t215, .int .i64 0, .int .i64 0]) ?_ 2 _ rfl; (with_reducible repeat (first | refine xA7 ?_ _ | refine xAc ?_ | refine xA6 ?_ _)); refine xA1 (cs := #[.int .i64 t214, .string (⟨#[]⟩ : ByteArray), .int .i64 0, .int .i64 0]) ?_ 1 _ rfl; (with_reducible repeat (first | refine xA7 ?_ _ | refine xAc ?_ | refine xA6 ?_ _)); refine xA1 (cs := #[.int .i64 0, .string (⟨#[]⟩ : ByteArray), .int .i64 0, .int .i64 0]) ?_ 0 _ rfl; (with_reducible repeat (first | refine xA7 ?_ _ | refine xAc ?_ | refine xA6 ?_ _)); exact BK221.out) hg (Kd.R_away HO_5.out (fun _ hk => hk.2))); have n1_ := Aside0.mk (hb); have n2_ := Aside0.mk (ho); clear BK221; clear HB; clear HO_5; have BK221 := n0_; have HB := n1_; have HO224 := n2_; clear n0_ n1_ n2_; clear ho hb hg hat) | ((with_reducible refine xAo (f := 39) rfl ?_); refine xBo (some 42) rfl rfl Tryd.func39 (by kernel_rfl) rfl #[.string a0, .int .i64 t218] rfl (by (try simp only [List.map_toArray, List.map_cons, List.map_nil]); first | done | rfl | (simp only [List.length_drop, List.length_take]; rfl)) ?_; (with_reducible refine (xA9.calls k1 a0 t218 t225 _ A10.out).mono ?_); rintro e w' ⟨rfl, ⟨nd, rfl⟩⟩; refine ⟨_, rfl, ?_⟩))
        go_roundg k1
        case measure => have := HK1.out; omega
        case rel => exact ⟨(y222), (t225), (by first | rfl | (simp; done) | (simp [*]; done)), H', ⟨by have := HK1.out; omega⟩, ⟨by (with_reducible repeat (first | apply Kd.R_alloc | apply Kd.R_drewN | apply Kd.R_drew)); exact Kd.R_mono HO224.out (fun _ hk => trivial)⟩, ⟨by repeat (first | (with_reducible first | exact HB.out | apply xA2 | apply xA0 | apply xA3 | refine xAa ?_ GE221.out) | exact HB.out)⟩⟩
       ·rw [if_neg c9] at H
        exact absurd H (by simp)
      ·rw [if_neg c8] at H
       have c8b0 : (t219 == 0) = false := beq_eq_false_iff_ne.mpr c8
       have c8b1 : (t219 != 0) = true := bne_iff_ne.mpr c8
       simp only [Option.some.injEq, Prod.mk.injEq] at H
       obtain ⟨rfl, rfl, rfl⟩ := H
       obtain ⟨Ao16, co16, eo16⟩ := Kd.R_slice HO_5.out
       subst eo16
       go_wp2_with (first | ((with_reducible refine xAo (f := 40) rfl ?_); refine xBo (some 27) rfl rfl Tryd.func40 (by kernel_rfl) rfl #[.string a0, .int .i64 x6_1] rfl (by (try simp only [List.map_toArray, List.map_cons, List.map_nil]); first | done | rfl | (simp only [List.length_drop, List.length_take]; rfl)) ?_; (with_reducible refine (xC0.calls a0 x6_1 t214 t215 t216 t217 t218 t219 t220 _ A7.out).mono ?_); rintro e w17 ⟨rfl, hb⟩; refine ⟨_, rfl, ?_⟩; have n0_ := Aside0.mk (Kd.R_below (by (with_reducible repeat (first | apply Kd.R_alloc | apply Kd.R_drewN | apply Kd.R_drew)); exact HO_5.out) hb); have n1_ := Aside0.mk (xAz (by repeat (first | (with_reducible first | exact HB.out | apply xA2 | apply xA0 | apply xA3) | exact HB.out)) hb); clear HO_5; clear HB; have HO_5 := n0_; have HB := n1_; clear n0_ n1_; (try clear hb); (try clear hb2); (try clear hk); (try clear hi)) | ((with_reducible refine xB0 (N := 7) rfl ?_); refine xB9 ?hg (N := 7) ?hd (cs := #[.int .i64 0, .string (⟨#[]⟩ : ByteArray), .int .i64 0, .int .i64 0]) (t := 60) ?hr ?_; (case hd => rfl); (case hg => rfl); (case hr => first | (go_simp; done) | (go_simp; rfl)); intro gb221 hg w18 hbox hb; have n0_ := Aside0.mk (Kd.R_below (Kd.R_elderB (by (with_reducible repeat (first | apply Kd.R_alloc | apply Kd.R_drewN | apply Kd.R_drew)); exact HO_5.out) gb221 (Nat.le_of_eq hg.symm)) hb); have n1_ := Aside0.mk (xAz (by repeat (first | (with_reducible first | exact HB.out | apply xA2 | apply xA0 | apply xA3) | exact HB.out)) hb); have n2_ := Aside0.mk (hbox); have n3_ := Aside0.mk ((by rw [hg]; exact (xBa (by repeat (first | (with_reducible first | exact HB.out | apply xA2 | apply xA0 | apply xA3) | exact HB.out))) : w.heap.size ≤ gb221)); have n4_ := Aside0.mk ((by rw [hg]; exact (xBa (by repeat (first | (with_reducible first | exact HB.out | apply xA2 | apply xA0 | apply xA3) | exact HB.out))) : w.heap.size ≤ gb221)); clear HO_5; clear HB; have HO_5 := n0_; have HB := n1_; have BK221 := n2_; have GW221 := n3_; have GE221 := n4_; clear n0_ n1_ n2_ n3_ n4_; clear hb hbox hg; obtain ⟨hcz19_0, hcz19_1, hcz19_2, hcz19_3, hfz19_0, hfz19_1, hfz19_2, hfz19_3⟩ := ex4 BK221.out))
       go_ret3
       exact ⟨_, by first | rfl | (simp <;> rfl) | (simp [*] <;> rfl), by first | exact Kd.R_nil _ _ _ _ _ | exact Kd.N_nil _ _ _ _ _ | exact Kd.V_nil _ _ _ _ _ | exact Kd.Q_nil _ _ _ _ _ | exact Kd.S_nil _ _ _ _ _, by repeat (first | (with_reducible first | exact HB.out | apply xA2 | apply xA0 | apply xA3 | refine xAa ?_ GE221.out) | exact HB.out)⟩
    ·rw [if_neg c4] at H
     have c4b0 : decide (x6_1 < (a0.size : Int)) = false := decide_eq_false c4
     clear c4
     simp only [Option.some.injEq, Prod.mk.injEq] at H
     obtain ⟨rfl, rfl, rfl⟩ := H
     go_wp2
     go_ret3
     exact ⟨_, by first | rfl | (simp <;> rfl) | (simp [*] <;> rfl), by (with_reducible repeat (first | apply Kd.R_alloc | apply Kd.R_drewN | apply Kd.R_drew)); exact HO_5.out, by repeat (first | (with_reducible first | exact HB.out | apply xA2 | apply xA0 | apply xA3) | exact HB.out)⟩

end Go.Proofs.YtknbfhhmjbnemaaDoor.P
end
section
namespace Go.Proofs.YtknbfhhmjbnemaaDoor.P
open Go.RowKit Go.Proofs.YtknbfhhmjbnemaaDoorW.PrintWords Go.Proofs.YtknbfhhmjbnemaaDoorW.PrintLast Go.Proofs.YtknbfhhmjbnemaaDoorW.PrintMore

theorem xLs (k : Nat) : xGf k := by
 induction k using Nat.strongRecOn with
 | ind k ih =>
  cases k with
  | zero => intro g T i n bad at_ nest r s w0 w _ _ h; rw [rexpr] at h; cases h
  | succ k => exact xKr k (fun k' hk' => ih k' (by omega))
def xFh (K : Nat) : Nat → List S60 → Int → Int → Int → Int → List S25 → Option (List S25 × RSt)
 | 0, _, _, _, _, _, _ => none
 | k + 1, T, i, n, bad, at_, acc =>
  if i < (T.length : Int) ∧ bad = 0 then
   if acc.length ≤ 1000000 then (xI3 K T i n bad at_).bind fun (x, i, n, bad, at_) => xFh K k T i n bad at_ (acc ++ [x]) else none
  else some (acc, i, n, bad, at_)
def xK3 (k : Nat) (s : ByteArray) : Option (S25 × Int × Int) :=
 (xAw.f k s).bind fun (T, e, p) =>
 if e = 0 then
  (xFh k k T 0 (s.size : Int) 0 0 []).bind fun (L, _, _, bad, at_) => if bad = 0 then some (⟨(⟨#[102, 105, 108, 101]⟩ : ByteArray), ⟨#[]⟩, 0, 0, L⟩, 0, -1) else some (z25, bad, at_)
 else some (z25, e, p)
/-- Where Parse stands. -/
structure PaS (w0 w W : World) (g : Nat) (T : List S60) (i n bad at_ : Int) (b4 bn : Nat) (Lv : Value) (L : List S25) : Prop where
 rs : RdS w0 w W g T i n bad at_
 r4 : W.heap[b4]? = some (.cells #[.string (⟨#[]⟩ : ByteArray), .string (⟨#[]⟩ : ByteArray), .int .i64 0, .int .i64 0, .slice none 0 0] 25 (0, 0))
 nb : W.heap[bn]? = some (.cells #[.string (⟨#[102, 105, 108, 101]⟩ : ByteArray), .string ⟨#[]⟩, .int .i64 0, .int .i64 0, Lv] 25 (0, 0))
 row : Kd.N k25 25 W w.heap.size (fun k => w.heap.size ≤ k ∧ k ≠ bn) Lv L
 g4 : b4 < w.heap.size ∧ b4 ≠ g
 gn : w.heap.size ≤ bn
 gg : g < w.heap.size
 ww : w0.heap.size ≤ w.heap.size
section
variable {w0 w W W1 : World} {g b4 bn : Nat} {T : List S60} {i n bad at_ i' n' bad' at_' : Int} {Lv : Value} {L : List S25}
theorem PaS.below (h : PaS w0 w W g T i n bad at_ b4 bn Lv L) (hb : Below W.heap.size W W1) : PaS w0 w W1 g T i n bad at_ b4 bn Lv L :=
 ⟨h.rs.below hb, xAx h.r4 hb, xAx h.nb hb, Kd.N_below h.row hb, h.g4, h.gn, h.gg, h.ww⟩
theorem PaS.call (h : PaS w0 w W g T i n bad at_ b4 bn Lv L) (h1 : xAe w0 W1 g T i' n' bad' at_') (h2 : Below w0.heap.size w0 W1) (h3 : xAk W W1 g none) : PaS w0 w W1 g T i' n' bad' at_' b4 bn Lv L :=
 ⟨h.rs.call h1 h2 h3, h3.blk h.r4 h.g4.2 (by simp), h3.blk h.nb (by have := h.gn; have := h.gg; omega) (by simp), Kd.N_keep h.row h3 (fun k hk => by have := h.gg; omega), h.g4, h.gn, h.gg, h.ww⟩
theorem PaS.lt (h : PaS w0 w W g T i n bad at_ b4 bn Lv L) : bn < W.heap.size ∧ ∀ k, Lv.ownBlock = some k → k < W.heap.size ∧ w.heap.size ≤ k ∧ k ≠ bn := ⟨xBs h.nb, fun k hk => ⟨Kd.N_lt h.row k hk, h.row.1 k hk⟩⟩
theorem PaS.append {Lv1 : Value} {ys : List S25} (h : PaS w0 w W g T i n bad at_ b4 bn Lv L) (hr : Kd.N k25 25 W1 w.heap.size (fun k => w.heap.size ≤ k ∧ k ≠ bn) Lv1 (L ++ ys)) (hg : W.grownBy W1 Lv.ownBlock) : PaS w0 w (W1.setCell ⟨bn, 4, none⟩ Lv1) g T i n bad at_ b4 bn Lv1 (L ++ ys) := by
 have hl := h.lt.2
 have h1 := h.rs.grown hg h.gg h.ww (fun k hk => (hl k hk).2.1)
 refine ⟨h1.far (by have := h.gg; have := h.gn; omega) h.gn (Nat.le_trans h.ww h.gn) _, ?_, ?_, ?_, h.g4, h.gn, h.gg, h.ww⟩
 ·exact xAh (p := ⟨bn, 4, none⟩) (xBk h.r4 hg (fun e => by have := (hl _ e.symm).2.1; have := h.g4.1; omega)) (by show b4 ≠ bn; have := h.g4.1; have := h.gn; omega) _
 ·exact xA1 (xBk h.nb hg (fun e => (hl _ e.symm).2.2 rfl)) 4 _ rfl
 ·exact Kd.N_far (p := ⟨bn, 4, none⟩) hr (fun k hk => hk.2) _
end
/-- What Parse ends with. -/
def PaEnd (w : World) (r : S25) (e p : Int) (en : Ending) (w' : World) : Prop := ∃ v, en = .returned (.tuple #[.agg #[.string r.f0, .string r.f1, .int .i64 r.f2, .int .i64 r.f3, v], .int .i64 e, .int .i64 p]) ∧ Kd.N k25 25 w' w.heap.size (fun k => w.heap.size ≤ k) v r.f4 ∧ Below w.heap.size w w'
set_option maxHeartbeats 16000000 in
set_option maxRecDepth 100000 in
theorem xIq (k : Nat) (s : ByteArray) (r : S25) (e p : Int) (w : World) (hs : s.size ≤ 140737488351232) (h : xK3 k s = some (r, e, p)) : Calls Tryd.prog 11 #[.string s] w (PaEnd w r e p) := by
  have hu25 := Tryd.underlying25
  have hu48 := Tryd.underlying48
  unfold xK3 at h
  obtain ⟨⟨T, e0, p0⟩, hsc, h⟩ := Option.bind_eq_some_iff.mp h
  dsimp only at h
  have HSC := Aside0.mk hsc
  clear hsc
  have HH := Aside0.mk h
  clear h
  have HR4 := Aside0.mk (xBj w (.cells #[.string (⟨#[]⟩ : ByteArray), .string (⟨#[]⟩ : ByteArray), .int .i64 0, .int .i64 0, .slice none 0 0] 25))
  have HB4 := Aside0.mk (xA2 (Below.refl w.heap.size w) (.cells #[.string (⟨#[]⟩ : ByteArray), .string (⟨#[]⟩ : ByteArray), .int .i64 0, .int .i64 0, .slice none 0 0] 25))
  go_enter Tryd.func11, Tryd.ntmps11
  go_upto_region 2 with (go_at_call 20; (with_reducible refine (xAw.calls k s T e0 p0 _ HSC.out).mono ?_); rintro e wS ⟨v0, rfl, hr0, hb0⟩; obtain ⟨A0, c0, rfl, hc0, hC0⟩ := Kd.R_reads hr0; have BS := Aside0.mk hb0; have CS := Aside0.mk hC0; have HRS := Aside0.mk (xAx HR4.out hb0); have HCL := Aside0.mk hc0; clear hr0 hb0 hc0 hC0)
  have BW := Aside0.mk (xBv HB4.out HB4.out.size BS.out)
  clear HR4 HB4 BS
  by_cases he : e0 = 0
  rotate_left 1
  · have h := HH.out
    rw [if_neg he] at h
    simp only [Option.some.injEq, Prod.mk.injEq] at h
    obtain ⟨rfl, rfl, rfl⟩ := h
    have de : (e0 != 0) = true := by simpa using he
    obtain ⟨hr0, hr1, hr2, hr3, hr4, hf0, hf1, hf2, hf3, hf4⟩ := ex5 HRS.out
    go_wp2
    refine bodyPost_ret (xBl (rs := [.cell 2 25, .tmp 3, .tmp 4]) rfl (by simp) (.cell w.heap.size 25 #[.string ⟨#[]⟩, .string ⟨#[]⟩, .int .i64 0, .int .i64 0, .slice none 0 0] (0, 0) _ rfl (xA1 ((xA1 ((xA1 ((xA1 ((xA1 (HRS.out) 0 (.string ⟨#[]⟩) rfl)) 1 (.string ⟨#[]⟩) rfl)) 2 (.int .i64 0) rfl)) 3 (.int .i64 0) rfl)) 4 (.slice none 0 0) rfl) Tryd.underlying25 rfl (by kernel_rfl) (.tmp (.tmp .nil)))) rfl ?_
    exact ⟨_, rfl, Kd.N_nil _ _ _ _ _, ((((((((((BW.out).setCell (p := ⟨w.heap.size, 0, none⟩) (Nat.le_refl _) (.string ⟨#[]⟩))).setCell (p := ⟨w.heap.size, 1, none⟩) (Nat.le_refl _) (.string ⟨#[]⟩))).setCell (p := ⟨w.heap.size, 2, none⟩) (Nat.le_refl _) (.int .i64 0))).setCell (p := ⟨w.heap.size, 3, none⟩) (Nat.le_refl _) (.int .i64 0))).setCell (p := ⟨w.heap.size, 4, none⟩) (Nat.le_refl _) (.slice none 0 0))⟩
  subst he
  have h := HH.out
  rw [if_pos rfl] at h
  clear HH
  obtain ⟨⟨L, i1, n1, b1, a1⟩, hst, h⟩ := Option.bind_eq_some_iff.mp h
  dsimp only at h
  have HST := Aside0.mk hst
  clear hst
  have HH := Aside0.mk h
  clear h
  go_upto_region 5 with (fail)
  generalize hW : World.alloc wS _ = wR
  obtain ⟨g, hg⟩ : ∃ g, g = wS.heap.size := ⟨_, rfl⟩
  rw [← hg]
  have RR := Aside0.mk (show RdS wS wR wR g T 0 (s.size : Int) 0 0 from by rw [← hW, hg]; exact ⟨xAe.new wS wS A0 c0 T 0 _ 0 0 (Below.refl _ _) CS.out, xA2 (Below.refl _ _) _, xAk.refl _ _ _⟩)
  have HRR := Aside0.mk (show wR.heap[w.heap.size]? = some (.cells #[.string (⟨#[]⟩ : ByteArray), .string (⟨#[]⟩ : ByteArray), .int .i64 0, .int .i64 0, .slice none 0 0] 25 (0, 0)) from by rw [← hW]; exact xA6 HRS.out _)
  have BR := Aside0.mk (show Below w.heap.size w wR from by rw [← hW]; exact xA2 BW.out _)
  have GG := Aside0.mk (show g < wR.heap.size ∧ w.heap.size < g ∧ wS.heap.size ≤ wR.heap.size from by have h1 := xBs HRS.out; rw [← hW, World.size_alloc]; omega)
  clear hW hg HRS HCL
  go_upto_block 0 with (first | ((with_reducible refine xB0 (N := 9) rfl ?_); refine xB9 ?hg (N := 9) ?hd (cs := #[.string (⟨#[]⟩ : ByteArray), .string (⟨#[]⟩ : ByteArray), .int .i64 0, .int .i64 0, .slice none 0 0]) (t := 25) ?hr ?_; (case hd => rfl); (case hg => rfl); (case hr => first | (go_simp; done) | (go_simp; rfl)); intro bn hg w3 hbox hb; have BX := Aside0.mk hb; have NB := Aside0.mk hbox; have HG := Aside0.mk hg; obtain ⟨c0, c1, c2, c3, c4, f0, f1, f2, f3, f4⟩ := ex5 hbox; clear hb hbox hg))
  generalize hW : World.setCell (World.setCell (World.setCell (World.setCell (World.setCell w3 _ _) _ _) _ _) _ _) _ _ = W3
  have PS := Aside0.mk (show PaS wS wR W3 g T 0 (s.size : Int) 0 0 w.heap.size bn (.slice none 0 0) [] from by
    have hge : wR.heap.size ≤ bn := Nat.le_of_eq HG.out.symm
    have hb := ((((BX.out.setCell (p := ⟨bn, 0, none⟩) hge (.string (⟨#[102, 105, 108, 101]⟩ : ByteArray))).setCell (p := ⟨bn, 1, none⟩) hge (.string ⟨#[]⟩)).setCell (p := ⟨bn, 2, none⟩) hge (.int .i64 0)).setCell (p := ⟨bn, 3, none⟩) hge (.int .i64 0)).setCell (p := ⟨bn, 4, none⟩) hge (.slice none 0 0)
    rw [hW] at hb
    have h1 := GG.out
    refine ⟨RR.out.below hb, xAx HRR.out hb, ?_, Kd.N_nil _ _ _ _ _, ⟨by omega, by omega⟩, hge, h1.1, h1.2.2⟩
    rw [← hW]
    exact xA1 (xA1 (xA1 (xA1 (xA1 NB.out 0 _ rfl) 1 _ rfl) 2 _ rfl) 3 _ rfl) 4 _ rfl)
  clear hW BX NB HG c1 c2 c3 c4 f0 f1 f2 f3 f4 HRR RR
  go_wp2_with (fail)
  go_loopg [] k (fun kx wr => ∃ (kk : Nat) (ii nn bb aa : Int) (acc : List S25) (Lv : Value), kk ≤ kx ∧ Aside0 (PaS wS wR wr g T ii nn bb aa w.heap.size bn Lv acc) ∧ Aside0 (xFh k kk T ii nn bb aa acc = some (L, i1, n1, b1, a1)))
  case atStart => exact ⟨k, _, _, _, _, _, _, Nat.le_refl _, PS, HST⟩
  case round =>
    clear PS HST
    obtain ⟨kk, ii, nn, bb, aa, acc, Lv, hk1, PL, HL⟩ := hrel
    cases kk with
    | zero => exact absurd HL.out (by rw [xFh]; simp)
    | succ kk =>
      have hl := HL.out
      rw [xFh] at hl
      obtain ⟨AL, cL, rfl⟩ := Kd.N_slice PL.out.row
      obtain ⟨A1, c1, hblk, hge, hC⟩ := PL.out.rs.is
      have x0 := xC9 hblk
      have x1 := xBz hblk
      have x3 := xCf hblk
      have x4 := xCu hblk
      clear hblk hge hC
      by_cases hc : ii < (T.length : Int) ∧ bb = 0
      · skip
        rw [if_pos hc] at hl
        obtain ⟨hc1, rfl⟩ := hc
        have d1 : decide (ii < (T.length : Int)) = true := decide_eq_true hc1
        by_cases hal : acc.length ≤ 1000000
        rotate_left 1
        · rw [if_neg hal] at hl
          cases hl
        rw [if_pos hal] at hl
        obtain ⟨⟨x, y1, y2, y3, y4⟩, hx, hl⟩ := Option.bind_eq_some_iff.mp hl
        dsimp only at hl
        have HX := Aside0.mk hx
        have HL2 := Aside0.mk hl
        clear hx hl HL hc1
        go_upto_region 8 with (first | (go_at_call 21; (with_reducible refine (xJf k (fun k' _ => xLs k') g _ _ _ _ _ _ _ _ _ _ wS _ PL.out.rs.is PL.out.rs.bel HX.out).mono ?_); rintro e w5 ⟨v5, rfl, hr5, hi1, hb1, hk1_⟩; obtain ⟨A5, c5, rfl⟩ := Kd.N_slice hr5; have P5 := Aside0.mk (PL.out.call hi1 hb1 hk1_); have HV5 := Aside0.mk (show Kd.N k25 25 w5 wr.heap.size (fun k => wr.heap.size ≤ k) (.slice A5 x.f4.length c5) x.f4 from hr5); have SZ5 := Aside0.mk hk1_.1; clear hr5 hi1 hb1 hk1_ x0 x1 x3 x4) | ((with_reducible refine xB0 (N := 10) rfl ?_); refine xB9 ?hg (N := 10) ?hd (cs := #[.string (⟨#[]⟩ : ByteArray), .string (⟨#[]⟩ : ByteArray), .int .i64 0, .int .i64 0, .slice none 0 0]) (t := 25) ?hr ?_; (case hd => rfl); (case hg => rfl); (case hr => first | (go_simp; done) | (go_simp; rfl)); intro gb hg w6 hbox hb; have BX := Aside0.mk hb; have NB := Aside0.mk hbox; have HG := Aside0.mk hg; obtain ⟨c0, c1, c2, c3, c4, f0, f1, f2, f3, f4⟩ := ex5 hbox; clear hb hbox hg))
        generalize hW : World.setCell (World.setCell (World.setCell (World.setCell (World.setCell w6 _ _) _ _) _ _) _ _) _ _ = W6
        have hge : w5.heap.size ≤ gb := Nat.le_of_eq HG.out.symm
        have hb6 : Below w5.heap.size w5 W6 := by
          have hb := (((((BX.out.setCell (p := ⟨gb, 0, none⟩) hge (.string x.f0)).setCell (p := ⟨gb, 1, none⟩) hge (.string x.f1)).setCell (p := ⟨gb, 2, none⟩) hge (.int .i64 x.f2)).setCell (p := ⟨gb, 3, none⟩) hge (.int .i64 x.f3)).setCell (p := ⟨gb, 4, none⟩) hge (.slice A5 x.f4.length c5))
          rw [hW] at hb
          exact hb
        have hx8 : W6.heap[gb]? = some (.cells #[.string x.f0, .string x.f1, .int .i64 x.f2, .int .i64 x.f3, .slice A5 x.f4.length c5] 25 (0, 0)) := by rw [← hW]; exact (xA1 (xA1 (xA1 (xA1 (xA1 NB.out 0 (.string x.f0) rfl) 1 (.string x.f1) rfl) 2 (.int .i64 x.f2) rfl) 3 (.int .i64 x.f3) rfl) 4 (.slice A5 x.f4.length c5) rfl)
        have P6 := Aside0.mk (P5.out.below hb6)
        have FK6 := Aside0.mk (xDs (Kd.N_below HV5.out hb6))
        skip
        have SZ6 := Aside0.mk (Nat.le_trans SZ5.out hb6.size)
        have LT := Aside0.mk PL.out.lt
        have KB := Aside0.mk PL.out.rs.kb.1
        obtain ⟨hy0, hy1, hy2, hy3, hy4⟩ := ey5 hx8
        have hn4 := (xA4 P6.out.nb 4).trans rfl
        clear hW BX NB HG c0 c1 c2 c3 c4 f0 f1 f2 f3 f4 hb6 hge hx8
        go_wp2_with (first | ((with_reducible refine xB0 (N := 47) rfl ?_); refine Kd.N_lit k25 (w0 := W6) W6.heap.size 25 rfl (N' := 47) rfl (xs := [x]) (inner := [.string x.f0, .string x.f1, .int .i64 x.f2, .int .i64 x.f3, .slice A5 x.f4.length c5]) (ok := (fun k => wr.heap.size ≤ k)) (okp := (fun k => wr.heap.size ≤ k)) ?hr ((Reps.none _ _).snoc FK6.out rfl) (fun _ hk => hk) ?hf (Below.refl _ _) (Nat.le_refl _) (by show 1 ≤ 9223372036854775807; decide) ?_; (case hr => first | (go_simp; done) | (go_simp; rfl)); (case hf => exact SZ6.out); intro v7 w7 hN7 hb7 hg7 hat7; obtain ⟨A7, c7, rfl⟩ := Kd.N_slice hN7; have P7 := Aside0.mk (P6.out.below hb7); have HN7 := Aside0.mk hN7; clear hN7 hb7 hg7 hat7) | ((with_reducible refine xCh (b := .append) (xs := #[.tmp 45, .tmp 47]) rfl ?_); (try (refine xCi (by rfl) ?_; dsimp only)); at_builtin; refine Kd.N_append_rows k25 (w0 := w7) wR.heap.size rfl (.tmp 45) (.tmp 47) 23 25 (.agg #[(.string ⟨#[]⟩), (.string ⟨#[]⟩), (.int .i64 0), (.int .i64 0), (.slice none 0 0)]) 72 rfl Tryd.underlying23 xDh rfl (by decide) (by decide) (.slice AL acc.length cL) acc [x] A7 1 c7 (fun k => wR.heap.size ≤ k ∧ k ≠ bn) (fun k => wr.heap.size ≤ k) rfl rfl P7.out.row (Kd.N_F HN7.out) ?hokp ?hfresh (Below.refl _ _) ?hbase (by first | omega | (simp; done) | (simp; omega)) ?_; (case hokp => intro k hk; have h1 := LT.out.1; have h3 := KB.out; exact ⟨⟨by omega, by omega⟩, fun e => by have := (LT.out.2 k e.symm).1; omega⟩); (case hfresh => intro k hk; have h1 := P7.out.lt.1; have h3 := P7.out.rs.kb.1; exact ⟨by omega, by omega⟩); (case hbase => exact P7.out.rs.kb.1); intro v8 w8 hN8 hb8 hg8 hat8; obtain ⟨A8, c8, hv8⟩ := Kd.N_slice hN8; rw [show (acc ++ [x]).length = (acc.length + 1) by simp] at hv8; subst hv8; have P8 := Aside0.mk (P7.out.append hN8 hg8); have hn4b := (xA4 (xBk P7.out.nb hg8 (fun e => (P7.out.lt.2 _ e.symm).2.2 rfl)) 4).trans rfl; have hf4b := xA5 (xBk P7.out.nb hg8 (fun e => (P7.out.lt.2 _ e.symm).2.2 rfl)) 4; clear hN8 hb8 hg8 hat8))
        go_roundg kk
        case measure => omega
        case rel => exact ⟨kk, _, _, _, _, _, _, Nat.le_refl _, P8, HL2⟩
      · skip
        rw [if_neg hc] at hl
        simp only [Option.some.injEq, Prod.mk.injEq] at hl
        obtain ⟨rfl, rfl, rfl, rfl, rfl⟩ := hl
        by_cases hb : bb = 0
        · skip
          have h := HH.out
          rw [if_pos hb] at h
          simp only [Option.some.injEq, Prod.mk.injEq] at h
          obtain ⟨rfl, rfl, rfl⟩ := h
          subst hb
          have d1 : decide (ii < (T.length : Int)) = false := decide_eq_false (fun h => hc ⟨h, rfl⟩)
          skip
          go_upto_region 11 with (fail)
          have BE := Aside0.mk (xBv BW.out BW.out.size PL.out.rs.bel)
          obtain ⟨hy0, hy1, hy2, hy3, hy4⟩ := ey5 PL.out.nb
          have hNz := (Kd.N_far (p := ⟨w.heap.size, 4, none⟩) (Kd.N_far (p := ⟨w.heap.size, 3, none⟩) (Kd.N_far (p := ⟨w.heap.size, 2, none⟩) (Kd.N_far (p := ⟨w.heap.size, 1, none⟩) (Kd.N_far (p := ⟨w.heap.size, 0, none⟩) PL.out.row (fun k hk => by have := PL.out.g4.1; show k ≠ w.heap.size; omega) (.string (⟨#[102, 105, 108, 101]⟩ : ByteArray))) (fun k hk => by have := PL.out.g4.1; show k ≠ w.heap.size; omega) (.string ⟨#[]⟩)) (fun k hk => by have := PL.out.g4.1; show k ≠ w.heap.size; omega) (.int .i64 0)) (fun k hk => by have := PL.out.g4.1; show k ≠ w.heap.size; omega) (.int .i64 0)) (fun k hk => by have := PL.out.g4.1; show k ≠ w.heap.size; omega) (.slice AL acc.length cL))
          obtain ⟨hr0, hr1, hr2, hr3, hr4, hf0, hf1, hf2, hf3, hf4⟩ := ex5 PL.out.r4
          go_wp2
          refine bodyPost_ret (xBl (rs := [.cell 2 25, .tmp 3, .tmp 4]) rfl (by simp) (.cell w.heap.size 25 #[.string (⟨#[102, 105, 108, 101]⟩ : ByteArray), .string ⟨#[]⟩, .int .i64 0, .int .i64 0, .slice AL acc.length cL] (0, 0) _ rfl (xA1 ((xA1 ((xA1 ((xA1 ((xA1 (PL.out.r4) 0 (.string (⟨#[102, 105, 108, 101]⟩ : ByteArray)) rfl)) 1 (.string ⟨#[]⟩) rfl)) 2 (.int .i64 0) rfl)) 3 (.int .i64 0) rfl)) 4 (.slice AL acc.length cL) rfl) Tryd.underlying25 rfl (by kernel_rfl) (.tmp (.tmp .nil)))) rfl ?_
          exact ⟨_, rfl, Kd.N_mono (Kd.N_lower hNz (by have := PL.out.g4.1; omega)) (fun k hk => by have := PL.out.g4.1; omega), ((((((((((BE.out).setCell (p := ⟨w.heap.size, 0, none⟩) (Nat.le_refl _) (.string (⟨#[102, 105, 108, 101]⟩ : ByteArray)))).setCell (p := ⟨w.heap.size, 1, none⟩) (Nat.le_refl _) (.string ⟨#[]⟩))).setCell (p := ⟨w.heap.size, 2, none⟩) (Nat.le_refl _) (.int .i64 0))).setCell (p := ⟨w.heap.size, 3, none⟩) (Nat.le_refl _) (.int .i64 0))).setCell (p := ⟨w.heap.size, 4, none⟩) (Nat.le_refl _) (.slice AL acc.length cL))⟩
        · skip
          have h := HH.out
          rw [if_neg hb] at h
          simp only [Option.some.injEq, Prod.mk.injEq] at h
          obtain ⟨rfl, rfl, rfl⟩ := h
          have BE := Aside0.mk (xBv BW.out BW.out.size PL.out.rs.bel)
          have db : (bb != 0) = true := by simpa using hb
          have db2 : (bb == 0) = false := by simpa using hb
          by_cases hi : ii < (T.length : Int)
          · skip
            have d1 : decide (ii < (T.length : Int)) = true := decide_eq_true hi
            go_upto_region 10 with (fail)
            obtain ⟨hr0, hr1, hr2, hr3, hr4, hf0, hf1, hf2, hf3, hf4⟩ := ex5 PL.out.r4
            have hg1 : ¬ (w.heap.size = g) := PL.out.g4.2
            have hg2 : ¬ (g = w.heap.size) := fun e => PL.out.g4.2 e.symm
            go_region
            go_wp2
            refine bodyPost_ret (xBl (rs := [.cell 2 25, .tmp 3, .tmp 4]) rfl (by simp) (.cell w.heap.size 25 #[.string ⟨#[]⟩, .string ⟨#[]⟩, .int .i64 0, .int .i64 0, .slice none 0 0] (0, 0) _ rfl (xAc (xA1 ((xA1 ((xA1 ((xA1 ((xA1 (PL.out.r4) 0 (.string ⟨#[]⟩) rfl)) 1 (.string ⟨#[]⟩) rfl)) 2 (.int .i64 0) rfl)) 3 (.int .i64 0) rfl)) 4 (.slice none 0 0) rfl)) Tryd.underlying25 rfl (by kernel_rfl) (.tmp (.tmp .nil)))) rfl ?_
            exact ⟨_, rfl, Kd.N_nil _ _ _ _ _, xCb ((((((((((BE.out).setCell (p := ⟨w.heap.size, 0, none⟩) (Nat.le_refl _) (.string ⟨#[]⟩))).setCell (p := ⟨w.heap.size, 1, none⟩) (Nat.le_refl _) (.string ⟨#[]⟩))).setCell (p := ⟨w.heap.size, 2, none⟩) (Nat.le_refl _) (.int .i64 0))).setCell (p := ⟨w.heap.size, 3, none⟩) (Nat.le_refl _) (.int .i64 0))).setCell (p := ⟨w.heap.size, 4, none⟩) (Nat.le_refl _) (.slice none 0 0))⟩
          · skip
            have d1 : decide (ii < (T.length : Int)) = false := decide_eq_false hi
            go_upto_region 10 with (fail)
            obtain ⟨hr0, hr1, hr2, hr3, hr4, hf0, hf1, hf2, hf3, hf4⟩ := ex5 PL.out.r4
            have hg1 : ¬ (w.heap.size = g) := PL.out.g4.2
            have hg2 : ¬ (g = w.heap.size) := fun e => PL.out.g4.2 e.symm
            go_region
            go_wp2
            refine bodyPost_ret (xBl (rs := [.cell 2 25, .tmp 3, .tmp 4]) rfl (by simp) (.cell w.heap.size 25 #[.string ⟨#[]⟩, .string ⟨#[]⟩, .int .i64 0, .int .i64 0, .slice none 0 0] (0, 0) _ rfl (xAc (xA1 ((xA1 ((xA1 ((xA1 ((xA1 (PL.out.r4) 0 (.string ⟨#[]⟩) rfl)) 1 (.string ⟨#[]⟩) rfl)) 2 (.int .i64 0) rfl)) 3 (.int .i64 0) rfl)) 4 (.slice none 0 0) rfl)) Tryd.underlying25 rfl (by kernel_rfl) (.tmp (.tmp .nil)))) rfl ?_
            exact ⟨_, rfl, Kd.N_nil _ _ _ _ _, xCb ((((((((((BE.out).setCell (p := ⟨w.heap.size, 0, none⟩) (Nat.le_refl _) (.string ⟨#[]⟩))).setCell (p := ⟨w.heap.size, 1, none⟩) (Nat.le_refl _) (.string ⟨#[]⟩))).setCell (p := ⟨w.heap.size, 2, none⟩) (Nat.le_refl _) (.int .i64 0))).setCell (p := ⟨w.heap.size, 3, none⟩) (Nat.le_refl _) (.int .i64 0))).setCell (p := ⟨w.heap.size, 4, none⟩) (Nat.le_refl _) (.slice none 0 0))⟩
end Go.Proofs.YtknbfhhmjbnemaaDoor.P
end
section
namespace Go.Proofs.YtknbfhhmjbnemaaDoor.Pure
open Go.RowKit Go.Proofs.YtknbfhhmjbnemaaDoorW.PrintWords Go.Proofs.YtknbfhhmjbnemaaDoorW.PrintLast Go.Proofs.YtknbfhhmjbnemaaDoorW.PrintMore Go.Proofs.YtknbfhhmjbnemaaDoor.P

/-! the document's scanner says what scan says -/
theorem xGx : ∀ (l : List Int) (n : Int) (j : Nat), l.length + j ≤ 9 → 0 ≤ n → n < (10 : Int) ^ j → (∀ x ∈ l, xAv x = true) → l.foldl (fun n b => 10 * n + (b - 48)) n = l.foldl (fun n b => 10 * mn n 1099511627776 + (b - 48)) n
 | [], n, j, _, _, _, _ => rfl
 | b :: l, n, j, hl, h0, h1, hf => by
  have hb := xJ6 (hf b List.mem_cons_self)
  have hp : ∀ n : Nat, n ≤ 9 → (10 : Int) ^ n ≤ 1000000000 := by decide
  have h9 := hp j (by omega)
  simp only [List.length_cons] at hl
  rw [List.foldl_cons, List.foldl_cons, xKb n (by omega)]
  have hpow : (10 : Int) ^ (j + 1) = (10 : Int) ^ j * 10 := Int.pow_succ ..
  exact xGx l _ (j + 1) (by omega) (by omega) (by rw [hpow]; omega) (fun x hx => hf x (List.mem_cons_of_mem _ hx))
theorem xKs {l : List Int} (hl : l.length ≤ 9) (hf : ∀ x ∈ l, xAv x = true) : xE5 l = xCz l := xGx l 0 0 (by omega) (by omega) (by decide) hf
theorem xJh (s : ByteArray) (i : Nat) (hi : i < s.size) (hs : s.size ≤ 140737488351232) :
  ∃ t1 t2 t3 t5, xI6 s i = some (t1, t2, t3, (i : Int), t5, (oneL ((xAj s).drop i)).e, if (oneL ((xAj s).drop i)).e = 0 then -1 else ((i + (oneL ((xAj s).drop i)).off : Nat) : Int)) ∧
   ((oneL ((xAj s).drop i)).e = 0 → t1 = (oneL ((xAj s).drop i)).kind ∧ t2 = strOfNums (oneL ((xAj s).drop i)).s ∧ t3 = (oneL ((xAj s).drop i)).n ∧ t5 = ((i + (oneL ((xAj s).drop i)).len : Nat) : Int)) := by
 unfold xI6
 rw [if_pos ⟨by omega, by omega, hs⟩]
 simp only [Int.toNat_natCast]
 have hw := xDm xCe s (s.size - i) i rfl (by omega)
 have hf := xDm xAv s (s.size - i) i rfl (by omega)
 have hh := xDm pHex s (s.size - (i + 1)) (i + 1) rfl (by omega)
 rw [hw, hf, hh]
 simp only [xIy]
 simp only [xGl]
 have hd := xC7 s i hi
 have hd2 : ∀ n, (xAj s).drop (i + n) = ((xAj s).drop i).drop n := fun n => by rw [List.drop_drop]
 have hd3 : ∀ n, (xAj s).drop (i + 1 + n) = ((xAj s).drop (i + 1)).drop n := fun n => by rw [List.drop_drop]
 rw [hd2, hd3]
 simp only [Nat.add_sub_cancel_left, xFf]
 rw [hd]
 generalize bt s i = c
 generalize (xAj s).drop (i + 1) = t
 have hnil : strOfNums [] = ⟨#[]⟩ := rfl
 by_cases c1 : xCd c = true
 ·have ho : oneL (c :: t) = ⟨0, (c :: t).takeWhile xCe, 0, ((c :: t).takeWhile xCe).length, if 16 < ((c :: t).takeWhile xCe).length then 102 else 0, 0⟩ := by
   simp only [oneL]; rw [if_pos c1]
  rw [ho, if_pos c1]
  generalize (c :: t).takeWhile xCe = W
  by_cases c2 : 16 < W.length
  ·rw [if_pos (by omega), if_pos c2]
   exact ⟨_, _, _, _, rfl, fun h => absurd h (show ¬ (102 : Int) = 0 by decide)⟩
  ·rw [if_neg (by omega), if_neg c2]
   exact ⟨_, _, _, _, rfl, fun h => ⟨rfl, rfl, rfl, rfl⟩⟩
 ·rw [if_neg c1]
  by_cases c2 : xAv c = true
  ·have ho : oneL (c :: t) = ⟨1, [], xCz ((c :: t).takeWhile xAv), ((c :: t).takeWhile xAv).length,
     if 9 < ((c :: t).takeWhile xAv).length then 102 else if xGb ((c :: t).drop ((c :: t).takeWhile xAv).length) = true then 101 else 0,
     if 9 < ((c :: t).takeWhile xAv).length then 0 else ((c :: t).takeWhile xAv).length⟩ := by
    simp only [oneL]; rw [if_neg c1, if_pos c2]
   rw [ho, if_pos c2]
   have hWf := xDc xAv (c :: t)
   clear ho
   generalize (c :: t).takeWhile xAv = W at *
   generalize xGb ((c :: t).drop W.length) = G
   by_cases c3 : 9 < W.length
   ·rw [if_pos (by omega), if_pos c3, if_pos c3]
    exact ⟨_, _, _, _, rfl, fun h => absurd h (show ¬ (102 : Int) = 0 by decide)⟩
   ·rw [if_neg (by omega), if_neg c3, if_neg c3]
    rw [xKs (by omega) hWf]
    cases G
    ·exact ⟨_, _, _, _, rfl, fun h => ⟨rfl, rfl, rfl, rfl⟩⟩
    ·exact ⟨_, _, _, _, rfl, fun h => absurd h (show ¬ (101 : Int) = 0 by decide)⟩
  ·rw [if_neg c2]
   by_cases c3 : c = 36
   ·have ho : oneL (c :: t) = ⟨2, t.takeWhile pHex, 0, (t.takeWhile pHex).length + 1,
      if (t.takeWhile pHex).length = 0 then 101 else if 128 < (t.takeWhile pHex).length then 102 else if xGb (t.drop (t.takeWhile pHex).length) = true then 101 else 0,
      if (t.takeWhile pHex).length = 0 then 1 else if 128 < (t.takeWhile pHex).length then 0 else (t.takeWhile pHex).length + 1⟩ := by
     simp only [oneL]; rw [if_neg c1, if_neg c2, if_pos c3]
    rw [ho, if_pos c3]
    generalize t.takeWhile pHex = W
    generalize xGb (t.drop W.length) = G
    have e9 : i + 1 + W.length = i + (W.length + 1) := by omega
    by_cases c4 : W.length = 0
    ·rw [if_pos (by omega), if_pos c4, if_pos c4, e9]
     have c5 : W = [] := List.length_eq_zero_iff.1 c4
     subst c5
     exact ⟨_, _, _, _, rfl, fun h => absurd h (show ¬ (101 : Int) = 0 by decide)⟩
    ·rw [if_neg (by omega), if_neg c4, if_neg c4]
     by_cases c5 : 128 < W.length
     ·rw [if_pos (by omega), if_pos c5, if_pos c5]
      exact ⟨_, _, _, _, rfl, fun h => absurd h (show ¬ (102 : Int) = 0 by decide)⟩
     ·rw [if_neg (by omega), if_neg c5, if_neg c5, e9]
      cases G
      ·exact ⟨_, _, _, _, rfl, fun h => ⟨rfl, rfl, rfl, rfl⟩⟩
      ·exact ⟨_, _, _, _, rfl, fun h => absurd h (show ¬ (101 : Int) = 0 by decide)⟩
   ·rw [if_neg c3]
    by_cases c4 : c = 40 ∨ c = 41 ∨ c = 44 ∨ c = 61 ∨ c = 59
    ·have ho : oneL (c :: t) = ⟨3, [c], 0, 1, 0, 0⟩ := by
      simp only [oneL]; rw [if_neg c1, if_neg c2, if_neg c3, if_pos c4]
     rw [ho, if_pos c4]
     exact ⟨_, _, _, _, rfl, fun h => ⟨rfl, rfl, rfl, rfl⟩⟩
    ·have ho : oneL (c :: t) = ⟨3, [], 0, 0, 101, 0⟩ := by
      simp only [oneL]; rw [if_neg c1, if_neg c2, if_neg c3, if_neg c4]
     rw [ho, if_neg c4]
     exact ⟨_, _, _, _, rfl, fun h => absurd h (show ¬ (101 : Int) = 0 by decide)⟩
/-! blanks and notes -/
theorem xGk (s : ByteArray) (hs : s.size ≤ 140737488351232) : ∀ (d : Nat), (∀ (i k : Nat), s.size - i ≤ d → i ≤ s.size → 6 * d + 4 < k → xA9.l0 k s i = some ((skipAt s i : Nat) : Int)) ∧
  (∀ (i k : Nat), s.size - i ≤ d → i ≤ s.size → 6 * d + 6 < k → xA9.l1 k s i = some ((s.size - (xCk true ((xAj s).drop i)).length : Nat) : Int)) := by
 have hend : ∀ i, i ≤ s.size → ¬ i < s.size → (xAj s).drop i = [] := fun i hi hlt => List.drop_eq_nil_iff.2 (by rw [xAy]; omega)
 have h0end : ∀ (i k : Nat), i ≤ s.size → ¬ i < s.size → 1 ≤ k → xA9.l0 k s i = some ((skipAt s i : Nat) : Int) := by
  intro i k hi hlt hk
  obtain ⟨k, rfl⟩ : ∃ m, k = m + 1 := ⟨k - 1, by omega⟩
  rw [xA9.l0, if_neg (by omega)]
  unfold skipAt
  rw [hend i hi hlt]
  simp only [xCk, List.length_nil]
  congr 1
  omega
 have h1end : ∀ (i k : Nat), i ≤ s.size → ¬ i < s.size → 2 ≤ k → xA9.l1 k s i = some ((s.size - (xCk true ((xAj s).drop i)).length : Nat) : Int) := by
  intro i k hi hlt hk
  obtain ⟨k, rfl⟩ : ∃ m, k = m + 1 := ⟨k - 1, by omega⟩
  rw [xA9.l1, if_neg (by omega), h0end i k hi hlt (by omega)]
  unfold skipAt
  rw [hend i hi hlt]
  simp [xCk]
 intro d
 induction d with
 | zero => exact ⟨fun i k hd hi hk => h0end i k hi (by omega) (by omega), fun i k hd hi hk => h1end i k hi (by omega) (by omega)⟩
 | succ d ih =>
  have hwrap : ∀ i : Nat, i < s.size → wrap64 ((i : Int) + 1) = ((i + 1 : Nat) : Int) := fun i hi => by unfold wrap64; omega
  have key0 : ∀ (i k : Nat), s.size - i ≤ d + 1 → i ≤ s.size → 6 * (d + 1) + 4 < k → xA9.l0 k s i = some ((skipAt s i : Nat) : Int) := by
   intro i k hd hi hk
   by_cases hlt : i < s.size
   case neg => exact h0end i k hi hlt (by omega)
   obtain ⟨k, rfl⟩ : ∃ m, k = m + 4 := ⟨k - 4, by omega⟩
   have hr := xKg s i
   have hdr := xC7 s i hlt
   have hj1 : xA9.l0 (k + 4) s i = xA9.j1 (k + 3) s i (xEk (bt s i)) := by
    rw [xA9.l0, if_pos (by omega), if_pos (by omega)]
    unfold xEk
    by_cases b1 : bt s i = 9
    ·rw [if_pos b1, b1]; rfl
    rw [if_neg b1]
    by_cases b2 : bt s i = 10
    ·rw [if_pos b2, b2]; rfl
    rw [if_neg b2]
    by_cases b3 : bt s i = 13
    ·rw [if_pos b3, b3]; rfl
    rw [if_neg b3, beq_eq_false_iff_ne.2 b1, beq_eq_false_iff_ne.2 b2, beq_eq_false_iff_ne.2 b3]
    rfl
   rw [hj1, xA9.j1]
   by_cases hb : xEk (bt s i) = true
   ·rw [if_pos hb, hwrap i hlt, ih.1 (i + 1) (k + 2) (by omega) (by omega) (by omega)]
    congr 2
    unfold skipAt
    rw [hdr]
    simp only [xCk, hb, if_true]
   ·rw [if_neg hb, hwrap i hlt]
    have hj2 : ∀ b : Bool, b = decide (bt s i = 47 ∧ ((xAj s).drop (i + 1)).head? = some 47) → xA9.j2 (k + 2) s i b = some ((skipAt s i : Nat) : Int) := by
     intro b hbb
     rw [xA9.j2]
     by_cases hc : bt s i = 47 ∧ ((xAj s).drop (i + 1)).head? = some 47
     ·rw [if_pos (by rw [hbb]; exact decide_eq_true hc)]
      have hsk : xCk false ((xAj s).drop i) = xCk true ((xAj s).drop (i + 1)) := by
       rw [hdr]
       simp only [xCk]
       rw [if_neg hb, if_pos hc]
      rw [xA9.l1, if_pos (by omega), if_pos (by omega), if_neg (by rw [hc.1]; decide), hwrap i hlt, ih.2 (i + 1) k (by omega) (by omega) (by omega)]
      unfold skipAt
      rw [hsk]
     ·rw [if_neg (by rw [hbb, decide_eq_false hc]; decide)]
      unfold skipAt
      rw [hdr]
      simp only [xCk]
      rw [if_neg hb, if_neg hc]
      simp only [List.length_cons, List.length_drop, xAy]
      congr 1
      omega
    by_cases h1 : i + 1 < s.size
    ·have hd1 := xC7 s (i + 1) h1
     rw [if_pos (by omega), if_pos (by omega), if_pos (by omega)]
     by_cases h47 : bt s i = 47
     ·rw [if_pos h47, if_pos (by omega)]
      apply hj2
      rw [hd1]
      simp only [List.head?_cons, h47, true_and, Option.some.injEq]
      by_cases h2 : bt s ((i + 1 : Nat) : Int) = 47
      ·rw [h2]; rfl
      ·rw [decide_eq_false h2, beq_eq_false_iff_ne.2 h2]
     ·rw [if_neg h47]
      apply hj2
      rw [decide_eq_false (fun h => h47 h.1)]
    ·rw [if_neg (by omega)]
     apply hj2
     rw [hend (i + 1) (by omega) h1]
     rw [decide_eq_false (fun h => by cases h.2)]
  refine ⟨key0, fun i k hd hi hk => ?_⟩
  by_cases hlt : i < s.size
  case neg => exact h1end i k hi hlt (by omega)
  obtain ⟨k, rfl⟩ : ∃ m, k = m + 1 := ⟨k - 1, by omega⟩
  have hdr := xC7 s i hlt
  rw [xA9.l1, if_pos (by omega), if_pos (by omega)]
  by_cases h10 : bt s i = 10
  ·rw [if_pos h10, key0 i k hd hi (by omega)]
   unfold skipAt
   rw [hdr, h10]
   simp [xCk, xEk]
  ·rw [if_neg h10, hwrap i hlt, ih.2 (i + 1) k (by omega) (by omega) (by omega), hdr]
   simp only [xCk, if_neg h10]
theorem xI5 (s : ByteArray) (hs : s.size ≤ 2000) : ∀ (d i k : Nat) (acc : List S60), s.size - i ≤ d → i ≤ s.size → 6 * s.size + 10 + d < k → acc.length ≤ 500 →
  xAw.l0 k s acc i = some (xEi acc (xDk (d + 1) acc.length ((xAj s).drop i) s.size)) := by
 intro d
 induction d with
 | zero =>
  intro i k acc hd hi hk ha
  obtain ⟨k, rfl⟩ : ∃ m, k = m + 1 := ⟨k - 1, by omega⟩
  simp only [xAw.l0]
  rw [if_neg (by omega)]
  have : (xAj s).drop i = [] := List.drop_eq_nil_iff.2 (by rw [xAy]; omega)
  rw [this]
  simp [xDk, xEi]
 | succ d ih =>
  intro i k acc hd hi hk ha
  obtain ⟨k, rfl⟩ : ∃ m, k = m + 1 := ⟨k - 1, by omega⟩
  simp only [xAw.l0]
  by_cases hlt : i < s.size
  ·rw [if_pos (by omega)]
   have hne : (xAj s).drop i ≠ [] := by rw [xC7 s i hlt]; simp
   have hlen : ((xAj s).drop i).length = s.size - i := by rw [List.length_drop, xAy]
   have hpos : s.size - ((xAj s).drop i).length = i := by omega
   unfold xDk
   rw [if_neg hne]
   by_cases h500 : acc.length = 500
   ·rw [if_pos (by omega), if_pos h500, hpos]
    rfl
   ·rw [if_neg (by omega), if_neg h500]
    obtain ⟨t1, t2, t3, t5, hone, hok⟩ := xJh s i hlt (by omega)
    unfold xC0.f
    rw [hone]
    simp only [Option.bind_some]
    have hol := xKa _ hne
    by_cases he : (oneL ((xAj s).drop i)).e = 0
    ·obtain ⟨rfl, rfl, rfl, rfl⟩ := hok he
     rw [if_pos he, if_pos he, if_pos (by omega)]
     have hl1 := hol.2 he
     have hl2 := hol.1
     have hle : i + (oneL ((xAj s).drop i)).len ≤ s.size := by omega
     have hsk := (xGk s (by omega) s.size).1 (i + (oneL ((xAj s).drop i)).len) k (by omega) hle (by omega)
     have hsb := xDv s (i + (oneL ((xAj s).drop i)).len) hle
     unfold xA9.f
     rw [hsk]
     simp only [Option.bind_some]
     rw [ih (skipAt s (i + (oneL ((xAj s).drop i)).len)) k _ (by omega) hsb.2 (by omega) (by simp; omega)]
     rw [xEt s _ hle, ← List.drop_drop, List.length_append, List.length_singleton]
     congr 1
     have htok : (⟨(oneL ((xAj s).drop i)).kind, strOfNums (oneL ((xAj s).drop i)).s, (oneL ((xAj s).drop i)).n, (i : Int)⟩ : S60) = xKl (oneL ((xAj s).drop i)) (s.size - ((xAj s).drop i).length) := by
      rw [hpos]
      rfl
     rw [htok]
     cases xDk (d + 1) (acc.length + 1) (xCk false (((xAj s).drop i).drop (oneL ((xAj s).drop i)).len)) s.size with
     | ok l => simp [xEi, Except.map]
     | error e => simp [xEi, Except.map]
    ·rw [if_neg he, if_neg he, if_neg he, hpos]
     rfl
  ·rw [if_neg (by omega)]
   have : (xAj s).drop i = [] := List.drop_eq_nil_iff.2 (by rw [xAy]; omega)
   rw [this]
   unfold xDk
   simp [xEi]
/-- The document's scanner. -/
theorem xIs (s : ByteArray) : ∀ k, 20000 ≤ k → xAw.f k s = some (told (scan (xAj s))) := by
 intro k hk
 unfold xAw.f scan
 rw [xAy]
 by_cases h : 2000 < s.size
 ·rw [if_pos (by omega), if_pos h]
  rfl
 ·rw [if_neg (by omega), if_neg h]
  have hsk := (xGk s (by omega) s.size).1 0 k (by omega) (by omega) (by omega)
  have hsb := xDv s 0 (by omega)
  unfold xA9.f
  simp only [Int.natCast_zero] at hsk
  rw [hsk]
  simp only [Option.bind_some]
  rw [xI5 s (by omega) s.size (skipAt s 0) k [] (by omega) hsb.2 (by omega) (by simp), xEt s 0 (by omega), List.drop_zero]
  congr 1
end Go.Proofs.YtknbfhhmjbnemaaDoor.Pure
end
section
namespace Go.Proofs.YtknbfhhmjbnemaaDoor.P
open Go.RowKit Go.Proofs.YtknbfhhmjbnemaaDoorW.PrintWords Go.Proofs.YtknbfhhmjbnemaaDoorW.PrintLast Go.Proofs.YtknbfhhmjbnemaaDoorW.PrintMore Go.Proofs.YtknbfhhmjbnemaaDoor.Pure

/-! the document's reader and the parser: one after the other -/
abbrev Rdr (β : Type) := Int → Int → Int → Int → Option (β × RSt)
def rb {β γ : Type} (r : Rdr β) (s : β → Rdr γ) : Rdr γ := fun i n bad at_ => (r i n bad at_).bind fun x => s x.1 x.2.1 x.2.2.1 x.2.2.2.1 x.2.2.2.2
def rret {β : Type} (b : β) : Rdr β := fun i n bad at_ => some (b, i, n, bad, at_)
def rite {β : Type} (c : Prop) [Decidable c] (r s : Rdr β) : Rdr β := fun i n bad at_ => if c then r i n bad at_ else s i n bad at_
/-- Behind a fault nothing is read. -/
def Stk {β : Type} (m : Nat) (r : Rdr β) : Prop := ∀ (i : Nat) (n bad at_ : Int), i ≤ m → bad ≠ 0 → ∃ b, r i n bad at_ = some (b, (i : Int), n, bad, at_)
/-- The reader reads what the parser reads, and its fault is the parser's. -/
def Rel {α β : Type} (T0 : List S60) (en : Int) (g : G α) (r : Rdr β) (f : α → β) : Prop :=
 ∀ i : Nat, i ≤ T0.length → (∀ a T', g (T0.drop i) en = some (.ok (a, T')) → ∃ j : Nat, j ≤ T0.length ∧ T' = T0.drop j ∧ r i en 0 0 = some (f a, (j : Int), en, 0, 0)) ∧
  (∀ x, g (T0.drop i) en = some (.error x) → x.1 ≠ 0 ∧ ∃ (b : β) (j : Nat), j ≤ T0.length ∧ r i en 0 0 = some (b, (j : Int), en, x.1, x.2))
section
variable {α β γ δ : Type} {m : Nat} {T0 : List S60} {en : Int}
theorem Stk.bd {r : Rdr β} {s : β → Rdr γ} (h : Stk m r) (hs : ∀ b, Stk m (s b)) : Stk m (rb r s) := by
 intro i n bad at_ hi hb
 obtain ⟨b, h1⟩ := h i n bad at_ hi hb
 obtain ⟨c, h2⟩ := hs b i n bad at_ hi hb
 exact ⟨c, by unfold rb; rw [h1]; exact h2⟩
theorem Stk.ret (b : β) : Stk m (rret b) := fun i n bad at_ _ _ => ⟨b, rfl⟩
theorem Stk.ite {c : Prop} [Decidable c] {r s : Rdr β} (h : Stk m r) (hs : Stk m s) : Stk m (rite c r s) := by
 intro i n bad at_ hi hb
 unfold rite
 split
 ·exact h i n bad at_ hi hb
 ·exact hs i n bad at_ hi hb
theorem Rel.bd {g : G α} {r : Rdr β} {f : α → β} {h : α → G γ} {s : β → Rdr δ} {f' : γ → δ} (hg : Rel T0 en g r f) (hh : ∀ a, Rel T0 en (h a) (s (f a)) f') (hst : ∀ b, Stk T0.length (s b)) : Rel T0 en (P.bd g h) (rb r s) f' := by
 intro i hi
 obtain ⟨h1, h2⟩ := hg i hi
 constructor
 ·intro a T' e
  unfold P.bd at e
  rcases xBd e with ⟨x, _, hx⟩ | ⟨a1, T1, e1, e2⟩
  ·cases hx
  ·obtain ⟨j, hj, rfl, hr⟩ := h1 _ _ e1
   obtain ⟨j2, hj2, hT, hr2⟩ := (hh a1 j hj).1 _ _ e2
   exact ⟨j2, hj2, hT, by unfold rb; rw [hr]; exact hr2⟩
 ·intro x e
  unfold P.bd at e
  rcases xBd e with ⟨x', hx', hx⟩ | ⟨a1, T1, e1, e2⟩
  ·cases hx
   obtain ⟨hx0, b, j, hj, hr⟩ := h2 _ hx'
   obtain ⟨c, hc⟩ := hst b j en x.1 x.2 hj hx0
   exact ⟨hx0, c, j, hj, by unfold rb; rw [hr]; exact hc⟩
  ·obtain ⟨j, hj, rfl, hr⟩ := h1 _ _ e1
   obtain ⟨hx0, b, j2, hj2, hr2⟩ := (hh a1 j hj).2 _ e2
   exact ⟨hx0, b, j2, hj2, by unfold rb; rw [hr]; exact hr2⟩
theorem Rel.ret {f : α → β} (a : α) {b : β} (e : f a = b) : Rel T0 en (gret a) (rret b) f := by
 intro i hi
 refine ⟨fun a' T' h => ?_, fun x h => by cases h⟩
 cases h
 exact ⟨i, hi, rfl, by rw [e]; rfl⟩
theorem Rel.gite {c : Prop} [Decidable c] {g g' : G α} {r r' : Rdr β} {f : α → β} (h : Rel T0 en g r f) (h' : Rel T0 en g' r' f) : Rel T0 en (P.gite c g g') (rite c r r') f := by
 intro i hi
 unfold P.gite rite
 by_cases hc : c
 ·simp only [if_pos hc]; exact h i hi
 ·simp only [if_neg hc]; exact h' i hi
/-! ### its single steps -/
theorem xCj (l : List S60) (k : Nat) (h : k < l.length) : l.drop k = xAu l (k : Int) :: l.drop (k + 1) := by
 rw [List.drop_eq_getElem_cons h]
 unfold xAu
 simp [List.getD_eq_getElem?_getD, h]
theorem xJ4 {i : Nat} {n at_ : Int} (s : ByteArray) : xAi.f T0 i n 0 at_ s = some (pis (T0.drop i) s, (i : Int), n, 0, at_) := by
 unfold xAi.f
 rw [if_pos rfl]
 by_cases h : i < T0.length
 ·rw [if_pos (by omega), if_pos (by omega), xCj T0 i h]
  unfold pis
  split
  ·rename_i h0; simp [h0]
  ·split
   ·rename_i h0 h3; simp [h3]
   ·rename_i h0 h3
    simp only [beq_eq_false_iff_ne.2 h0, beq_eq_false_iff_ne.2 h3, Bool.or_self, Bool.false_and]
 ·rw [if_neg (by omega), List.drop_of_length_le (by omega)]
  rfl
theorem xKe {i n bad at_ : Int} (h : bad ≠ 0) (s : ByteArray) : xAi.f T0 i n bad at_ s = some (false, i, n, bad, at_) := by
 unfold xAi.f
 rw [if_neg h]
theorem xFt {i : Nat} {n bad at_ : Int} : xAq.f T0 i n bad at_ = some (xB4 (T0.drop i) n, (i : Int), n, bad, at_) := by
 unfold xAq.f
 by_cases h : i < T0.length
 ·rw [if_pos (by omega), if_pos (by omega), xCj T0 i h]
  rfl
 ·rw [if_neg (by omega), List.drop_of_length_le (by omega)]
  rfl
theorem xF0 {i : Nat} {n at_ e : Int} : xAn.f T0 i n 0 at_ e = some ((i : Int), n, e, xB4 (T0.drop i) n) := by
 unfold xAn.f
 rw [if_pos rfl, xFt]
 rfl
theorem xGp {i n bad at_ e : Int} (h : bad ≠ 0) : xAn.f T0 i n bad at_ e = some (i, n, bad, at_) := by
 unfold xAn.f
 rw [if_neg h]
def xEy (T0 : List S60) (s : ByteArray) : Rdr Unit := fun i n b a => (xA8.f T0 i n b a s).bind fun x => some ((), x)
def otok (T0 : List S60) (k : Int) : Rdr S60 := fun i n b a => (xAg.f T0 i n b a k).bind fun x => some (⟨x.1, x.2.1, x.2.2.1, x.2.2.2.1⟩, x.2.2.2.2)
def xHe (K : Nat) (T0 : List S60) : Rdr S60 := fun i n b a => (xAt.f K T0 i n b a).bind fun x => some (⟨x.1, x.2.1, x.2.2.1, x.2.2.2.1⟩, x.2.2.2.2)
theorem Stk.must (s : ByteArray) : Stk T0.length (xEy T0 s) := by
 intro i n bad at_ hi hb
 refine ⟨(), ?_⟩
 unfold xEy xA8.f
 rw [xKe hb, Option.bind_some, if_neg (by simp), xGp hb]
 rfl
theorem Stk.tok (k : Int) : Stk T0.length (otok T0 k) := by
 intro i n bad at_ hi hb
 refine ⟨⟨0, ⟨#[]⟩, 0, 0⟩, ?_⟩
 unfold otok xAg.f
 rw [if_neg (fun h => hb h.1), if_pos (Or.inl hb), xGp hb]
 rfl
theorem Stk.name {K : Nat} (hK : 20 < K) : Stk T0.length (xHe K T0) := by
 intro i n bad at_ hi hb
 have ht : ∃ b : S60, (xAg.f T0 i n bad at_ 0).bind (fun x => some ((⟨x.1, x.2.1, x.2.2.1, x.2.2.2.1⟩ : S60), x.2.2.2.2)) = some (b, (i : Int), n, bad, at_) := Stk.tok 0 i n bad at_ hi hb
 unfold xHe xAt.f
 split
 ·rw [if_pos (by omega)]
  split
  ·rw [xLx _ K hK, Option.bind_some]
   split
   ·rw [xGp hb]
    exact ⟨⟨0, ⟨#[]⟩, 0, 0⟩, rfl⟩
   ·exact ht
  ·exact ht
 ·exact ht
theorem Rel.must (hT : T0.length ≤ 1000000) (s : ByteArray) : Rel T0 en (xEd s) (xEy T0 s) (fun _ => ()) := by
 intro i hi
 unfold xEd xDl xEy xA8.f
 rw [xJ4, Option.bind_some]
 cases hp : pis (T0.drop i) s with
 | true =>
  refine ⟨fun a T' h => ?_, fun x h => by simp at h⟩
  simp only [if_true, Option.some.injEq, Except.ok.injEq, Prod.mk.injEq] at h
  obtain ⟨_, rfl⟩ := h
  have hlt : i < T0.length := by
   rcases Nat.lt_or_ge i T0.length with h | h
   ·exact h
   ·rw [List.drop_of_length_le h] at hp; cases hp
  have hw : wrap64 ((i : Int) + 1) = ((i + 1 : Nat) : Int) := by unfold wrap64; omega
  refine ⟨i + 1, hlt, by rw [xCj T0 i hlt]; rfl, ?_⟩
  rw [if_pos rfl, hw]
  rfl
 | false =>
  refine ⟨fun a T' h => (by simp at h), fun x h => ?_⟩
  simp only [Bool.false_eq_true, if_false, Option.some.injEq, Except.error.injEq] at h
  subst h
  refine ⟨by simp, (), i, hi, ?_⟩
  rw [if_neg (by simp), xF0]
  rfl
theorem xLm {i : Nat} {n k : Int} (h : T0.length ≤ i) : otok T0 k i n 0 0 = some (⟨0, ⟨#[]⟩, 0, 0⟩, (i : Int), n, 111, n) := by
 unfold otok xAg.f
 rw [if_neg (fun h => by omega), if_pos (Or.inr (Or.inl (by omega))), xF0, List.drop_of_length_le h]
 rfl
theorem xLl {i : Nat} {n k : Int} (hT : T0.length ≤ 1000000) (h : i < T0.length) : otok T0 k i n 0 0 = if (xAu T0 (i : Int)).f0 = k then some (xAu T0 (i : Int), ((i + 1 : Nat) : Int), n, 0, 0) else some (⟨0, ⟨#[]⟩, 0, 0⟩, (i : Int), n, 111, (xAu T0 (i : Int)).f3) := by
 unfold otok xAg.f
 by_cases hk : (xAu T0 (i : Int)).f0 = k
 ·rw [if_pos ⟨rfl, by omega, by omega, by omega, hk⟩, if_pos hk]
  rfl
 ·rw [if_neg (fun h => hk h.2.2.2.2), if_neg hk, if_pos (Or.inr (Or.inr ⟨by omega, hk⟩)), xF0, xCj T0 i h]
  rfl
theorem Rel.tok (hT : T0.length ≤ 1000000) {k : Int} (hk : k ≠ 0) : Rel T0 en (gof k) (otok T0 k) (fun t => t) := by
 intro i hi
 unfold gof pof
 rcases Nat.lt_or_ge i T0.length with h | h
 ·rw [xLl hT h, xCj T0 i h]
  simp only [xEu, pmay, if_neg hk]
  by_cases h0 : (xAu T0 (i : Int)).f0 = k
  ·simp only [if_pos h0]
   refine ⟨fun a T' e => ?_, fun x e => by cases e⟩
   cases e
   exact ⟨i + 1, h, rfl, rfl⟩
  ·simp only [if_neg h0]
   refine ⟨fun a T' e => (by cases e), fun x e => ?_⟩
   cases e
   exact ⟨by show (111 : Int) ≠ 0; decide, _, i, hi, rfl⟩
 ·rw [xLm h, List.drop_of_length_le h]
  simp only [xEu]
  refine ⟨fun a T' e => (by cases e), fun x e => ?_⟩
  cases e
  exact ⟨by show (111 : Int) ≠ 0; decide, _, i, hi, rfl⟩
theorem Rel.name (hT : T0.length ≤ 1000000) (hz : ∀ t ∈ T0, t.f1.size ≤ 140737488351232) {K : Nat} (hK : 20 < K) : Rel T0 en (gof 0) (xHe K T0) (fun t => t) := by
 intro i hi
 unfold gof pof xHe xAt.f
 rcases Nat.lt_or_ge i T0.length with h | h
 ·rw [if_pos (by omega), if_pos (by omega), xCj T0 i h]
  have hm : xAu T0 (i : Int) ∈ T0 := by
   have : T0[i]'h = xAu T0 (i : Int) := by unfold xAu; simp [List.getD_eq_getElem?_getD, h]
   rw [← this]; exact List.getElem_mem h
  have hr := xGj _ (hz _ hm)
  have hq := xLx (xAu T0 (i : Int)).f1 K hK
  have ht : (xAg.f T0 i en 0 0 0).bind (fun x => some ((⟨x.1, x.2.1, x.2.2.1, x.2.2.2.1⟩ : S60), x.2.2.2.2)) = otok T0 0 i en 0 0 := rfl
  have htr := xLl (k := 0) (n := en) hT h
  simp only [xEu, pmay, presv]
  by_cases h0 : (xAu T0 (i : Int)).f0 = 0
  ·rw [if_pos h0, if_pos h0, hq, Option.bind_some]
   rw [hr]
   cases hb : resB (xAu T0 (i : Int)).f1.data.toList with
   | true =>
    rw [if_pos rfl, xF0, xCj T0 i h]
    refine ⟨fun a T' e => (by cases e), fun x e => ?_⟩
    cases e
    exact ⟨by show (111 : Int) ≠ 0; decide, _, i, hi, rfl⟩
   | false =>
    rw [if_neg Bool.false_ne_true, ht, htr, if_pos h0]
    refine ⟨fun a T' e => ?_, fun x e => by cases e⟩
    cases e
    exact ⟨i + 1, h, rfl, rfl⟩
  ·rw [if_neg h0, if_neg h0, ht, htr, if_neg h0]
   refine ⟨fun a T' e => (by cases e), fun x e => ?_⟩
   cases e
   exact ⟨by show (111 : Int) ≠ 0; decide, _, i, hi, rfl⟩
 ·rw [if_neg (by omega), List.drop_of_length_le h]
  have ht : (xAg.f T0 i en 0 0 0).bind (fun x => some ((⟨x.1, x.2.1, x.2.2.1, x.2.2.2.1⟩ : S60), x.2.2.2.2)) = otok T0 0 i en 0 0 := rfl
  rw [ht, xLm h]
  simp only [xEu]
  refine ⟨fun a T' e => (by cases e), fun x e => ?_⟩
  cases e
  exact ⟨by show (111 : Int) ≠ 0; decide, _, i, hi, rfl⟩
end

/-! the words that come next, expressions -/
abbrev OPWS : List ByteArray := [(⟨#[108, 105, 110, 101, 97, 114]⟩ : ByteArray), (⟨#[99, 111, 110, 99, 97, 116]⟩ : ByteArray), (⟨#[109, 105, 114, 114, 111, 114]⟩ : ByteArray), (⟨#[115, 110, 97, 112, 115, 104, 111, 116]⟩ : ByteArray), (⟨#[99, 114, 121, 112, 116]⟩ : ByteArray), (⟨#[105, 110, 116, 101, 103, 114, 105, 116, 121]⟩ : ByteArray), (⟨#[118, 101, 114, 105, 116, 121]⟩ : ByteArray)]
section
variable {T0 : List S60} {en : Int}
theorem op_l0 {i n bad at_ : Int} (q : ByteArray → Bool) (hq : ∀ x, xAi.f T0 i n bad at_ x = some (q x, i, n, bad, at_)) (xs : List ByteArray) (hx : xs.length ≤ 1000) :
  ∀ (d j k : Nat), xs.length - j ≤ d → j ≤ xs.length → d < k → xAm.l0 k xs (j : Int) T0 i n bad at_ = some ((((xs.drop j).find? q).getD ⟨#[]⟩), i, n, bad, at_) := by
 intro d
 induction d with
 | zero =>
  intro j k hd hj hk
  obtain ⟨k, rfl⟩ : ∃ r, k = r + 1 := ⟨k - 1, by omega⟩
  rw [xAm.l0, if_neg (by omega), List.drop_of_length_le (by omega)]
  rfl
 | succ d ih =>
  intro j k hd hj hk
  obtain ⟨k, rfl⟩ : ∃ r, k = r + 1 := ⟨k - 1, by omega⟩
  rw [xAm.l0]
  by_cases h : j < xs.length
  ·have e : rdOf ByteArray.empty xs (j : Int) = xs[j] := by unfold rdOf; simp [List.getD_eq_getElem?_getD, h]
   have hw : wrap64 ((j : Int) + 1) = ((j + 1 : Nat) : Int) := by unfold wrap64; omega
   rw [if_pos (by omega), if_pos (by omega), hq, Option.bind_some, e, List.drop_eq_getElem_cons h, List.find?_cons, hw]
   cases hqx : q xs[j] with
   | true => rfl
   | false =>
    rw [if_neg (by simp)]
    exact ih (j + 1) k (by omega) h (by omega)
  ·rw [if_neg (by omega), List.drop_of_length_le (by omega)]
   rfl
theorem xMa {i n bad at_ : Int} (q : ByteArray → Bool) (hq : ∀ x, xAi.f T0 i n bad at_ x = some (q x, i, n, bad, at_)) {k : Nat} (hk : 20 ≤ k) :
  xAm.f k T0 i n bad at_ = some ((OPWS.find? q).getD ⟨#[]⟩, i, n, bad, at_) := by
 unfold xAm.f
 exact op_l0 q hq OPWS (by decide) 7 0 k (by decide) (by omega) (by omega)
theorem xM9 {i n bad at_ : Int} (h : bad ≠ 0) {k : Nat} (hk : 20 ≤ k) : xAm.f k T0 i n bad at_ = some (⟨#[]⟩, i, n, bad, at_) :=
 xMa (fun _ => false) (fun x => xKe h x) hk
theorem xHh {a b : ByteArray} (h : a.toList = b.toList) : a = b := by
 rw [ByteArray.toList_eq, ByteArray.toList_eq] at h
 exact xDx h
theorem xHt {a : ByteArray} (h : 2 ≤ a.size) : ¬ a.toList = [] := by
 intro e
 rw [ByteArray.toList_eq] at e
 have : a.size = 0 := by
  show a.data.size = 0
  rw [← Array.length_toList, e]
  rfl
 omega
theorem xHv (WS : List ByteArray) {t : S60} {D : List S60} (h : t.f0 = 0 ∧ t.f1 ∈ WS) : (WS.find? (pis (t :: D))).getD ⟨#[]⟩ = t.f1 := by
 obtain ⟨h0, h2⟩ := h
 cases h : WS.find? (pis (t :: D)) with
 | some x =>
  have h1 := List.find?_some h
  simp only [pis, Bool.and_eq_true, beq_iff_eq] at h1
  exact (xHh h1.2).symm
 | none =>
  have := List.find?_eq_none.1 h _ h2
  exact absurd (by simp [pis, h0]) this
theorem xHw (WS : List ByteArray) (hs : ∀ x ∈ WS, 2 ≤ x.size) {t : S60} {D : List S60} (hg : xDn t) (hn : ¬ (t.f0 = 0 ∧ t.f1 ∈ WS)) : (WS.find? (pis (t :: D))).getD ⟨#[]⟩ = ⟨#[]⟩ := by
 cases h : WS.find? (pis (t :: D)) with
 | some x =>
  exfalso
  have h1 := List.find?_some h
  have h2 := List.mem_of_find?_eq_some h
  simp only [pis, Bool.and_eq_true, Bool.or_eq_true, beq_iff_eq] at h1
  have e : t.f1 = x := xHh h1.2
  subst e
  rcases h1.1 with h0 | h3
  ·exact hn ⟨h0, h2⟩
  ·have hz := hs _ h2
   rcases hg with ⟨h, _⟩ | ⟨h, _⟩ | ⟨h, _⟩ | ⟨_, ⟨c, hc, _⟩, _⟩
   ·rw [h3] at h; cases h
   ·rw [h3] at h; cases h
   ·rw [h3] at h; cases h
   ·have := xAy t.f1
    rw [hc] at this
    simp at this
    omega
 | none => rfl
theorem xGz (s : ByteArray) : xDr s = true ↔ s ∈ OPWS := by
 constructor
 ·intro h
  have h1 := xG7 s
  rw [h] at h1
  unfold xCl.f at h1
  have lit : ∀ (l : List UInt8), s.toList = l → s = ⟨l.toArray⟩ := by
   intro l e1
   rw [ByteArray.toList_eq] at e1
   exact xDx (by rw [e1])
  repeat' split at h1
  all_goals first
   | (cases h1; done)
   | (rename_i e; rw [lit _ e]; simp)
 ·intro h
  have key : (OPWS.all fun x => xDr x) = true := by kernel_rfl
  exact List.all_eq_true.1 key s h
theorem xJa : ∀ x ∈ OPWS, 2 ≤ x.size := by
 have key : (OPWS.all fun x => decide (2 ≤ x.size)) = true := by kernel_rfl
 intro x hx
 simpa using List.all_eq_true.1 key x hx
theorem xKc : ∀ x ∈ kws, 2 ≤ x.size := by
 have key : (kws.all fun x => decide (2 ≤ x.size)) = true := by kernel_rfl
 intro x hx
 simpa using List.all_eq_true.1 key x hx
theorem xK6 (t : S60) : pstw t = true ↔ t.f0 = 0 ∧ t.f1 ∈ kws := by
 have lit : ∀ (s x : ByteArray), s = x ↔ s.toList = x.data.toList := by
  intro s x
  rw [ByteArray.toList_eq]
  exact ⟨fun h => by rw [h], fun h => xDx h⟩
 unfold pstw kws
 simp only [List.mem_cons, List.not_mem_nil, or_false, lit, Bool.and_eq_true, Bool.or_eq_true, beq_iff_eq]
 constructor
 ·rintro ⟨h, h0⟩
  exact ⟨h0, by simpa [or_assoc] using h⟩
 ·rintro ⟨h0, h⟩
  exact ⟨by simpa [or_assoc] using h, h0⟩
theorem op_run {i : Nat} {n at_ : Int} (hg : ∀ t ∈ T0, xDn t) (hi : i ≤ T0.length) {k : Nat} (hk : 20 ≤ k) :
  xAm.f k T0 i n 0 at_ = some (if ptgt (T0.drop i) = true then ((T0.drop i).headD z60).f1 else ⟨#[]⟩, (i : Int), n, 0, at_) := by
 rw [xMa (pis (T0.drop i)) (fun x => xJ4 x) hk]
 rcases Nat.lt_or_ge i T0.length with h | h
 ·have hm : xAu T0 (i : Int) ∈ T0 := by
   have : T0[i]'h = xAu T0 (i : Int) := by unfold xAu; simp [List.getD_eq_getElem?_getD, h]
   rw [← this]; exact List.getElem_mem h
  rw [xCj T0 i h]
  have e : (ptgt (xAu T0 (i : Int) :: T0.drop (i + 1)) = true) ↔ ((xAu T0 (i : Int)).f0 = 0 ∧ (xAu T0 (i : Int)).f1 ∈ OPWS) := by
   unfold ptgt
   simp only [Bool.and_eq_true, beq_iff_eq, xGz]
  by_cases hc : (xAu T0 (i : Int)).f0 = 0 ∧ (xAu T0 (i : Int)).f1 ∈ OPWS
  ·rw [xHv OPWS hc, if_pos (e.2 hc)]; rfl
  ·rw [xHw OPWS xJa (hg _ hm) hc, if_neg (fun h => hc (e.1 h))]
 ·rw [List.drop_of_length_le h]
  rfl
theorem xMf {i n bad at_ : Int} (q : ByteArray → Bool) (hq : ∀ x, xAi.f T0 i n bad at_ x = some (q x, i, n, bad, at_)) : ∀ ws : List ByteArray, kwOf T0 i n bad at_ ws = some ((ws.find? q).getD ⟨#[]⟩, i, n, bad, at_)
 | [] => rfl
 | w :: ws => by
  rw [kwOf, hq, Option.bind_some]
  dsimp only
  rw [List.find?_cons]
  cases h : q w with
  | true => rfl
  | false =>
   rw [if_neg (by simp)]
   exact xMf q hq ws
/-! ### expressions -/
def xFp (K : Nat) (T0 : List S60) (nest : Int) : Rdr S25 := fun i n b a => rexpr K T0 i n b a nest
def xFz (K : Nat) (T0 : List S60) (nest : Int) (acc : List S25) : Rdr (List S25) := fun i n b a => (xAi.f T0 i n b a CM).bind fun x => rexprs K T0 x.2.1 x.2.2.1 x.2.2.2.1 x.2.2.2.2 nest acc x.1
def obr (K : Nat) (T0 : List S60) (w : ByteArray) (nest : Int) (first : S25) : Rdr (List S25) :=
 rite (w.toList = ([108, 105, 110, 101, 97, 114] : List UInt8)) (rb (xEy T0 CM) fun _ => rb (otok T0 1) fun a => rb (xEy T0 CM) fun _ => rb (otok T0 1) fun b => rret ([first] ++ [xC8 a] ++ [xC8 b]))
 (rite (w.toList = ([115, 110, 97, 112, 115, 104, 111, 116] : List UInt8)) (rb (xEy T0 CM) fun _ => rb (xFp K T0 (nest + 1)) fun a => rb (xEy T0 CM) fun _ => rb (otok T0 1) fun b => rret ([first] ++ [a] ++ [xC8 b]))
 (rite (w.toList = ([99, 114, 121, 112, 116] : List UInt8) ∨ w.toList = ([105, 110, 116, 101, 103, 114, 105, 116, 121] : List UInt8) ∨ w.toList = ([118, 101, 114, 105, 116, 121] : List UInt8)) (rb (xEy T0 CM) fun _ => rb (xHe K T0) fun a => rret ([first] ++ [xBu a]))
 (xFz K T0 nest [first])))
def otail (K : Nat) (T0 : List S60) (w : ByteArray) (pl : Int) (nest : Int) : Rdr S25 := rb (xEy T0 LP) fun _ => rb (xFp K T0 (nest + 1)) fun first => rb (obr K T0 w nest first) fun L => rb (xEy T0 RP) fun _ => rret ⟨w, ⟨#[]⟩, 0, pl, L⟩
theorem Stk.expr {K : Nat} (hK : 20 ≤ K) {nest : Int} (hn : 0 ≤ nest ∧ nest ≤ 13) : Stk T0.length (xFp (K + 1) T0 nest) := by
 intro i n bad at_ hi hb
 refine ⟨z25, ?_⟩
 unfold xFp
 rw [rexpr, if_neg (by omega)]
 split
 ·rw [xGp hb, Option.bind_some]
  dsimp only
  rw [xM9 hb hK, Option.bind_some]
  dsimp only
  rw [if_neg hb]
 ·rw [xM9 hb hK, Option.bind_some]
  dsimp only
  rw [if_neg hb]
theorem Stk.exprs {K : Nat} {nest : Int} {acc : List S25} : Stk T0.length (xFz (K + 1) T0 nest acc) := by
 intro i n bad at_ hi hb
 refine ⟨acc, ?_⟩
 unfold xFz
 rw [xKe hb, Option.bind_some]
 dsimp only
 rw [rexprs, if_neg (by simp)]
theorem Stk.br {K : Nat} (hK : 20 ≤ K) {nest : Int} (hn : 0 ≤ nest ∧ nest ≤ 12) {w : ByteArray} {first : S25} : Stk T0.length (obr (K + 1) T0 w nest first) :=
 Stk.ite (Stk.bd (Stk.must _) fun _ => Stk.bd (Stk.tok _) fun _ => Stk.bd (Stk.must _) fun _ => Stk.bd (Stk.tok _) fun _ => Stk.ret _)
 (Stk.ite (Stk.bd (Stk.must _) fun _ => Stk.bd (Stk.expr hK (by omega)) fun _ => Stk.bd (Stk.must _) fun _ => Stk.bd (Stk.tok _) fun _ => Stk.ret _)
 (Stk.ite (Stk.bd (Stk.must _) fun _ => Stk.bd (Stk.name (by omega)) fun _ => Stk.ret _) Stk.exprs))
theorem xKq {K : Nat} {T0 : List S60} {i n : Int} {nest : Int} {w : ByteArray} {pl : Int} (hn0 : ¬ (nest < 0 ∨ nest > 100)) (hn : ¬ nest > 12) (hi : 0 ≤ i ∧ i ≤ 1000000) (hop : xAm.f K T0 i n 0 0 = some (w, i, n, 0, 0)) (hw : ¬ w.toList = []) (hp : xAq.f T0 i n 0 0 = some (pl, i, n, 0, 0)) :
  rexpr (K + 1) T0 i n 0 0 nest = otail K T0 w pl nest (i + 1) n 0 0 := by
 rw [rexpr, if_neg hn0, if_neg hn, hop, Option.bind_some]
 dsimp only
 rw [if_pos rfl, if_neg hw, hp, Option.bind_some]
 dsimp only
 rw [if_pos hi]
 unfold otail rb xEy xFp obr rite rb xEy otok xHe xFp xFz rret xB7.f xBe.f
 simp only [Option.bind_assoc, Option.bind_some, xFi, xC8, xBu, List.singleton_append, List.cons_append, List.nil_append]
end
end Go.Proofs.YtknbfhhmjbnemaaDoor.P
end
